/- Parts of the proof, one behind the other. -/
import Derived.Test.YtoafjbillcooiaaGreatLvfP1
import Derived.RangeFuncBox
import Derived.Maps.AppendAt
import Derived.Shelf.RegionOpen
import Derived.Laws.Bits64
import Derived.Laws.Bits64b
import Derived.OrdersIn
import Derived.OwnWalkIn
import Derived.RangeFuncCalls
import Derived.BigQuiet
import Derived.Deep.RegionHeld3
import Derived.Deep.LoopGhost
import Derived.Lib.ItoaNum
import Derived.RangeFuncKeeps
import Derived.RangeFuncFrom
import Derived.Laws.EntriesVeiled
import Derived.Laws.AppendOwnNone
namespace Go.Proofs.YtoafjbillcooiaaGreat
open Go.RowKit Go.ChangeMaps
set_option linter.unusedSimpArgs false
set_option linter.unusedVariables false
attribute [local go_sem] Oper.semAt_some
theorem SeqP.later {α : Type} {F : Fence} {n : Nat} {P : Program} {g : Nat} {lb : Array Value} {encs : α → Array Value} {Px : α → World → Prop} {S : List α → Prop} {N : Nat} {w w' : World}
    (h : SeqP F n P g lb encs Px S N w) (hb : Below w.heap.size w w') : SeqP F n P g lb encs Px S N w' := fun l J W hW => h l J W (bnext hb hW)
theorem keys_any (m : Value) (w : World) (hm : ∃ p, m = .map p) : Calls Tryz.prog 157 #[m] w fun e w' => e = .returned (.func (.func 174) #[] #[.pointer (some ⟨w.heap.size, 0, none⟩)]) ∧ w' = w.alloc (.cells #[m] 212) := by
  obtain ⟨p, rfl⟩ := hm
  go_enter Tryz.func157, Tryz.ntmps157
  go_wp2
  go_ret
  exact ⟨rfl, rfl⟩
def Coll {α : Type} (S : List α → Prop) (f : α → Int) (w : World) (e : Ending) (w' : World) : Prop :=
  ∃ (v : Value) (xs : List α), e = .returned v ∧ S xs ∧ w'.ownsRow w.heap.size 37 1 v xs.length (xs.map fun x => .int .u64 (f x)) ∧ Below w.heap.size w w'
set_option maxRecDepth 100000 in
set_option maxHeartbeats 2000000 in
theorem append_seq (w : World) (gf N : Nat) (lb : Array Value) (S : List Int → Prop) (Px : Int → World → Prop) (hpx : ∀ k W W', Px k W → Px k W') (eg : ∀ args w, (callFunc gf args).run Tryz.prog w = .ok (.enter gf args) w)
    (hseq : SeqP Fence.wide 4 Tryz.prog gf lb (fun k : Int => #[.int .u64 k]) Px S N w) (hN : N ≤ 1000000) :
    Calls Tryz.prog 162 #[.slice none 0 0, .func (.func gf) #[] lb] w (Coll S id w) := by
  refine (callsIn_wide (n := 5)).1 ?_
  obtain ⟨i0, hi, hz0, hz1, hz2⟩ := info_parts info_u64
  refine callsIn_of_wp_marks Tryz.func162 rfl trivial ?_ rfl
  simp only [Tryz.ntmps162, List.size_toArray, List.length_cons, List.length_nil, Nat.reduceAdd, Nat.reduceSub, Array.replicate_succ, Array.replicate_zero, List.push_toArray, List.append_toArray, List.nil_append, List.cons_append]
  gi_wp2
  have bO := Boxed.new w 23 (.slice none 0 0)
  have hB0 : Below w.heap.size w (w.alloc (.cells #[.slice none 0 0] 23)) := (Below.refl _ w).alloc (Nat.le_refl _) _
  refine wpIn_rangeFunc_P rfl (by omega) (gf := gf) (lb := lb) rfl trivial eg (hseq.later hB0) (fun x W l r o' h _ => hpx x W _ h) (fun _ => rfl)
    (fun pre W => (∃ v, Boxed W w.heap.size 23 v ∧ W.ownsRow w.heap.size 37 1 v pre.length (pre.map fun x => Value.int .u64 x) ∧ True) ∧ Below w.heap.size w W)
    (OwnFrom.and (Own.from (holdsRow_own w.heap.size w.heap.size 23 37 1 (fun pre : List Int => pre.length) (fun pre => pre.map fun x => Value.int .u64 x) (fun _ _ => True)) _) (ownFrom_below (Nat.le_refl _) (by simp)))
    ⟨⟨_, bO, World.ownsRow_nil _ _ _ _, trivial⟩, hB0⟩
    (fun x => { tmps := #[.slice none 0 0, .func (.func gf) #[] lb, .pointer (some ⟨w.heap.size, 0, none⟩), undef, .slice none 0 0, .int .u64 x, .func (.func gf) #[] lb, .int .u64 x, undef, undef, undef, undef, undef], defers := [] }) ?assign ?body ?done
  case assign =>
    intro l x W K hK
    gi_wp2
    exact hK
  case body =>
    rintro l pre x W ⟨⟨v, hv, hrow, -⟩, hB⟩ hpx hlt
    have hc := hv.cell
    gi_wp2_with (gi_at_builtin; refine wpListIn_append_own _ rfl _ _ 23 rfl w.heap.size 37 i0 (.int .u64 0) 1 8 Tryz.underlying23 hi hz0 hz1 hz2 rfl (by decide) _ _ _ rfl (hrow.alloc _) ⟨W.heap.size, 0, none⟩ 1 1 [.int .u64 x] rfl rfl (cell_one_new _ _ _) (by simp [Value.oneCell']) (by unfold maxLen; omega) (by omega) (by have := hB.size; simp; omega) ?_; intro v' w1 hown' hgrow _; obtain ⟨g', cap', rfl⟩ := ownsRow_succ hown'; obtain ⟨hv1, hv2, hr2, hk2, hb2⟩ := hv.appended (by decide) hrow hB.size (Nat.le_refl _) hown' hgrow; have hc1 := hv1.cell; have hf1 := hv1.frozen)
    exact ⟨hk2.from _, hk2.walks, ⟨_, hv2, by simpa using hr2, trivial⟩, hB.trans hb2⟩
  case done =>
    rintro D ys W hD hS ⟨⟨v, hv, hrow, -⟩, hB⟩ hK
    have hc := hv.cell
    gi_wp2
    refine ⟨by simp, .inl ⟨_, _, rfl, run_takeDeferred hK, ?_⟩⟩
    exact ⟨_, results_tmp rfl _ _ _, v, ys, rfl, hS, ownsRow_putObj hrow _ hK rfl, hB.trans (belowK_b (w := w) (Nat.le_refl _) W D _ _ (by simp at hD; omega) hK rfl rfl)⟩
theorem collect_any (w : World) (gf N : Nat) (lb : Array Value) (S : List Int → Prop) (Px : Int → World → Prop) (hpx : ∀ k W W', Px k W → Px k W') (eg : ∀ args w, (callFunc gf args).run Tryz.prog w = .ok (.enter gf args) w)
    (hseq : SeqP Fence.wide 4 Tryz.prog gf lb (fun k : Int => #[.int .u64 k]) Px S N w) (hN : N ≤ 1000000) :
    Calls Tryz.prog 131 #[.func (.func gf) #[] lb] w (Coll S id w) := by
  have HS := Lib.hid hseq
  have HP := Lib.hid hpx
  have HG := Lib.hid eg
  clear hseq hpx eg
  go_enter Tryz.func131, Tryz.ntmps131
  go_wp2_with fail
  refine (append_seq w gf N lb S Px HP.out HG.out HS.out hN).mono ?_
  rintro e w' ⟨v, xs, rfl, hS, hr, hb⟩
  have H1 := Lib.hid hS
  have H2 := Lib.hid hr
  have H3 := Lib.hid hb
  clear hS hr hb
  go_wp2
  go_ret
  exact ⟨v, xs, rfl, H1.out, H2.out, H3.out⟩
end Go.Proofs.YtoafjbillcooiaaGreat
namespace Go.Proofs.YtoafjbillcooiaaGreat
open Go.RowKit Go.Sort
set_option linter.unusedSimpArgs false
set_option linter.unusedVariables false
def srt (l : List Int) : List Int := l.mergeSort fun x y => decide (x ≤ y)
theorem srt_len (l : List Int) : (srt l).length = l.length := by unfold srt; exact List.length_mergeSort l
theorem srt_mem (l : List Int) (k : Int) : k ∈ srt l ↔ k ∈ l := by unfold srt; exact List.mem_mergeSort
theorem srt_up (l : List Int) : (srt l).Pairwise (fun a b => a ≤ b) := by
  have := List.pairwise_mergeSort (le := fun x y : Int => decide (x ≤ y)) (fun a b c h1 h2 => by simp only [decide_eq_true_eq] at *; omega) (fun a b => by simp only [Bool.or_eq_true, decide_eq_true_eq]; omega) l
  simpa [srt] using this
theorem srt_nodup {l : List Int} (h : l.Nodup) : (srt l).Nodup := (List.mergeSort_perm l _).symm.nodup h
theorem rising_eq : ∀ {a b : List Int}, a.Pairwise (fun x y => x < y) → b.Pairwise (fun x y => x < y) → (∀ k, k ∈ a ↔ k ∈ b) → a = b
  | [], [], _, _, _ => rfl
  | [], y :: b, _, _, h => absurd ((h y).2 (List.mem_cons_self ..)) (by simp)
  | x :: a, [], _, _, h => absurd ((h x).1 (List.mem_cons_self ..)) (by simp)
  | x :: a, y :: b, ha, hb, h => by
    rw [List.pairwise_cons] at ha hb
    have hxy : x = y := by
      rcases List.mem_cons.1 ((h x).1 (List.mem_cons_self ..)) with e | hx
      · exact e
      · rcases List.mem_cons.1 ((h y).2 (List.mem_cons_self ..)) with e | hy
        · exact e.symm
        · have := ha.1 y hy; have := hb.1 x hx; omega
    subst hxy
    rw [rising_eq ha.2 hb.2 (fun k => by
      have hk := h k
      simp only [List.mem_cons] at hk
      constructor
      · intro hm
        rcases hk.1 (.inr hm) with e | h2
        · subst e; have := ha.1 k hm; omega
        · exact h2
      · intro hm
        rcases hk.2 (.inr hm) with e | h2
        · subst e; have := hb.1 k hm; omega
        · exact h2)]
theorem srt_rising {l : List Int} (h : l.Nodup) : (srt l).Pairwise (fun x y => x < y) := by
  have h1 := srt_up l
  have h2 := srt_nodup h
  have := List.Pairwise.and h1 h2
  exact this.imp (fun h => by have := h.1; have := h.2; omega)
theorem srt_of {l m : List Int} (h : l.Nodup) (hm : m.Pairwise (fun x y => x < y)) (he : ∀ k, k ∈ l ↔ k ∈ m) : srt l = m := rising_eq (srt_rising h) hm (fun k => (srt_mem l k).trans (he k))
theorem ins_srt (l : List Int) : Sort.insertionSort ltInt l.toArray 0 l.toArray.size = (srt l).toArray := by
  obtain ⟨hP, hSo⟩ := insertionSort_holds (lt := ltInt) swo_ltInt l.toArray 0 l.toArray.size (Nat.zero_le _) (Nat.le_refl _)
  have h := sorted_unique_holds swo_ltInt (fun x y h1 h2 => by simp only [ltInt, decide_eq_false_iff_not] at h1 h2; omega) l.toArray _ hP hSo
  apply Array.toList_inj.1
  rw [h]
  unfold srt
  congr 1
  funext x y
  simp only [ltInt]
  by_cases hxy : x ≤ y
  · have : ¬ y < x := by omega
    simp [hxy]
  · have : y < x := by omega
    simp [hxy, this]
theorem holds_row {w : World} {g : Nat} {cur : Array Value} {e : TypeId} {ss : List Int} (hb : w.heap[g]? = some (.cells cur e (0, 0))) (ht : cur.toList.take ss.length = ss.map (Value.int .u64)) : Holds (Value.int .u64) w g 0 ss.toArray := by
  intro j hj
  have hj' : j < ss.length := by simpa using hj
  refine ⟨?_, by simp [World.frozen?, hb]⟩
  have h1 : (cur.toList.take ss.length)[j]? = (ss.map (Value.int .u64))[j]? := by rw [ht]
  rw [List.getElem?_take_of_lt hj'] at h1
  simp only [World.cell?, hb, Nat.zero_add]
  simp only [Option.isSome_none, Bool.false_eq_true, if_false]
  rw [← Array.getElem?_toList, h1]
  simp [hj']
theorem put_block {w : World} {g n : Nat} {cur : Array Value} {e : TypeId} {fr : Nat × Nat} (d : Array Int) (hb : w.heap[g]? = some (.cells cur e fr)) :
    (putRow (Value.int .u64) (Sort.ahead w n) g 0 d).heap[g]? = some (.cells (putCells (Value.int .u64) 0 d cur) e fr) := by
  simp [putRow, mapBlock, Sort.ahead, Array.getElem?_modify, hb, onCells]
theorem put_grown {w : World} {g n : Nat} (d : Array Int) : w.grownBy (putRow (Value.int .u64) (Sort.ahead w n) g 0 d) (some g) := by
  refine ⟨rfl, rfl, rfl, by simp [putRow, mapBlock, Sort.ahead], fun k hk hne => ?_⟩
  have : g ≠ k := fun e => hne (by rw [e])
  simp [putRow, mapBlock, Sort.ahead, Array.getElem?_modify, this]
theorem put_take (cur : Array Value) (ts : List Int) (h : ts.length ≤ cur.size) : (putCells (Value.int .u64) 0 ts.toArray cur).toList.take ts.length = ts.map (Value.int .u64) := by
  apply List.ext_getElem?
  intro j
  by_cases hj : j < ts.length
  · rw [List.getElem?_take_of_lt hj, Array.getElem?_toList]
    simp [putCells, hj, show j < cur.size by omega]
  · rw [List.getElem?_take_eq_none (by omega), List.getElem?_eq_none (by simp; omega)]
theorem put_own {w : World} {base g cap n : Nat} {e : TypeId} {cur : Array Value} {ss ts : List Int} (hl : ts.length = ss.length) (hbase : base ≤ g) (hb : w.heap[g]? = some (.cells cur e (0, 0)))
    (h1 : ss.length ≤ cap) (h2 : cap ≤ maxLen) (h3 : cur.size = cap * 1) :
    (putRow (Value.int .u64) (Sort.ahead w n) g 0 ts.toArray).ownsRow base e 1 (.slice (some ⟨g, 0, none⟩) ss.length cap) ss.length (ts.map (Value.int .u64)) :=
  ⟨by simp [hl], .inr ⟨g, cap, _, rfl, hbase, put_block _ hb, h1, h2, by simp [putCells, h3], by rw [Nat.mul_one, ← hl]; exact put_take cur ts (by omega)⟩⟩
theorem insertion_nil (w : World) : Calls Tryz.prog 178 #[.slice none 0 0, .int .i64 0, .int .i64 0] w fun e w' => e = .returned (.tuple #[]) ∧ w = w' := by
  go_enter Tryz.func178, Tryz.ntmps178
  go_wp2_with fail
  refine wp_loop_rounds 1 ?_
  rw [rounds_succ]
  go_wp2
  go_end0
  exact ⟨rfl, rfl⟩
set_option maxRecDepth 100000 in
theorem pdq_nil (w : World) (lim : Nat) : Calls Tryz.prog 176 #[.slice none 0 0, .int .i64 0, .int .i64 0, .int .i64 lim] w fun e w' => e = .returned (.tuple #[]) ∧ w = w' := by
  go_enter Tryz.func176, Tryz.ntmps176
  go_wp2_with fail
  refine wp_loop_rounds 1 ?_
  rw [rounds_succ]
  go_wp2_with fail
  refine (insertion_nil w).mono ?_
  rintro e w' ⟨rfl, rfl⟩
  go_wp2
  refine bodyPost_ret (results_none rfl _ _ _) rfl ?_
  exact ⟨rfl, rfl⟩
def SortedIs (base : Nat) (v : Value) (xs : List Int) (w : World) (e : Ending) (w' : World) : Prop :=
  e = .returned (.tuple #[]) ∧ w'.ownsRow base 37 1 v xs.length ((srt xs).map (Value.int .u64)) ∧ w.grownBy w' v.ownBlock
set_option maxRecDepth 100000 in
theorem sort12_any (w : World) (base : Nat) (v : Value) (xs : List Int) (hown : w.ownsRow base 37 1 v xs.length (xs.map (Value.int .u64))) (h12 : xs.length ≤ 12) :
    Calls Tryz.prog 165 #[v] w (SortedIs base v xs w) := by
  have hbl := fun x w h0 h1 => Tryz.bits_Len x w h0 h1
  obtain ⟨h1, h2⟩ := hown
  rcases h2 with ⟨rfl, h2⟩ | ⟨g, cap, cur, rfl, hg, hh, hc1, hc2, hc3, hc4⟩
  · obtain rfl : xs = [] := List.eq_nil_of_length_eq_zero h2
    clear h1 h2 h12
    go_enter Tryz.func165, Tryz.ntmps165
    go_wp2_with fail
    refine (hbl 0 _ (by decide) (by decide)).mono ?_
    rintro e w' ⟨rfl, rfl⟩
    go_wp2_with fail
    refine (pdq_nil _ _).mono ?_
    rintro e w'' ⟨rfl, rfl⟩
    go_wp2
    go_end0
    exact ⟨rfl, (by rw [show srt [] = [] by simp [srt]]; exact World.ownsRow_nil _ _ _ _), ⟨rfl, rfl, rfl, Nat.le_refl _, fun _ _ _ => rfl⟩⟩
  · have HO : Hid (Holds (Value.int .u64) w g 0 xs.toArray) := Lib.hid (holds_row hh (by rw [Nat.mul_one] at hc4; exact hc4))
    have HH := Lib.hid hh
    have H3 := Lib.hid hc3
    have hz : (xs.length : Int) ≤ 12 := by omega
    have hsz : xs.toArray.size = xs.length := by simp
    have hx : xs.toArray.size ≤ 12 := by omega
    have P := fun (W : World) (lim : Nat) (hW : W = w) => pdq12_any g 0 cap lim xs.toArray W (by rw [hW]; exact HO.out) hx
    rw [hsz] at P
    have HP := Lib.hid P
    clear P hh hc3 hc4 h1 hsz hx
    go_enter Tryz.func165, Tryz.ntmps165
    go_wp2_with fail
    refine (hbl xs.length _ (by omega) (by omega)).mono ?_
    rintro e w' ⟨rfl, rfl⟩
    go_wp2_with fail
    refine (HP.out _ _ rfl).mono ?_
    rintro e w'' ⟨rfl, n, hw⟩
    have HW := Lib.hid hw
    clear hw
    go_wp2
    go_end0
    refine ⟨rfl, ?_, ?_⟩
    · have := HW.out
      have hsz : xs.toArray.size = xs.length := by simp
      rw [← hsz, ins_srt] at this
      rw [this]
      have h3 := H3.out
      exact put_own (by rw [srt_len]) hg HH.out hc1 hc2 h3
    · rw [HW.out]; exact put_grown _
def SortedOf (S : List Int → Prop) (w : World) (e : Ending) (w' : World) : Prop :=
  ∃ (v : Value) (xs : List Int), e = .returned v ∧ S xs ∧ w'.ownsRow w.heap.size 37 1 v xs.length ((srt xs).map (Value.int .u64)) ∧ Below w.heap.size w w'
set_option maxRecDepth 100000 in
theorem sorted12_any (w : World) (gf N : Nat) (lb : Array Value) (S : List Int → Prop) (Px : Int → World → Prop) (hpx : ∀ k W W', Px k W → Px k W') (eg : ∀ args w, (callFunc gf args).run Tryz.prog w = .ok (.enter gf args) w)
    (hseq : SeqP Fence.wide 4 Tryz.prog gf lb (fun k : Int => #[.int .u64 k]) Px S N w) (hN : N ≤ 1000000) (h12 : ∀ xs, S xs → xs.length ≤ 12) :
    Calls Tryz.prog 136 #[.func (.func gf) #[] lb] w (SortedOf S w) := by
  have HS := Lib.hid hseq
  have HP := Lib.hid hpx
  have HG := Lib.hid eg
  have H12 := Lib.hid h12
  clear hseq hpx eg h12
  go_enter Tryz.func136, Tryz.ntmps136
  go_wp2_with fail
  refine (collect_any w gf N lb S Px HP.out HG.out HS.out hN).mono ?_
  rintro e w1 ⟨v, xs, rfl, hS, hr, hb⟩
  have H1 := Lib.hid hS
  have H2 : Hid (w1.ownsRow w.heap.size 37 1 v xs.length (xs.map (Value.int .u64))) := Lib.hid hr
  have H3 := Lib.hid hb
  clear hS hr hb
  go_wp2_with fail
  refine (sort12_any w1 w.heap.size v xs H2.out (H12.out xs H1.out)).mono ?_
  rintro e w2 ⟨rfl, hr, hg⟩
  have H4 := Lib.hid hr
  have H5 : Hid (Below w.heap.size w w2) := Lib.hid (grownBy_below H3.out hg (fun k hk => by
    have := H2.out.2
    rcases this with ⟨rfl, _⟩ | ⟨g, cap, cur, rfl, hg1, _⟩
    · simp [Value.ownBlock] at hk
    · obtain rfl : g = k := by simpa [Value.ownBlock] using hk
      exact hg1))
  clear hr hg
  go_wp2
  go_ret
  exact ⟨v, xs, rfl, H1.out, H4.out, H5.out⟩
end Go.Proofs.YtoafjbillcooiaaGreat
namespace Go.Proofs.YtoafjbillcooiaaGreat
open Go.RowKit Go.ChangeMaps
set_option linter.unusedSimpArgs false
set_option linter.unusedVariables false
def sib (k : Int) : Int := if k % 2 = 0 then k + 1 else k - 1
theorem xor1 (n : Nat) : n ^^^ 1 = if n % 2 = 0 then n + 1 else n - 1 := by
  apply Nat.eq_of_testBit_eq
  intro i
  rw [Nat.testBit_xor]
  cases i with
  | zero =>
    simp only [Nat.testBit_zero]
    rcases Nat.mod_two_eq_zero_or_one n with h | h
    · have h2 : (n + 1) % 2 = 1 := by omega
      simp [h, h2]
    · have h2 : (n - 1) % 2 = 0 := by omega
      simp [h, h2]
  | succ i =>
    simp only [Nat.testBit_succ]
    have e : (if n % 2 = 0 then n + 1 else n - 1) / 2 = n / 2 := by split <;> omega
    rw [e]
    simp
theorem sibling_any (k : Int) (w : World) (h0 : 0 ≤ k) (h1 : k ≤ 18446744073709551615) : Calls Tryz.prog 156 #[.int .u64 k] w fun e w' => e = .returned (.int .u64 (sib k)) ∧ w = w' := by
  obtain ⟨n, rfl⟩ := Int.eq_ofNat_of_zero_le h0
  go_enter Tryz.func156, Tryz.ntmps156
  go_wp2
  go_ret
  refine ⟨ret_int ?_, rfl⟩
  have h := bits_xor_u64_nat n 1 (by omega) (by decide)
  rw [xor1] at h
  refine Eq.trans h ?_
  unfold sib
  split <;> split <;> omega
theorem may_any (d : Int) (w : World) : Calls Tryz.prog 151 #[.int .i64 d] w fun e w' => e = .returned (.bool (decide (0 ≤ d) && decide (d ≤ 16))) ∧ w = w' := by
  by_cases h0 : 0 ≤ d
  · go_enter Tryz.func151, Tryz.ntmps151
    go_wp2
    go_ret
    exact ⟨ret_bool (by simp [h0]), rfl⟩
  · go_enter Tryz.func151, Tryz.ntmps151
    go_wp2
    go_ret
    exact ⟨ret_bool (by rw [show decide (0 ≤ d) = false from decide_eq_false (Int.not_le.2 h0)]; rfl), rfl⟩
theorem far_any (B : Nat) (k : Int) (d : Nat) (w : World) (hc : w.cell? ⟨B, 0, none⟩ = some (.int .i64 d)) (hd : d ≤ 16) (h0 : 0 ≤ k) (h1 : k ≤ 18446744073709551615) :
    Calls Tryz.prog 153 #[.int .u64 k, .pointer (some ⟨B, 0, none⟩)] w fun e w' => e = .returned (.bool (decide (2 ^ d ≤ k))) ∧ w = w' := by
  obtain ⟨n, rfl⟩ := Int.eq_ofNat_of_zero_le h0
  have hd2 : (d : Int) ≤ 16 := by omega
  go_enter Tryz.func153, Tryz.ntmps153
  go_wp2
  go_ret
  refine ⟨ret_bool ?_, rfl⟩
  have e : ((n : Int) / 2 ^ d) = ((n / 2 ^ d : Nat) : Int) := by simp
  have hp : 0 < 2 ^ d := Nat.two_pow_pos d
  have h2 : (2 ^ d ≤ (n : Int)) ↔ 2 ^ d ≤ n := by
    rw [show ((2 : Int) ^ d) = ((2 ^ d : Nat) : Int) by simp]; omega
  rw [e]
  by_cases h : 2 ^ d ≤ n
  · have : n / 2 ^ d ≠ 0 := by
      have := Nat.div_pos h hp; omega
    have h3 : ¬ ((n / 2 ^ d : Nat) : Int) = 0 := by omega
    rw [decide_eq_true (h2.2 h)]
    exact bne_iff_ne.2 h3
  · have : n / 2 ^ d = 0 := Nat.div_eq_of_lt (by omega)
    rw [this, decide_eq_false (fun e => h (h2.1 e))]
    rfl
def FarIs (leaves : List Int) (d : Nat) (w : World) (e : Ending) (w' : World) : Prop := ∃ j : Int, e = .returned (.int .i64 j) ∧ (0 ≤ j ↔ ∃ k ∈ leaves, 2 ^ d ≤ k) ∧ w = w'
set_option maxRecDepth 100000 in
set_option maxHeartbeats 1000000 in
theorem index_any (a : Option Addr) (cap : Nat) (leaves : List Int) (B : Nat) (d : Nat) (w : World) (hc : w.cell? ⟨B, 0, none⟩ = some (.int .i64 d)) (hd : d ≤ 16) (hl : U64s w a leaves) (hlen : len leaves ≤ 9223372036854775807) (hu : ∀ k ∈ leaves, U64 k) :
    Calls Tryz.prog 172 #[.slice a (len leaves) cap, .func (.func 153) #[] #[.pointer (some ⟨B, 0, none⟩)]] w (FarIs leaves d w) := by
  have HC := Lib.hid hc
  have HL := Lib.hid hl
  have HU := Lib.hid hu
  clear hc hl hu
  go_enter Tryz.func172, Tryz.ntmps172
  go_wp2
  go_loop [8] (fun i => ∃ m : Nat, m ≤ len leaves ∧ i = .int .i64 m ∧ Hid (∀ j, j < m → nth leaves j < 2 ^ d)) (fun i => len leaves - (intOf i).toNat)
  case atStart => exact ⟨0, Nat.zero_le _, rfl, fun j hj => by omega⟩
  case round =>
    obtain ⟨m, hm, rfl, hn⟩ := hrel
    by_cases hlt : m < len leaves
    · obtain ⟨b, off, rfl, hcell⟩ := HL.out m hlt
      have b0 : (m : Int) < len leaves := by omega
      have hu := HU.out (nth leaves m) (by rw [nth_eq leaves m hlt]; exact List.getElem_mem hlt)
      unfold U64 at hu
      go_wp2_with fail
      refine (far_any B (nth leaves m) d w HC.out hd hu.1 hu.2).mono ?_
      rintro e w' ⟨rfl, rfl⟩
      by_cases hf : 2 ^ d ≤ nth leaves m
      · have HF := Lib.hid hf
        rw [show decide (2 ^ d ≤ nth leaves m) = true from decide_eq_true hf]
        clear hf hcell hu
        go_wp2
        go_ret
        exact ⟨m, rfl, ⟨fun _ => ⟨nth leaves m, by rw [nth_eq leaves m hlt]; exact List.getElem_mem hlt, HF.out⟩, fun _ => by omega⟩, rfl⟩
      · have HF := Lib.hid (Int.not_le.1 hf)
        rw [show decide (2 ^ d ≤ nth leaves m) = false from decide_eq_false hf]
        clear hf hcell hu
        go_wp2
        go_round
        case rel => exact ⟨m + 1, by omega, by go_num, fun j hj => by
          by_cases e : j = m
          · subst e; exact HF.out
          · exact hn.out j (by omega)⟩
        case measure => simp [intOf]; omega
    · obtain rfl : m = len leaves := by omega
      go_wp2
      go_ret
      refine ⟨-1, rfl, ⟨fun h => by omega, fun ⟨k, hk, hf⟩ => ?_⟩, rfl⟩
      obtain ⟨j, hj, rfl⟩ := List.getElem_of_mem hk
      have h1 := hn.out j hj
      rw [nth_eq leaves j hj] at h1
      exact absurd hf (Int.not_le.2 h1)
def farB (leaves : List Int) (d : Nat) : Bool := decide (∃ k ∈ leaves, (2 : Int) ^ d ≤ k)
theorem contains_any (a : Option Addr) (cap : Nat) (leaves : List Int) (B : Nat) (d : Nat) (w : World) (hc : w.cell? ⟨B, 0, none⟩ = some (.int .i64 d)) (hd : d ≤ 16) (hl : U64s w a leaves) (hlen : len leaves ≤ 9223372036854775807) (hu : ∀ k ∈ leaves, U64 k) :
    Calls Tryz.prog 154 #[.slice a (len leaves) cap, .func (.func 153) #[] #[.pointer (some ⟨B, 0, none⟩)]] w fun e w' => e = .returned (.bool (farB leaves d)) ∧ w = w' := by
  have HC := Lib.hid hc
  have HL := Lib.hid hl
  have HU := Lib.hid hu
  clear hc hl hu
  go_enter Tryz.func154, Tryz.ntmps154
  go_wp2_with fail
  refine (index_any a cap leaves B d w HC.out hd HL.out hlen HU.out).mono ?_
  rintro e w' ⟨j, rfl, hj, rfl⟩
  have HJ := Lib.hid hj
  clear hj
  by_cases h : 0 ≤ j
  · have e : farB leaves d = true := decide_eq_true (HJ.out.1 h)
    have E := Lib.hid e
    clear e
    go_wp2
    go_ret
    exact ⟨ret_bool (by rw [E.out]), rfl⟩
  · have e : farB leaves d = false := decide_eq_false (fun hh => h (HJ.out.2 hh))
    have E := Lib.hid e
    clear e
    go_wp2
    go_ret
    exact ⟨ret_bool (by rw [E.out]; simp; omega), rfl⟩
end Go.Proofs.YtoafjbillcooiaaGreat
namespace Go.Proofs.YtoafjbillcooiaaGreat
set_option linter.unusedSimpArgs false
set_option linter.unusedVariables false
open Go.RowKit
section
variable {F : Fence} {m0 : Nat} {P : Program} {ops : List Oper} {a0 : Act} {w0 : World} {sp : Nat} {vo : Option Nat} {Φ : Nat → Value → World → Prop} {Q : Exit → Act → World → Prop}
def StepAtIn (F : Fence) (m0 : Nat) (P : Program) (ops : List Oper) (a0 : Act) (w0 : World) (sp : Nat) (vo : Option Nat) (Φ : Nat → Value → World → Prop) (Q : Exit → Act → World → Prop) (hd : Nat) (i : Nat) (o : Oper) : Prop := ∀ a w, ExtB vo w0 w → (i = sp → Ext w0 w) → Outer ops a0 hd a → Deps ops Φ a w o.after.toList →
  if Region.wanted o (yielded ops.toArray a.tmps) then o.wpIn F m0 P a w (fun a' w' => ∃ v, a' = a.put o.dst v ∧ Es sp vo i w w' ∧ Φ i (valOf o v) w') Q else Φ i undef w
theorem wpAnyIn_of_seq {md : Region.Mode} {ops : Array Oper} {Q' : Exit → Act → World → Prop} : ∀ (l : List Oper) (k : Nat) (listed : Array Bool) (a : Act) (w : World), (∀ j, l[j]? = ops[k + j]?) →
    Region.seqB md ops l.length k listed = true → wpListIn F m0 P ops Q' l a w → wpAnyIn F m0 P md ops Q' l.length listed a w
  | [], _, _, _, _, _, hB, h => ⟨by simpa [Region.seqB] using hB, h⟩
  | o :: l, k, listed, a, w, hl, hB, h => by
    have h0 : ops[k]? = some o := by simpa using (hl 0).symm
    simp only [List.length_cons, Region.seqB, Bool.and_eq_true, decide_eq_true_eq] at hB
    refine ⟨fun h1 => (by rw [hB.1] at h1; cases h1), fun i hi => ?_⟩
    rw [hB.1] at hi
    have hik : i = k := by simpa using hi
    subst hik
    have hw : wpOpIn F m0 P ops Q' i (wpListIn F m0 P ops Q' l) a w := by unfold wpOpIn; simp only [h0]; exact h
    exact wpOpIn_mono (fun a' w' h' => wpAnyIn_of_seq l (i + 1) _ a' w' (fun j => by have := hl (j + 1); simpa [Nat.add_assoc, Nat.add_comm 1 j] using this) hB.2 h') hw
theorem wpAnyIn_head (hF : ∀ f, F.fn f) {n g : Nat} (hB : regOk ops a0.tmps.size = true)
    (hmono : ∀ i j v w w', i ≠ j → ExtB vo w0 w → Es sp vo j w w' → Φ i v w → Φ i v w') (hnN : n ≤ ops.length)
    (hstep : ∀ (i : Nat) o, i < n → ops[i]? = some o → StepAtIn F m0 P ops a0 w0 sp vo Φ Q n i o)
    (hlate : ∀ listed, HeadInv .any ops.toArray n listed → (∃ i, i < n ∧ listed.getD i true = false) → Region.ready .any ops.toArray listed ≠ [] ∧ ∀ t ∈ Region.ready .any ops.toArray listed, t < n)
    (hend : ∀ listed a w, RInv ops a0 w0 sp vo Φ n listed a w → (∀ i, i < n → listed.getD i true = true) → wpAnyIn F m0 P .any ops.toArray Q g listed a w) :
    ∀ (fuel : Nat) (listed : Array Bool) (a : Act) (w : World), ((List.range n).filter (fun i => !listed.getD i true)).length = fuel → RInv ops a0 w0 sp vo Φ n listed a w →
      wpAnyIn F m0 P .any ops.toArray Q (fuel + g) listed a w := by
  intro fuel
  induction fuel with
  | zero =>
    intro listed a w hf inv
    rw [Nat.zero_add]
    refine hend listed a w inv fun i hi => ?_
    cases h : listed.getD i true with
    | true => rfl
    | false =>
      have : i ∈ (List.range n).filter (fun i => !listed.getD i true) := List.mem_filter.2 ⟨List.mem_range.2 hi, by rw [h]; rfl⟩
      rw [List.eq_nil_of_length_eq_zero hf] at this; cases this
  | succ fuel ih =>
    intro listed a w hf inv
    rw [show fuel + 1 + g = (fuel + g) + 1 by omega]
    have hex : ∃ i, i < n ∧ listed.getD i true = false := by
      cases hl : (List.range n).filter (fun i => !listed.getD i true) with
      | nil => rw [hl] at hf; cases hf
      | cons x L =>
        have : x ∈ (List.range n).filter (fun i => !listed.getD i true) := by rw [hl]; exact List.mem_cons_self ..
        obtain ⟨h1, h2⟩ := List.mem_filter.1 this
        exact ⟨x, List.mem_range.1 h1, by simpa using h2⟩
    obtain ⟨hne, hlt⟩ := hlate listed inv.head hex
    refine ⟨fun hr => absurd hr hne, fun i hi => ?_⟩
    have hin := hlt i hi
    obtain ⟨hun, o, ho, hall⟩ := mem_ready.1 hi
    have ho' : ops[i]? = some o := by simpa using ho
    have hls : listed.size = ops.length := by rw [inv.head.size]; simp
    have hdep : Deps ops Φ a w o.after.toList := deps_of fun e he hb oj hoj => by
      have h1 := hall e (by simpa using he) hb
      refine inv.done e.on oj hoj ?_
      have h2 : e.on < listed.size := by
        rcases Nat.lt_or_ge e.on listed.size with h | h
        · exact h
        · simp [Array.getElem?_eq_none h] at h1
      simp [h2] at h1 ⊢; exact h1
    have hst := hstep i o hin ho' a w inv.ext (fun e => inv.ext0 (by rw [← e]; exact hun)) inv.outer hdep
    have next : ∀ v w', Es sp vo i w w' → Φ i (valOf o v) w' → wpAnyIn F m0 P .any ops.toArray Q (fuel + g) (listed.setIfInBounds i true) (a.put o.dst v) w' := by
      intro v w' he hv
      refine ih _ _ _ ?_ (inv.next hB hmono hi hin ho' he hv)
      have := head_count (listed := listed) (i := i) (by omega) hun _ List.nodup_range (List.mem_range.2 hin)
      omega
    unfold wpOpIn
    rw [ho]
    dsimp only
    by_cases hw : Region.wanted o (yielded ops.toArray a.tmps) = true
    · rw [if_pos hw] at hst ⊢
      refine Oper.wpIn_mono (fun a' w' h => ?_) hst
      obtain ⟨v, rfl, he, hv⟩ := h
      exact next v w' he hv
    · rw [if_neg hw] at hst ⊢
      refine ⟨fun f _ => hF f, next undef w (es_of_ext (Ext_refl w)) ?_⟩
      have e : valOf o undef = undef := by unfold valOf; cases o.dst <;> rfl
      rw [e]; exact hst
end
section
variable {F : Fence} {m0 : Nat} {P : Program} {Q : Exit → Act → World → Prop} {a : Act} {w : World} {l : List Oper}
theorem wpIn_region_tail (hF : ∀ f, F.fn f) {id : Nat} (n : Nat) (sp : Nat) (vo : Option Nat) (Φ : Nat → Value → World → Prop) (hm : P.follows .mixedOrders = true) (hB : regOk l a.tmps.size = true) (hT : regTail l n = true)
    (hmono : ∀ i j v w1 w', i ≠ j → ExtB vo w.drew w1 → Es sp vo j w1 w' → Φ i v w1 → Φ i v w')
    (hstep : ∀ (i : Nat) o, i < n → l[i]? = some o → StepAtIn F m0 P l a w.drew sp vo Φ Q n i o)
    (hend : ∀ a' w', ExtB vo w.drew w' → Outer l a n a' → AllDone l Φ a' w' 0 n → wpListIn F m0 P l.toArray Q (l.drop n) a' w') : (Code.region id l.toArray true).wpIn F m0 P Q a w := by
  unfold regTail at hT
  simp only [Bool.and_eq_true, decide_eq_true_eq] at hT
  obtain ⟨⟨⟨hn, hs⟩, hc⟩, hseq⟩ := hT
  refine wpIn_region_any hm ?_
  have H := wpAnyIn_head (F := F) (m0 := m0) hF (P := P) (ops := l) (a0 := a) (w0 := w.drew) (sp := sp) (vo := vo) (Φ := Φ) (Q := Q) (n := n) (g := l.length - n) hB hmono (by omega) hstep
    (fun listed inv ⟨i, hi, hun⟩ => ⟨fun hr => (by
        have := all_of_ready_nil (a0 := a) hB (by rw [inv.size]; simp) hr i (by omega)
        rw [hun] at this; cases this), fun t ht => (by
        rcases Nat.lt_or_ge t n with h | h
        · exact h
        · exact absurd ht (tail_waits hs hc (by simpa using hn) inv (n - i) i rfl hi hun t h))⟩)
    (fun listed a' w' inv hall => (by
        have e := headDone_of (n := n) (N := l.length) (by rw [inv.head.size]; simp) hall (fun i h1 h2 => inv.head.tail i h1 (by simpa using h2)) (by omega)
        have h := wpAnyIn_of_seq (F := F) (m0 := m0) (P := P) (md := .any) (Q' := Q) (ops := l.toArray) (l.drop n) n listed a' w' (fun j => by simp [List.getElem?_drop]) (by rw [List.length_drop, e]; exact hseq)
          (hend a' w' inv.ext inv.outer (allDone_of _ _ fun j _ h2 o ho => inv.done j o ho (hall j (by omega))))
        rwa [List.length_drop] at h))
    n (Array.replicate l.length false) a w.drew (start_count _ _ (by omega)) (rinv_start (by omega))
  rw [show n + (l.length - n) = l.length by omega] at H
  simpa using H
end
def StepsFromIn (F : Fence) (m0 : Nat) (P : Program) (ops : List Oper) (a0 : Act) (w0 : World) (sp : Nat) (vo : Option Nat) (Φ : Nat → Value → World → Prop) (Q : Exit → Act → World → Prop) (hd : Nat) : Nat → Nat → List Oper → Prop
  | _, 0, _ => True
  | _, _ + 1, [] => True
  | i, n + 1, o :: r => StepAtIn F m0 P ops a0 w0 sp vo Φ Q hd i o ∧ StepsFromIn F m0 P ops a0 w0 sp vo Φ Q hd (i + 1) n r
theorem stepsIn_from {F : Fence} {m0 : Nat} {P : Program} {ops : List Oper} {a0 : Act} {w0 : World} {sp : Nat} {vo : Option Nat} {Φ : Nat → Value → World → Prop} {Q : Exit → Act → World → Prop} {hd : Nat} :
    ∀ (n k : Nat) (r : List Oper), StepsFromIn F m0 P ops a0 w0 sp vo Φ Q hd k n r → ∀ (i : Nat) o, i < n → r[i]? = some o → StepAtIn F m0 P ops a0 w0 sp vo Φ Q hd (k + i) o
  | 0, _, _, _, _, _, h, _ => by omega
  | _ + 1, _, [], _, _, _, _, h => by simp at h
  | n + 1, k, x :: r, h, 0, o, _, ho => by simp at ho; subst ho; exact h.1
  | n + 1, k, x :: r, h, i + 1, o, hi, ho => by
    have := stepsIn_from n (k + 1) r h.2 i o (by omega) (by simpa using ho)
    rwa [Nat.add_assoc, Nat.add_comm 1 i] at this
theorem stepsIn_of {F : Fence} {m0 : Nat} {P : Program} {ops : List Oper} {a0 : Act} {w0 : World} {sp : Nat} {vo : Option Nat} {Φ : Nat → Value → World → Prop} {Q : Exit → Act → World → Prop} {hd : Nat} (n : Nat)
    (h : StepsFromIn F m0 P ops a0 w0 sp vo Φ Q hd 0 n ops) : ∀ (i : Nat) o, i < n → ops[i]? = some o → StepAtIn F m0 P ops a0 w0 sp vo Φ Q hd i o := fun i o hi ho => by
  have := stepsIn_from n 0 ops h i o hi ho
  rwa [Nat.zero_add] at this
section
variable {F : Fence} {m0 : Nat} {P : Program} {ops : List Oper} {a0 : Act} {w0 : World} {sp : Nat} {vo : Option Nat} {Φ : Nat → Value → World → Prop} {Q : Exit → Act → World → Prop} {hd : Nat} {i : Nat} {o : Oper}
theorem stepIn_wp (h : ∀ a w1, ExtB vo w0 w1 → (i = sp → Ext w0 w1) → Outer ops a0 hd a → Deps ops Φ a w1 o.after.toList →
    Region.wanted o (yielded ops.toArray a.tmps) = true ∧ o.wpIn F m0 P a w1 (fun a' w' => ∃ v, a' = a.put o.dst v ∧ Es sp vo i w1 w' ∧ Φ i (valOf o v) w') Q) : StepAtIn F m0 P ops a0 w0 sp vo Φ Q hd i o := fun a w1 hE hS hO hD => by
  obtain ⟨h1, h2⟩ := h a w1 hE hS hO hD
  rw [if_pos h1]; exact h2
theorem wpIn_of_run (hF : ∀ f, F.fn f) {a : Act} {w w' : World} {v : Value} {K : Act → World → Prop} (hp : ∀ c, o.op ≠ .defer c) (h : (execOp a.eval o).run P w = .ok (.value v) w') (hK : K (a.put o.dst v) w') : o.wpIn F m0 P a w K Q := by
  unfold Oper.wpIn
  refine ⟨fun f _ => hF f, ?_⟩
  rw [Oper.semAt_plain F _ _ hp, h]
  exact hK
theorem wpIn_of_call {l : Nat} {a : Act} {w : World} {f : FuncId} {args : Array Value} {R : Ending → World → Prop} {K : Act → World → Prop} (hp : ∀ c, o.op ≠ .defer c) (h : (execOp a.eval o).run P w = .ok (.enter f args) w) (hc : Calls P f args w R)
    (hK : ∀ e w', R e w' → ∃ v, e = .returned v ∧ K (a.put o.dst v) w') : o.wpIn (Fence.wide.inRound l) m0 P a w K Q := by
  unfold Oper.wpIn
  refine ⟨fun _ _ => trivial, ?_⟩
  rw [Oper.semAt_plain _ _ _ hp, h]
  refine ⟨fun h => (by cases h), (CallsIn.inRound l (callsIn_wide.2 hc)).mono ?_⟩
  intro e w' hr
  obtain ⟨v, rfl, hk⟩ := hK e w' hr
  exact hk
end
end Go.Proofs.YtoafjbillcooiaaGreat
namespace Go.Proofs.YtoafjbillcooiaaGreat
open Go.RowKit Go.ChangeMaps
set_option linter.unusedSimpArgs false
set_option linter.unusedVariables false
attribute [local go_sem] Oper.semAt_some
def needK (ks : List Int) : List Int := insAll ((ks.map sib).filter fun s => !decide (s ∈ ks))
theorem needK_mem (ks : List Int) (k : Int) : k ∈ needK ks ↔ (∃ j ∈ ks, k = sib j) ∧ k ∉ ks := by
  unfold needK
  rw [(insAll_all _).2.1, List.mem_filter, List.mem_map]
  constructor
  · rintro ⟨⟨j, hj, rfl⟩, h⟩; exact ⟨⟨j, hj, rfl⟩, by simpa using h⟩
  · rintro ⟨⟨j, hj, rfl⟩, h⟩; exact ⟨⟨j, hj, rfl⟩, by simpa using h⟩
theorem needK_nodup (ks : List Int) : (needK ks).Nodup := (insAll_all _).1
def rowK (ks : List Int) : List Int := srt (needK ks)
theorem rowK_of {xs ks : List Int} (hn : xs.Nodup) (h : ∀ k, k ∈ xs ↔ k ∈ needK ks) : srt xs = rowK ks :=
  srt_of hn (srt_rising (needK_nodup ks)) (fun k => (h k).trans (srt_mem _ _).symm)
theorem rowK_same {ks js : List Int} (h : ∀ k, k ∈ ks ↔ k ∈ js) : rowK ks = rowK js :=
  rowK_of (needK_nodup ks) (fun k => by
    rw [needK_mem, needK_mem, h]
    constructor
    · rintro ⟨⟨j, hj, e⟩, hk⟩; exact ⟨⟨j, (h j).1 hj, e⟩, hk⟩
    · rintro ⟨⟨j, hj, e⟩, hk⟩; exact ⟨⟨j, (h j).2 hj, e⟩, hk⟩)
def rowsOf (leaves : List Int) (d : Nat) : List (List Int) := (List.range d).map fun i => rowK (insAll (leaves.map (· / 2 ^ i)))
theorem rowsOf_levs {leaves : List Int} {d : Nat} {xs : List Lev} (h : LevsOf leaves d xs) : xs.map (fun x => rowK x.2.2) = rowsOf leaves d := by
  apply List.ext_getElem
  · simp [rowsOf, h.1]
  · intro i h1 h2
    have hi : i < xs.length := by simpa using h1
    simp only [rowsOf, List.getElem_map, List.getElem_range]
    refine rowK_same (fun k => ?_)
    rw [(insAll_all _).2.1, h.2 i hi k, List.mem_map]
    constructor
    · rintro ⟨j, hj, e⟩; exact ⟨j, hj, e.symm⟩
    · rintro ⟨j, hj, e⟩; exact ⟨j, hj, e.symm⟩
def RowsAre (W : World) (base : Nat) (vals : List Value) (rs : List (List Int)) : Prop :=
  vals.length = rs.length ∧ ∀ i, ∀ h : i < rs.length, ∃ v, vals[i]? = some v ∧ W.ownsRow base 37 1 v rs[i].length (rs[i].map (Value.int .u64))
theorem RowsAre.nil (W : World) (base : Nat) : RowsAre W base [] [] := ⟨rfl, fun i h => by simp at h⟩
theorem RowsAre.snoc {W : World} {base : Nat} {vals : List Value} {rs : List (List Int)} (h : RowsAre W base vals rs) {v : Value} {r : List Int} (hv : W.ownsRow base 37 1 v r.length (r.map (Value.int .u64))) : RowsAre W base (vals ++ [v]) (rs ++ [r]) := by
  refine ⟨by simp [h.1], fun i hi => ?_⟩
  by_cases hlt : i < rs.length
  · obtain ⟨u, h1, h2⟩ := h.2 i hlt
    refine ⟨u, by rw [List.getElem?_append_left (by rw [h.1]; exact hlt)]; exact h1, ?_⟩
    rw [List.getElem_append_left hlt]; exact h2
  · have e : i = rs.length := by simp at hi; omega
    subst e
    refine ⟨v, by rw [← h.1]; simp, ?_⟩
    rw [List.getElem_append_right (Nat.le_refl _)]
    simpa using hv
theorem ownsRow_later {W W' : World} {base b' : Nat} {e size n : Nat} {v : Value} {xs : List Value} (h : W.ownsRow base e size v n xs) (hb : Below W.heap.size W W') (hbb : b' ≤ base) : W'.ownsRow b' e size v n xs := by
  have h2 := own_below h hb
  refine ⟨h2.1, ?_⟩
  rcases h2.2 with h3 | ⟨g, cap, cur, h4, h5, h6⟩
  · exact .inl h3
  · exact .inr ⟨g, cap, cur, h4, by omega, h6⟩
theorem RowsAre.kept {W W' : World} {base : Nat} {vals : List Value} {rs : List (List Int)} {row : Option Nat} (h : RowsAre W base vals rs) (hg : W.grownBy W' row)
    (hr : ∀ i : Nat, ∀ v ∈ vals, v.ownBlock = none ∨ v.ownBlock ≠ row) : RowsAre W' base vals rs :=
  ⟨h.1, fun i hi => by
    obtain ⟨v, h1, h2⟩ := h.2 i hi
    exact ⟨v, h1, h2.kept hg (hr 0 v (List.mem_of_getElem? h1))⟩⟩
theorem RowsAre.below {W W' : World} {base : Nat} {vals : List Value} {rs : List (List Int)} (h : RowsAre W base vals rs) (hb : Below W.heap.size W W') : RowsAre W' base vals rs :=
  ⟨h.1, fun i hi => by
    obtain ⟨v, h1, h2⟩ := h.2 i hi
    exact ⟨v, h1, own_below h2 hb⟩⟩
theorem RowsAre.apart {W : World} {base : Nat} {vals : List Value} {rs : List (List Int)} (h : RowsAre W base vals rs) {g : Nat} {cs : Array Value} {t : TypeId} {fr : Nat × Nat} (hg : W.heap[g]? = some (.cells cs t fr)) (ht : t ≠ 37) : ∀ i : Nat, ∀ v ∈ vals, v.ownBlock = none ∨ v.ownBlock ≠ some g := by
  intro _ v hv
  obtain ⟨i, hi, rfl⟩ := List.getElem_of_mem hv
  obtain ⟨u, h1, h2⟩ := h.2 i (by rw [← h.1]; exact hi)
  rw [List.getElem?_eq_getElem hi] at h1
  cases h1
  rcases h2.2 with ⟨e, _⟩ | ⟨g', cap, cur, e, _, hh, _⟩
  · rw [e]; exact .inl rfl
  · rw [e]
    right
    intro e2
    obtain rfl : g' = g := by simpa [Value.ownBlock] using e2
    rw [hg] at hh
    cases hh
    exact ht rfl
def Lack (ks : List Int) (nb : Nat) (seen : Array Nat) (nx : List Int) : Prop := nx.Nodup ∧ ∀ k, k ∈ nx ↔ ∃ i, ∃ h : i < ks.length, nb + i ∈ seen ∧ k = sib ks[i] ∧ k ∉ ks
theorem Lack.start (ks : List Int) (nb : Nat) : Lack ks nb #[] [] := ⟨List.nodup_nil, fun k => by simp⟩
theorem Lack.step {ks : List Int} {nb : Nat} {seen : Array Nat} {nx : List Int} (h : Lack ks nb seen nx) {i : Nat} (hi : i < ks.length) : Lack ks nb (seen.push (nb + i)) (if sib ks[i] ∈ ks then nx else insK nx (sib ks[i])) := by
  have key : ∀ k, (∃ j, ∃ h : j < ks.length, nb + j ∈ seen.push (nb + i) ∧ k = sib ks[j] ∧ k ∉ ks) ↔ (k ∈ nx ∨ (k = sib ks[i] ∧ k ∉ ks)) := fun k => by
    rw [h.2]
    constructor
    · rintro ⟨j, hj, hs, e⟩
      rcases Array.mem_push.1 hs with hs | he
      · exact .inl ⟨j, hj, hs, e⟩
      · have : j = i := by omega
        subst this; exact .inr e
    · rintro (⟨j, hj, hs, e⟩ | e)
      · exact ⟨j, hj, Array.mem_push.2 (.inl hs), e⟩
      · exact ⟨i, hi, Array.mem_push.2 (.inr rfl), e⟩
  split
  · rename_i hm
    refine ⟨h.1, fun k => ?_⟩
    rw [key]
    constructor
    · exact .inl
    · rintro (h1 | ⟨rfl, h2⟩)
      · exact h1
      · exact absurd hm h2
  · rename_i hm
    refine ⟨insK_nodup h.1 _, fun k => ?_⟩
    rw [key, insK_mem]
    constructor
    · rintro (h1 | rfl)
      · exact .inl h1
      · exact .inr ⟨rfl, hm⟩
    · rintro (h1 | ⟨rfl, _⟩)
      · exact .inl h1
      · exact .inr rfl
theorem Lack.done {ks : List Int} {nb : Nat} {seen : Array Nat} {nx : List Int} (h : Lack ks nb seen nx) (ha : ∀ i, i < (kv ks).length → nb + i ∈ seen) : ∀ k, k ∈ nx ↔ k ∈ needK ks := fun k => by
  rw [h.2, needK_mem]
  constructor
  · rintro ⟨i, hi, _, e, hk⟩; exact ⟨⟨_, List.getElem_mem hi, e⟩, hk⟩
  · rintro ⟨⟨j, hj, e⟩, hk⟩
    obtain ⟨i, hi, rfl⟩ := List.getElem_of_mem hj
    exact ⟨i, hi, ha i (by rw [kv_len]; exact hi), e, hk⟩
theorem needK_len (ks : List Int) : (needK ks).length ≤ ks.length := by
  have h1 := (insAll_all ((ks.map sib).filter fun s => !decide (s ∈ ks))).2.2
  have h2 := List.length_filter_le (fun s => !decide (s ∈ ks)) (ks.map sib)
  unfold needK
  rw [List.length_map] at h2
  omega
theorem Lack.len {ks : List Int} {nb : Nat} {seen : Array Nat} {nx : List Int} (h : Lack ks nb seen nx) (hk : ∀ k, k ∈ nx ↔ k ∈ needK ks) : nx.length ≤ ks.length :=
  Nat.le_trans (nodup_len nx (needK ks) h.1 (fun k hm => (hk k).1 hm)) (needK_len ks)
def OutIs (B base : Nat) (W : World) (rs : List (List Int)) : Prop := ∃ (v : Value) (vals : List Value), Boxed W B 151 v ∧ W.ownsRow base 23 1 v vals.length vals ∧ RowsAre W base vals rs
theorem out_own {B base B0 : Nat} {β : Type} (f : β → List (List Int)) : OwnFrom B0 (fun s W => OutIs B base W (f s)) := by
  rintro s X Y row ⟨v, vals, hv, hr, hR⟩ hg hrow
  have key : ∀ (g : Nat) (cs : Array Value) (t : TypeId) (fr : Nat × Nat), X.heap[g]? = some (.cells cs t fr) → some g ≠ row := fun g cs t fr hgc e => by
    obtain ⟨_, o, ho, hc⟩ := hrow g e.symm
    rw [hgc] at ho; cases ho; cases hc
  have key2 : ∀ {u : Value} {e n : Nat} {xs : List Value}, X.ownsRow base e 1 u n xs → u.ownBlock = none ∨ u.ownBlock ≠ row := fun {u e n xs} h => by
    rcases h.2 with ⟨rfl, _⟩ | ⟨g, cap, cur, rfl, _, hgb, _⟩
    · exact .inl rfl
    · exact .inr (key g _ _ _ hgb)
  refine ⟨v, vals, hv.kept hg (key B _ _ _ hv), hr.kept hg (key2 hr), hR.1, fun i hi => ?_⟩
  obtain ⟨u, h1, h2⟩ := hR.2 i hi
  exact ⟨u, h1, h2.kept hg (key2 h2)⟩
theorem OutIs.below {B base : Nat} {W W' : World} {rs : List (List Int)} (h : OutIs B base W rs) (hb : Below W.heap.size W W') : OutIs B base W' rs := by
  obtain ⟨v, vals, h1, h2, h3⟩ := h
  exact ⟨v, vals, (hb.block _ h1.lt).trans h1, own_below h2 hb, h3.below hb⟩
def NeedsIs (rs : List (List Int)) (w : World) (e : Ending) (w' : World) : Prop :=
  ∃ (v : Value) (vals : List Value), e = .returned v ∧ w'.ownsRow w.heap.size 23 1 v vals.length vals ∧ RowsAre w' w.heap.size vals rs ∧ Below w.heap.size w w'
theorem info_rows : (Tryz.prog.info? 23).map (fun i => (i.zero, i.size, i.bytes)) = some (some (.slice none 0 0), 1, 24) := by kernel_rfl
set_option maxRecDepth 100000 in
set_option maxHeartbeats 4000000 in
theorem needs12_any (a : Option Addr) (cap : Nat) (leaves : List Int) (d : Nat) (w : World) (hl : U64s w a leaves) (hlen : len leaves ≤ 12) (hl0 : 0 < len leaves) (hu : ∀ k ∈ leaves, U64 k) (hd : d ≤ 16) (hf : farB leaves d = false) :
    Calls Tryz.prog 112 #[.slice a (len leaves) cap, .int .i64 d] w (NeedsIs (rowsOf leaves d) w) := by
  have HL := Lib.hid hl
  have HU := Lib.hid hu
  have HF := Lib.hid hf
  clear hl hu hf
  refine (callsIn_wide (n := 9)).1 ?_
  refine callsIn_of_wp_marks Tryz.func112 rfl trivial ?_ rfl
  simp only [Tryz.ntmps112, List.size_toArray, List.length_cons, List.length_nil, Nat.reduceAdd, Nat.reduceSub, Array.replicate_succ, Array.replicate_zero, List.push_toArray, List.append_toArray, List.nil_append, List.cons_append]
  gi_wp2_with fail
  refine ⟨trivial, (callsIn_wide.2 (may_any _ _)).mono ?_⟩
  rintro e w' ⟨rfl, rfl⟩
  have b1 : (0 : Int) ≤ d := by omega
  have b2 : (d : Int) ≤ 16 := by omega
  have b3 : ((len leaves : Int) == 0) = false := by simp; omega
  obtain ⟨V, hV⟩ : ∃ V, w.alloc (.cells #[.int .i64 d] 3) = V := ⟨_, rfl⟩
  have VB : Hid (Below w.heap.size w V) := Lib.hid (by rw [← hV]; (repeat (first | exact Below.refl _ _ | assumption | (refine bdrew ?_) | (refine bdrewN ?_ _) | (refine balloc ?_ _) | (refine bset ?_ (by first | omega | (simp; done) | (simp; omega)) _) | (refine bnext ?_ (by assumption)))))
  have V0 : Hid (V.heap[w.heap.size]? = some (.cells #[.int .i64 d] 3 (0, 0))) := Lib.hid (by rw [← hV]; (repeat (first | exact alloc_new_at _ (by repeat (first | rfl | refine alloc_size _ ?_)) | refine block_alloc ?_ _)))
  have Vz : V.heap.size = w.heap.size + 1 := by rw [← hV]; simp
  rw [hV]
  have VZ := Lib.hid Vz
  clear hV Vz
  rw [show (decide ((0 : Int) ≤ d) && decide ((d : Int) ≤ 16)) = true by simp [b1, b2]]
  gi_wp2_with fail
  refine ⟨trivial, (callsIn_wide.2 (contains_any a cap leaves w.heap.size d V (block_cell V0.out 0) hd (HL.out.below VB.out) (by omega) HU.out)).mono ?_⟩
  rintro e w' ⟨rfl, rfl⟩
  rw [HF.out]
  have hcc : V.cell? ⟨w.heap.size, 0, none⟩ = some (.int .i64 d) := block_cell V0.out 0
  have hzz : w.heap.size < V.heap.size := lt_of_block V0.out
  gi_wp2_with fail
  refine ⟨trivial, (callsIn_wide.2 (levels_any a cap leaves d _)).mono ?_⟩
  rintro e Z ⟨rfl, hZ⟩
  obtain ⟨o, ho⟩ : ∃ o, V.heap.size = o := ⟨_, rfl⟩
  have Vsz : V.heap.size = w.heap.size + 1 := VZ.out
  have hs1 : (V.alloc (.cells #[.slice none 0 0] 151)).heap.size = o + 1 := by simp; omega
  have hs2 : ((V.alloc (.cells #[.slice none 0 0] 151)).alloc (.cells #[.slice a (len leaves) cap] 23)).heap.size = o + 2 := by simp; omega
  rw [hs1, ho]
  have ZB : Hid (Below w.heap.size w Z) := Lib.hid (by rw [hZ]; exact balloc (balloc (balloc VB.out _) _) _)
  have ZO : Hid (Boxed Z o 151 (.slice none 0 0)) := Lib.hid (by rw [hZ]; exact block_alloc (block_alloc (alloc_new_at _ ho) _) _)
  have Z1 : Hid (Z.heap[o + 1]? = some (.cells #[.slice a (len leaves) cap] 23 (0, 0))) := Lib.hid (by rw [hZ]; exact block_alloc (alloc_new_at _ hs1) _)
  have Z2 : Hid (Z.heap[o + 2]? = some (.cells #[.int .i64 d] 3 (0, 0))) := Lib.hid (by rw [hZ]; exact alloc_new_at _ hs2)
  have howz : w.heap.size ≤ o := by omega
  have HOZ := Lib.hid Vsz
  have hoz : Hid (o < Z.heap.size) := Lib.hid ZO.out.lt
  clear hZ hs1 hs2 hcc hzz Vsz ho VZ V0 VB HOZ
  gi_wp2_with fail
  refine wpIn_rangeFunc_P rfl (by omega) (gf := 173) (lb := #[.pointer (some ⟨o + 1, 0, none⟩), .pointer (some ⟨o + 2, 0, none⟩)]) rfl trivial (enters_of Tryz.func173 (by kernel_rfl) rfl)
    (levels_seq 8 (by omega) (o + 1) (o + 2) a cap leaves d Z (block_cell Z1.out 0) (block_cell Z2.out 0) (HL.out.below ZB.out) (by omega) (by omega) HU.out) (fun x W l r o' h hl => h.putObj o' hl) (fun _ => rfl)
    (fun pre W => OutIs o w.heap.size W (pre.map fun x => rowK x.2.2) ∧ Below w.heap.size w W)
    (OwnFrom.and (out_own fun pre : List Lev => pre.map fun x => rowK x.2.2) (ownFrom_below (Nat.le_refl _) (by have := hoz.out; omega)))
    ⟨⟨_, [], ZO.out, World.ownsRow_nil _ _ _ _, RowsAre.nil _ _⟩, ZB.out⟩ ?a1 ?assign ?body ?done
  case assign =>
    intro l x W K hK
    gi_wp2
    exact hK
  case body =>
    rintro l pre ⟨kb, nb, ks⟩ W ⟨hO, hB⟩ hPx hlt
    have HO := Lib.hid hO
    have HB := Lib.hid hB
    have HN := Lib.hid hPx.2.1
    have HLE := Lib.hid hPx.2.2.1
    have HU2 := Lib.hid hPx.2.2.2
    have HM0 : Hid (W.heap[kb]? = some (mObj .u64 nb (kv ks))) := Lib.hid hPx.1
    clear hO hB hPx
    dsimp only
    have hmm := @run_makeMap Tryz.prog
    gi_upto_region 8 with (fail)
    clear hmm
    obtain ⟨V, hV⟩ : ∃ V, W.alloc (.map #[] 0) = V := ⟨_, rfl⟩
    obtain ⟨nk, hnk⟩ : ∃ nk, W.heap.size = nk := ⟨_, rfl⟩
    have VB : Hid (Below W.heap.size W V) := Lib.hid (by rw [← hV]; exact balloc (Below.refl _ _) _)
    have VN : Hid (V.heap[nk]? = some (mObj .u64 0 (kv []))) := Lib.hid (by rw [← hV]; exact alloc_new_at _ hnk)
    have VM : Hid (V.heap[kb]? = some (mObj .u64 nb (kv ks))) := Lib.hid (by rw [← hV]; exact block_alloc HM0.out _)
    have hkn : kb < nk := by have := lt_of_block HM0.out; omega
    have NK := Lib.hid hnk
    rw [hV, hnk]
    clear hV hnk HM0
    gi_wp2_with (gi_at_range; refine wpListIn_range_m rfl _ 212 37 4 .u64 rfl Tryz.underlying212 kb nb _ rfl VM.out ?_; intro hrg)
    try go_frame
    obtain ⟨r, hr⟩ : ∃ r, V.heap.size = r := ⟨_, rfl⟩
    obtain ⟨Y, hY⟩ : ∃ Y, V.alloc (.mapIter (some kb) (nb + (kv ks).length) #[] (nb + (kv ks).length)) = Y := ⟨_, rfl⟩
    have YR : Hid (Ranging Y kb r .u64 nb (kv ks) #[]) := Lib.hid (by rw [← hY, ← hr]; exact hrg)
    have YN : Hid (Y.heap[nk]? = some (mObj .u64 0 (kv []))) := Lib.hid (by rw [← hY]; exact block_alloc VN.out _)
    have YB : Hid (Below W.heap.size W Y) := Lib.hid (by rw [← hY]; exact balloc VB.out _)
    have hnr : nk < r := by have := lt_of_block VN.out; omega
    rw [hr, hY]
    clear hr hY hrg VN VM VB
    gi_loopw [9] (fun _ wr => ∃ (seen : Array Nat) (nx : List Int), Hid (Ranging wr kb r .u64 nb (kv ks) seen) ∧ Hid (wr.heap[nk]? = some (mObj .u64 0 (kv nx))) ∧ Hid (Lack ks nb seen nx) ∧ Hid (Below W.heap.size W wr)) (fun _ wr => rLeft wr r (nb + (kv ks).length))
    case atStart => exact ⟨#[], [], YR.out, YN.out, Lack.start ks nb, YB.out⟩
    case round =>
      clear YR YN YB
      obtain ⟨seen, nx, hr, hx, hh, hz⟩ := hrel
      gi_wp2_with (gi_at_next; refine wpListIn_next_m rfl _ rfl kb r .u64 nb _ seen rfl hr.out ?_ ?_)
      · intro hall
        have HALL := Lib.hid hall
        clear hall
        gi_upto_region 14 with (fail)
        have HD := Lib.hid (hh.out.done HALL.out)
        have HLN : Hid (nx.length ≤ 12) := Lib.hid (by have := hh.out.len HD.out; have := HLE.out; omega)
        obtain ⟨v, vals, hbx, hrow, hrows⟩ := HO.out.below hz.out
        have BX := Lib.hid hbx
        have RW := Lib.hid hrow
        have RS := Lib.hid hrows
        have hc0 : wr.cell? ⟨o, 0, none⟩ = some v := hbx.cell
        have MN := hx
        have BW : Hid (Below w.heap.size w wr) := Lib.hid (bnext HB.out hz.out)
        clear hbx hrow hrows hr hx HO
        refine wpIn_region_tail (fun _ => trivial) 5 1000 none (phis [fun u _ => u = v, fun u _ => u = .map (some nk), fun u w' => ∃ b, u = .func (.func 174) #[] #[.pointer (some ⟨b, 0, none⟩)] ∧ w'.cell? ⟨b, 0, none⟩ = some (.map (some nk)),
          fun u w' => w'.ownsRow w.heap.size 37 1 u (rowK ks).length ((rowK ks).map (Value.int .u64)),
          fun u w' => ∃ b u3, u = .slice (some ⟨b, 0, none⟩) 1 1 ∧ w'.heap[b]? = some (.cells #[u3] 23 (0, 0)) ∧ w'.ownsRow w.heap.size 37 1 u3 (rowK ks).length ((rowK ks).map (Value.int .u64))]) rfl (by kernel_rfl) (by kernel_rfl)
          (mono_of ⟨mono_eq, mono_eq, ?m2, ?m3, ?m4, trivial⟩) (stepsIn_of 5 ⟨?s0, ?s1, ?s2, ?s3, ?s4, trivial⟩) ?_
        case m2 =>
          exact ⟨fun u w1 w' h ⟨b, h1, h2⟩ => ⟨b, h1, by rw [h.cell (p := ⟨b, 0, none⟩) (lt_of_cell h2)]; exact h2⟩, fun _ u w1 w' h ⟨b, h1, h2⟩ => ⟨b, h1, by rw [(extB_none h).cell (p := ⟨b, 0, none⟩) (lt_of_cell h2)]; exact h2⟩⟩
        case m3 =>
          exact ⟨fun u w1 w' h h1 => own_below h1 h, fun _ u w1 w' h h1 => own_below h1 (extB_none h)⟩
        case m4 =>
          exact ⟨fun u w1 w' h ⟨b, u3, h1, h2, h3⟩ => ⟨b, u3, h1, ext_block h h2, own_below h3 h⟩, fun _ u w1 w' h ⟨b, u3, h1, h2, h3⟩ => ⟨b, u3, h1, ext_block (extB_none h) h2, own_below h3 (extB_none h)⟩⟩
        case s0 =>
          refine stepIn_wp (fun av wv hE hS hO hD => ⟨rfl, wpIn_of_run (fun _ => trivial) (by intro c hc; cases hc) (w' := wv) (v := v) ?_ ⟨v, rfl, es_of_ext (Ext_refl _), rfl⟩⟩)
          have h6 : av.eval (.tmp 6) = .pointer (some ⟨o, 0, none⟩) := hO.2.2 6 rfl
          have f6 := (ev_form av 6).symm.trans h6
          have hc0 := extB_cell hE (by simp) hc0
          simp [go_sem, f6, hc0]
        case s1 =>
          refine stepIn_wp (fun av wv hE hS hO hD => ⟨rfl, wpIn_of_run (fun _ => trivial) (by intro c hc; cases hc) (w' := wv) (v := .map (some nk)) ?_ ⟨_, rfl, es_of_ext (Ext_refl _), rfl⟩⟩)
          have h8 : av.eval (.tmp 8) = .map (some nk) := hO.2.2 8 rfl
          have f8 := (ev_form av 8).symm.trans h8
          simp [go_sem, f8]
        case s2 =>
          refine stepIn_wp (fun av wv hE hS hO hD => ?_)
          have d45 : av.eval (.tmp 45) = .map (some nk) := hD.1 rfl _ rfl
          have f45 := (ev_form av 45).symm.trans d45
          refine ⟨rfl, wpIn_of_call (by intro c hc; cases hc) (by simp [go_sem, f45]) (keys_any (.map (some nk)) wv ⟨_, rfl⟩) ?_⟩
          rintro e w' ⟨rfl, rfl⟩
          exact ⟨_, rfl, _, rfl, es_of_ext (balloc (Ext_refl _) _), wv.heap.size, rfl, block_cell (heap_alloc_new _ _) 0⟩
        case s3 =>
          refine stepIn_wp (fun av wv hE hS hO hD => ?_)
          obtain ⟨b, d46, hcb⟩ : ∃ b, av.eval (.tmp 46) = .func (.func 174) #[] #[.pointer (some ⟨b, 0, none⟩)] ∧ wv.cell? ⟨b, 0, none⟩ = some (.map (some nk)) := hD.1 rfl _ rfl
          have f46 := (ev_form av 46).symm.trans d46
          have hB := of_drew hE
          refine ⟨rfl, wpIn_of_call (by intro c hc; cases hc) (by simp [go_sem, f46]) (sorted12_any wv _ nx.length _ _ (fun k _ => k ∈ nx) (fun _ _ _ h => h) (enters_of Tryz.func174 (by kernel_rfl) rfl) (keys1_seq Fence.wide 4 trivial rfl (by omega) b nk 0 nx wv hcb ((hB.block _ (lt_of_block MN.out)).trans MN.out) hh.out.1) (by have := HLN.out; omega)
            (fun xs hS => Nat.le_trans (nodup_len xs nx hS.1 (fun k hk => (hS.2 k).1 hk)) HLN.out)) ?_⟩
          rintro e w' ⟨u, xs, rfl, hS, hr, hb⟩
          refine ⟨u, rfl, u, rfl, es_of_ext hb, ?_⟩
          have e1 : srt xs = rowK ks := rowK_of hS.1 (fun k => (hS.2 k).trans (HD.out k))
          have e2 : xs.length = (rowK ks).length := by rw [← e1, srt_len]
          rw [e1, e2] at hr
          refine ⟨hr.1, ?_⟩
          rcases hr.2 with h3 | ⟨g, cap, cur, h4, h5, h6⟩
          · exact .inl h3
          · exact .inr ⟨g, cap, cur, h4, by have := BW.out.size; have := hB.size; omega, h6⟩
        case s4 =>
          refine stepIn_wp (fun av wv hE hS hO hD => ?_)
          have hrw : wv.ownsRow w.heap.size 37 1 (av.eval (.tmp 47)) (rowK ks).length ((rowK ks).map (Value.int .u64)) := hD.1 rfl _ rfl
          obtain ⟨u, hu⟩ : ∃ u, av.eval (.tmp 47) = u := ⟨_, rfl⟩
          rw [hu] at hrw
          have f47 := (ev_form av 47).symm.trans hu
          have hsl : ∃ ad n c, u = .slice ad n c := by
            rcases hrw.2 with ⟨e, _⟩ | ⟨g, cap, cur, e, _⟩
            · exact ⟨_, _, _, e⟩
            · exact ⟨_, _, _, e⟩
          obtain ⟨ad, n, c, rfl⟩ := hsl
          refine ⟨rfl, wpIn_of_run (fun _ => trivial) (by intro c hc; cases hc) (w' := wv.alloc (.cells #[.slice ad n c] 23)) (v := .slice (some ⟨wv.heap.size, 0, none⟩) 1 1) ?_ ⟨_, rfl, es_of_ext (balloc (Ext_refl _) _), wv.heap.size, _, rfl, heap_alloc_new _ _, own_below hrw (balloc (Below.refl _ _) _)⟩⟩
          simp [go_sem, f47]
        intro a' w' hE hO hall
        have hA := act_of_outer (ds := [44, 45, 46, 47, 48]) rfl hO (by kernel_rfl)
        have e44 : a'.eval (.tmp 44) = v := hall.1 _ rfl
        have e45 : a'.eval (.tmp 45) = .map (some nk) := hall.2.1 _ rfl
        obtain ⟨b2, e46, -⟩ : ∃ b, a'.eval (.tmp 46) = .func (.func 174) #[] #[.pointer (some ⟨b, 0, none⟩)] ∧ w'.cell? ⟨b, 0, none⟩ = some (.map (some nk)) := hall.2.2.1 _ rfl
        obtain ⟨b4, u3, e48, hb4, hu3⟩ : ∃ b u3, a'.eval (.tmp 48) = .slice (some ⟨b, 0, none⟩) 1 1 ∧ w'.heap[b]? = some (.cells #[u3] 23 (0, 0)) ∧ w'.ownsRow w.heap.size 37 1 u3 (rowK ks).length ((rowK ks).map (Value.int .u64)) := hall.2.2.2.2.1 _ rfl
        obtain ⟨v47, hv47⟩ : ∃ v, a'.eval (.tmp 47) = v := ⟨_, rfl⟩
        simp only [List.foldl_cons, List.foldl_nil, Act.put, List.setIfInBounds_toArray, List.set_cons_succ, List.set_cons_zero, e44, e45, e46, hv47, e48] at hA
        have WB := of_drew hE
        have HB4 := Lib.hid hb4
        have BX2 : Hid (Boxed w' o 151 v) := Lib.hid ((WB.block _ BX.out.lt).trans BX.out)
        have RW2 := Lib.hid (own_below RW.out WB)
        have RS2 := Lib.hid ((RS.out.below WB).snoc hu3)
        have BW2 := Lib.hid (bnext BW.out WB)
        have KO : Hid (Below W.heap.size W w') := Lib.hid (bnext hz.out WB)
        have hlv : vals.length = pre.length := by rw [RS.out.1, List.length_map]
        have HLV := Lib.hid hlv
        clear hO hall e44 e45 e46 hv47 e48 hE hb4 hu3 hc0 WB BX RW RS BW hlv hz HALL hh HD HLN
        subst hA
        simp only [List.drop_succ_cons, List.drop_zero]
        obtain ⟨i0, hi, hz0, hz1, hz2⟩ := info_parts info_rows
        refine wpListIn_append_own _ rfl _ _ 151 rfl w.heap.size 23 i0 (.slice none 0 0) 1 24 Tryz.underlying151 hi hz0 hz1 hz2 rfl (by decide) v vals.length vals rfl RW2.out ⟨b4, 0, none⟩ 1 1 [u3] rfl rfl ?c1 ?c2 ?c3 ?c4 ?c5 ?_
        case c1 =>
          intro j u hu
          cases j with
          | zero => simp at hu; subst hu; exact block_cell HB4.out 0
          | succ j => simp at hu
        case c2 =>
          have hr3 := RS2.out.2 pre.length (by simp)
          obtain ⟨u, h1, h2⟩ := hr3
          have : u = u3 := by
            rw [← HLV.out] at h1
            simpa using h1.symm
          subst this
          intro x hx
          simp at hx; subst hx
          rcases h2.2 with ⟨e, _⟩ | ⟨g, cap, cur, e, _⟩ <;> (rw [e]; rfl)
        case c3 => have := HLV.out; unfold maxLen; omega
        case c4 => have := HLV.out; omega
        case c5 => exact BW2.out.size
        intro v' w1 hown' hgrow _
        obtain ⟨g', cap', rfl⟩ := ownsRow_succ hown'
        have hv1 : Boxed w1 o 151 v := BX2.out.kept hgrow (BX2.out.not_row (by decide) RW2.out)
        have R1 : Hid (RowsAre w1 w.heap.size (vals ++ [u3]) (pre.map (fun x => rowK x.2.2) ++ [rowK ks])) := Lib.hid (RS2.out.kept hgrow (fun i u hu => by
          rcases RW2.out.2 with ⟨e, _⟩ | ⟨g, cap, cur, e, _, hgb, _⟩
          · rw [e]; cases h : u.ownBlock <;> simp [Value.ownBlock]
          · rw [e]; exact RS2.out.apart hgb (by decide) i u hu))
        have K1 : Hid (KeepsOthers W w1) := Lib.hid ((⟨KO.out.size, fun k ob hk _ => (KO.out.block k (lt_of_block hk)).trans hk⟩ : KeepsOthers W w').trans (KeepsOthers.of_grownBy hgrow fun j ob ej hj => by
          rcases RW2.out.2 with ⟨e, _⟩ | ⟨g, cap, cur, e, _, hgb, _⟩
          · rw [e] at ej; simp [Value.ownBlock] at ej
          · rw [e] at ej
            obtain rfl : g = j := by simpa [Value.ownBlock] using ej
            rw [hgb] at hj; cases hj; rfl))
        have B1 : Hid (Below w.heap.size w w1) := Lib.hid (grownBy_below BW2.out hgrow (fun k hk => by
          rcases RW2.out.2 with ⟨e, _⟩ | ⟨g, cap, cur, e, hg1, _⟩
          · rw [e] at hk; simp [Value.ownBlock] at hk
          · rw [e] at hk
            obtain rfl : g = k := by simpa [Value.ownBlock] using hk
            exact hg1))
        have hc1 := hv1.cell
        have hf1 := hv1.frozen
        have BV := Lib.hid hv1
        have OW := Lib.hid hown'
        clear hv1 hgrow hown' hi hz0 hz1 hz2
        gi_wp2
        refine ⟨(K1.out.trans (KeepsOthers.setCell _ _ _)).from _, (K1.out.trans (KeepsOthers.setCell _ _ _)).walks, ⟨_, vals ++ [u3], BV.out.set _, ?_, ?_⟩, B1.out.setCell howz _⟩
        · have := OW.out.kept (grownBy_setCell' w1 o (.slice (some ⟨g', 0, none⟩) (vals.length + 1) cap')) (.inr (BV.out.not_row (by decide) OW.out).symm)
          simpa using this
        · have := R1.out.kept (grownBy_setCell' w1 o (.slice (some ⟨g', 0, none⟩) (vals.length + 1) cap')) (R1.out.apart BV.out (by decide))
          simpa using this
      · intro j hj' w1 hns hr1 hltj hb1 hsz hoth hen
        have hi' : j < ks.length := by rw [← kv_len]; exact hj'
        have hkk : (kv ks)[j].1 = ks[j] := (kv_get ks j hj').1
        have hvv : (kv ks)[j].2 = .bool true := (kv_get ks j hj').2
        rw [hkk, hvv] at hen ⊢
        have HX6 : Hid (w1.heap[nk]? = some (mObj .u64 0 (kv nx))) := Lib.hid ((hoth nk (by omega)).trans hx.out)
        have HR6 := Lib.hid hr1
        have HLT := Lib.hid hltj
        have HH6 := Lib.hid (hh.out.step (nb := nb) hi')
        have HB6 : Hid (Below W.heap.size W w1) := Lib.hid (hz.out.trans (hb1 W.heap.size (by have := NK.out; omega)))
        have hku := HU2.out ks[j] (List.getElem_mem hi')
        obtain ⟨k, hkd⟩ : ∃ k, ks[j] = k := ⟨_, rfl⟩
        rw [hkd] at hen HH6 ⊢
        try dsimp only at hku
        rw [hkd] at hku
        unfold U64 at hku
        have hk0 := hku.1
        have hk1 := hku.2
        clear hkk hvv hns hr1 hltj hb1 hsz hoth hr hx hh hkd hku hz
        gi_wp2_with fail
        refine ⟨trivial, (CallsIn.inRound l (callsIn_wide.2 (sibling_any k w1 hk0 hk1))).mono ?_⟩
        rintro e w' ⟨rfl, rfl⟩
        clear hen
        obtain ⟨s, hs⟩ : ∃ s, sib k = s := ⟨_, rfl⟩
        rw [hs] at HH6 ⊢
        have hlook := kv_look ks s
        clear hs
        by_cases hin : s ∈ ks
        · rw [decide_eq_true hin] at hlook
          have HG := Lib.hid hlook
          have HH7 : Hid (Lack ks nb (seen.push (nb + j)) nx) := Lib.hid (by have := HH6.out; rw [if_pos hin] at this; exact this)
          clear hlook hin HH6
          gi_wp2_with (gi_at_lookup; refine wpListIn_lookup_m rfl _ _ 212 37 4 .u64 rfl Tryz.underlying212 Tryz.underlying37 (.bool false) (Tryz.zeroValue4 _) kb nb _ rfl HR6.out.map _ rfl ?_; rw [HG.out])
          go_roundw
          case rel => exact ⟨_, _, HR6.out, HX6.out, HH7.out, HB6.out⟩
          case measure => exact HLT.out
        · rw [decide_eq_false hin] at hlook
          have HG := Lib.hid hlook
          have HH7 : Hid (Lack ks nb (seen.push (nb + j)) (insK nx s)) := Lib.hid (by have := HH6.out; rw [if_neg hin] at this; exact this)
          clear hlook hin HH6
          have HR7 : Hid (Ranging (setBlock w1 nk (mObj .u64 0 (mPut (kv nx) s (.bool true)))) kb r .u64 nb (kv ks) (seen.push (nb + j))) := Lib.hid ⟨(setBlock_other (by omega)).trans HR6.out.map, (setBlock_other (by omega)).trans HR6.out.iter⟩
          have HL7 : Hid (rLeft (setBlock w1 nk (mObj .u64 0 (mPut (kv nx) s (.bool true)))) r (nb + (kv ks).length) < rLeft wr r (nb + (kv ks).length)) := Lib.hid (by have := HLT.out; rw [HR6.out.left] at this; rw [HR7.out.left]; exact this)
          gi_wp2_with (first | (gi_at_lookup; refine wpListIn_lookup_m rfl _ _ 212 37 4 .u64 rfl Tryz.underlying212 Tryz.underlying37 (.bool false) (Tryz.zeroValue4 _) kb nb _ rfl HR6.out.map _ rfl ?_; rw [HG.out]) | (gi_at_mapUpdate; refine wpListIn_mapUpdate_m rfl _ _ _ 212 37 4 .u64 rfl Tryz.underlying212 Tryz.underlying37 nk 0 _ rfl HX6.out _ _ rfl rfl ?_))
          go_roundw
          case rel =>
            (repeat apply Exists.intro)
            exact ⟨⟨seen.push (nb + j), insK nx s, HR7.out, (by rw [← kv_put]; exact setBlock_same HX6.out), HH7.out, setBlock_below HB6.out (by have := NK.out; omega)⟩, rfl⟩
          case measure => exact HL7.out
  case done =>
    rintro D xs W hD hS ⟨⟨v, vals, hv, hrow, hrows⟩, hB⟩ hK
    have hc := hv.cell
    rw [rowsOf_levs hS] at hrows
    gi_wp2
    refine ⟨by simp, .inl ⟨_, _, rfl, run_takeDeferred hK, ?_⟩⟩
    have hhb : Below W.heap.size W W := Below.refl _ _
    refine ⟨_, results_tmp rfl _ _ _, v, vals, rfl, ownsRow_putObj hrow _ hK rfl, ⟨hrows.1, fun i hi => ?_⟩, hB.trans (belowK_b (w := Z) ?_ W D _ _ hD hK rfl rfl)⟩
    · obtain ⟨u, h1, h2⟩ := hrows.2 i hi
      exact ⟨u, h1, ownsRow_putObj h2 _ hK rfl⟩
    · exact ZB.out.size
end Go.Proofs.YtoafjbillcooiaaGreat
namespace Go.Proofs.YtoafjbillcooiaaGreat
open Go.RowKit
set_option linter.unusedSimpArgs false
set_option linter.unusedVariables false
def rnth (rs : List (List Int)) (i : Nat) : List Int := rs.getD i []
theorem rnth_eq (rs : List (List Int)) (i : Nat) (h : i < rs.length) : rnth rs i = rs[i] := by
  unfold rnth; rw [List.getD_eq_getElem?_getD, List.getElem?_eq_getElem h]; rfl
def Rows2 (w : World) (a : Option Addr) (rs : List (List Int)) : Prop :=
  ∀ i, i < len rs → ∃ b off ai ci, a = some ⟨b, off, none⟩ ∧ w.cell? ⟨b, off + i, none⟩ = some (.slice ai (len (rnth rs i)) ci) ∧ U64s w ai (rnth rs i) ∧ len (rnth rs i) ≤ ci
theorem Rows2.below {w w' : World} {a : Option Addr} {rs : List (List Int)} (h : Rows2 w a rs) (hb : Below w.heap.size w w') : Rows2 w' a rs := fun i hi => by
  obtain ⟨b, off, ai, ci, rfl, h1, h2, h3⟩ := h i hi
  exact ⟨b, off, ai, ci, rfl, by rw [hb.cell (p := ⟨b, off + i, none⟩) (lt_of_cell h1)]; exact h1, h2.below hb, h3⟩
theorem Rows2.drew {w w' : World} {a : Option Addr} {rs : List (List Int)} (h : Rows2 w a rs) (hb : Drew w w') : Rows2 w' a rs := h.below (hb.below _)
theorem Rows2.nil (w : World) (a : Option Addr) : Rows2 w a [] := fun i h => by simp [len] at h
theorem own_u64 {w : World} {base n : Nat} {v : Value} {l : List Int} (h : w.ownsRow base 37 1 v n (l.map (Value.int .u64))) : ∃ a cap, v = .slice a (len l) cap ∧ U64s w a l ∧ len l ≤ cap ∧ cap ≤ maxLen := by
  have hn : len l = n := by have := h.1; rw [len_eq]; simpa using this
  rcases h.2 with ⟨rfl, h2⟩ | ⟨g, cap, cur, rfl, hg, hh, hc1, hc2, hc3, hc4⟩
  · obtain rfl : l = [] := List.eq_nil_of_length_eq_zero (by rw [← len_eq]; omega)
    exact ⟨none, 0, rfl, U64s.nil _ _, Nat.le_refl _, Nat.zero_le _⟩
  · refine ⟨some ⟨g, 0, none⟩, cap, by rw [hn], fun i hi => ⟨g, 0, rfl, ?_⟩, by omega, hc2⟩
    have := h.cellAt i (by omega)
    rw [Nat.zero_add, this, List.getElem?_map, List.getElem?_eq_getElem hi, nth_eq l i hi]; rfl
theorem rows2_of {w : World} {base : Nat} {v : Value} {vals : List Value} {rs : List (List Int)} (h : w.ownsRow base 23 1 v vals.length vals) (hr : RowsAre w base vals rs) : ∃ a cap, v = .slice a (len rs) cap ∧ Rows2 w a rs ∧ len rs ≤ cap ∧ cap ≤ maxLen := by
  have hn : len rs = vals.length := hr.1.symm
  rcases h.2 with ⟨rfl, h2⟩ | ⟨g, cap, cur, rfl, hg, hh, hc1, hc2, hc3, hc4⟩
  · obtain rfl : rs = [] := List.eq_nil_of_length_eq_zero (by rw [← len_eq]; omega)
    exact ⟨none, 0, rfl, Rows2.nil _ _, Nat.le_refl _, Nat.zero_le _⟩
  · refine ⟨some ⟨g, 0, none⟩, cap, by rw [hn], fun i hi => ?_, by omega, hc2⟩
    obtain ⟨u, h1, h2⟩ := hr.2 i hi
    obtain ⟨a, c, rfl, h3, h4, h5⟩ := own_u64 h2
    have h6 := h.cellAt i (by omega)
    rw [h1] at h6
    rw [rnth_eq rs i hi]
    exact ⟨g, 0, a, c, rfl, by rw [Nat.zero_add]; exact h6, h3, h4⟩
end Go.Proofs.YtoafjbillcooiaaGreat
namespace Go.Proofs.YtoafjbillcooiaaGreat
open Go.RowKit
set_option linter.unusedSimpArgs false
set_option linter.unusedVariables false
abbrev KnF := Int → Option ByteArray
def noF : KnF := fun _ => none
def kidF (g : KnF) (k : Int) : ByteArray := (g k).getD ByteArray.empty
def overF (g : KnF) : KnF := fun p => if (g (2 * p)).isSome ∨ (g (2 * p + 1)).isSome then some (hashP nodeT [kidF g (2 * p), kidF g (2 * p + 1)]) else none
def putF (g : KnF) (k : Int) (d : ByteArray) : KnF := fun j => if j = k then some d else g j
def addF : KnF → List Int → List ByteArray → KnF
  | g, [], _ => g
  | g, k :: ks, ds => addF (putF g k (tth ds 0)) ks (ds.drop 1)
def rootG : KnF → List (List Int) → List ByteArray → KnF
  | g, [], _ => g
  | g, r :: rs, ds => rootG (overF (addF g r ds)) rs (ds.drop (len r))
theorem tth_drop (l : List ByteArray) (i j : Nat) : tth (l.drop i) j = tth l (i + j) := by unfold tth; simp
theorem addF_snoc : ∀ (g : KnF) (ks : List Int) (k : Int) (ds : List ByteArray), addF g (ks ++ [k]) ds = putF (addF g ks ds) k (tth ds ks.length)
  | g, [], k, ds => rfl
  | g, x :: ks, k, ds => by
    show addF (putF g x (tth ds 0)) (ks ++ [k]) (ds.drop 1) = _
    rw [addF_snoc, tth_drop, List.length_cons, Nat.add_comm]
    rfl
theorem addF_take (g : KnF) (ks : List Int) (ds : List ByteArray) (m : Nat) (h : m < len ks) : addF g (ks.take (m + 1)) ds = putF (addF g (ks.take m) ds) (nth ks m) (tth ds m) := by
  have h2 : m < ks.length := h
  rw [List.take_succ_eq_append_getElem h2, addF_snoc, List.length_take]
  unfold nth
  simp [h2, Nat.min_eq_left (Nat.le_of_lt h2)]
def rootT (g : KnF) (rs : List (List Int)) (ds : List ByteArray) (m : Nat) : KnF := rootG g (rs.take m) ds
def usedR (rs : List (List Int)) (m : Nat) : Nat := ((rs.take m).map len).sum
theorem rootG_snoc : ∀ (g : KnF) (rs : List (List Int)) (r : List Int) (ds : List ByteArray), rootG g (rs ++ [r]) ds = overF (addF (rootG g rs ds) r (ds.drop ((rs.map len).sum)))
  | g, [], r, ds => by show overF (addF g r ds) = _; rw [show ((([] : List (List Int)).map len).sum) = 0 from rfl, List.drop_zero]; rfl
  | g, x :: rs, r, ds => by
    show rootG (overF (addF g x ds)) (rs ++ [r]) (ds.drop (len x)) = _
    rw [rootG_snoc, List.drop_drop, List.map_cons, List.sum_cons]
    rfl
theorem rootT_next (g : KnF) (rs : List (List Int)) (ds : List ByteArray) (m : Nat) (h : m < len rs) : rootT g rs ds (m + 1) = overF (addF (rootT g rs ds m) (rnth rs m) (ds.drop (usedR rs m))) := by
  unfold rootT usedR
  have h2 : m < rs.length := h
  rw [List.take_succ_eq_append_getElem h2, rootG_snoc, rnth_eq rs m h2]
theorem usedR_next (rs : List (List Int)) (m : Nat) (h : m < len rs) : usedR rs (m + 1) = usedR rs m + len (rnth rs m) := by
  unfold usedR
  have h2 : m < rs.length := h
  rw [List.take_succ_eq_append_getElem h2, List.map_append, List.sum_append, rnth_eq rs m h2]
  simp
theorem usedR_le (rs : List (List Int)) (m : Nat) : usedR rs m ≤ usedR rs (len rs) := by
  unfold usedR
  rw [take_len]
  conv => rhs; rw [← List.take_append_drop m rs, List.map_append, List.sum_append]
  omega
def vS (g : KnF) (k : Int) : Option Value := (g k).map Value.string
structure MapF (L : List (Int × Value)) (g : KnF) : Prop where
  nodup : (L.map (·.1)).Nodup
  get : ∀ k, mGet L k = vS g k
  u64 : ∀ e ∈ L, U64 e.1
theorem MapF.nil : MapF [] noF := ⟨List.nodup_nil, fun k => rfl, fun e h => by simp at h⟩
theorem mGet_cons (a : Int × Value) (l : List (Int × Value)) (j : Int) : mGet (a :: l) j = if a.1 = j then some a.2 else mGet l j := by
  unfold mGet
  rw [List.find?_cons]
  by_cases h : a.1 = j
  · simp [h]
  · have : (a.1 == j) = false := by simpa using h
    simp [this, h]
theorem mGet_put : ∀ (l : List (Int × Value)) (k : Int) (v : Value) (j : Int), mGet (mPut l k v) j = if j = k then some v else mGet l j
  | [], k, v, j => by
    show mGet [(k, v)] j = _
    rw [mGet_cons]
    by_cases h : j = k
    · subst h; simp
    · rw [if_neg (fun e => h e.symm), if_neg h]
  | a :: l, k, v, j => by
    unfold mPut
    by_cases h : a.1 = k
    · simp only [h, if_true]
      rw [mGet_cons, mGet_cons]
      by_cases h2 : j = k
      · subst h2; simp
      · rw [if_neg (fun e => h2 e.symm), if_neg h2, if_neg (by rw [h]; exact fun e => h2 e.symm)]
    · simp only [h, if_false]
      rw [mGet_cons, mGet_cons, mGet_put l k v j]
      by_cases h2 : j = k
      · subst h2; simp [h]
      · rw [if_neg h2, if_neg h2]
theorem mPut_keys : ∀ (l : List (Int × Value)) (k : Int) (v : Value) (x : Int), x ∈ (mPut l k v).map (·.1) ↔ x ∈ l.map (·.1) ∨ x = k
  | [], k, v, x => by simp [mPut]
  | a :: l, k, v, x => by
    unfold mPut
    by_cases h : a.1 = k
    · simp only [h, if_true, List.map_cons, List.mem_cons]
      constructor
      · rintro (rfl | h2)
        · exact .inr rfl
        · exact .inl (.inr h2)
      · rintro ((rfl | h2) | rfl)
        · exact .inl rfl
        · exact .inr h2
        · exact .inl rfl
    · simp only [h, if_false, List.map_cons, List.mem_cons, mPut_keys l k v x]
      constructor
      · rintro (rfl | h2 | rfl)
        · exact .inl (.inl rfl)
        · exact .inl (.inr h2)
        · exact .inr rfl
      · rintro ((rfl | h2) | rfl)
        · exact .inl rfl
        · exact .inr (.inl h2)
        · exact .inr (.inr rfl)
theorem mPut_nodup : ∀ (l : List (Int × Value)) (k : Int) (v : Value), (l.map (·.1)).Nodup → ((mPut l k v).map (·.1)).Nodup
  | [], k, v, h => by simp [mPut]
  | a :: l, k, v, h => by
    rw [List.map_cons, List.nodup_cons] at h
    unfold mPut
    by_cases h2 : a.1 = k
    · simp only [h2, if_true, List.map_cons, List.nodup_cons]
      rw [h2] at h
      exact h
    · simp only [h2, if_false, List.map_cons, List.nodup_cons]
      refine ⟨fun hm => ?_, mPut_nodup l k v h.2⟩
      rcases (mPut_keys l k v a.1).1 hm with h3 | h3
      · exact h.1 h3
      · exact h2 h3
theorem mPut_u64 {l : List (Int × Value)} {k : Int} {v : Value} (h : ∀ e ∈ l, U64 e.1) (hk : U64 k) : ∀ e ∈ mPut l k v, U64 e.1 := fun e he => by
  have h1 : e.1 ∈ (mPut l k v).map (·.1) := List.mem_map.2 ⟨e, he, rfl⟩
  rcases (mPut_keys l k v e.1).1 h1 with h2 | h2
  · obtain ⟨e2, h3, h4⟩ := List.mem_map.1 h2
    rw [← h4]; exact h e2 h3
  · rw [h2]; exact hk
theorem MapF.put {L : List (Int × Value)} {g : KnF} (h : MapF L g) (k : Int) (d : ByteArray) (hk : U64 k) : MapF (mPut L k (.string d)) (putF g k d) :=
  ⟨mPut_nodup _ _ _ h.nodup, fun j => by
    rw [mGet_put, h.get]
    unfold vS putF
    by_cases e : j = k
    · rw [if_pos e, if_pos e]; rfl
    · rw [if_neg e, if_neg e], mPut_u64 h.u64 hk⟩
theorem mGet_at {L : List (Int × Value)} (hn : (L.map (·.1)).Nodup) (i : Nat) (hi : i < L.length) : mGet L L[i].1 = some L[i].2 := by
  induction L generalizing i with
  | nil => exact absurd hi (by simp)
  | cons a l ih =>
    rw [List.map_cons, List.nodup_cons] at hn
    rw [mGet_cons]
    cases i with
    | zero => simp
    | succ i =>
      have hi2 : i < l.length := by simpa using hi
      have : ¬ a.1 = l[i].1 := fun e => hn.1 (by rw [e]; exact List.mem_map.2 ⟨l[i], List.getElem_mem hi2, rfl⟩)
      simp only [List.getElem_cons_succ]
      rw [if_neg this, ih hn.2 i hi2]
theorem mGet_none {L : List (Int × Value)} {k : Int} (h : k ∉ L.map (·.1)) : mGet L k = none := by
  induction L with
  | nil => rfl
  | cons a l ih =>
    rw [List.map_cons, List.mem_cons, not_or] at h
    rw [mGet_cons, if_neg (fun e => h.1 e.symm), ih h.2]
theorem MapF.at {L : List (Int × Value)} {g : KnF} (h : MapF L g) (i : Nat) (hi : i < L.length) : ∃ d, L[i].2 = .string d ∧ g L[i].1 = some d := by
  have h1 := mGet_at h.nodup i hi
  rw [h.get] at h1
  unfold vS at h1
  cases hg : g L[i].1 with
  | none => rw [hg] at h1; simp at h1
  | some d => rw [hg] at h1; simp at h1; exact ⟨d, h1.symm, rfl⟩
theorem MapF.look {L : List (Int × Value)} {g : KnF} (h : MapF L g) (k : Int) : (mGet L k).getD (.string ByteArray.empty) = .string (kidF g k) := by
  rw [h.get]
  unfold vS kidF
  cases g k <;> rfl
def prV (h : KnF) (p : Int) : Value := .agg #[.string (kidF h (2 * p)), .string (kidF h (2 * p + 1))]
def prIs (h : KnF) (p : Int) : Prop := (h (2 * p)).isSome ∨ (h (2 * p + 1)).isSome
instance (h : KnF) (p : Int) : Decidable (prIs h p) := by unfold prIs; infer_instance
structure PairF (L : List (Int × Value)) (h : KnF) : Prop where
  nodup : (L.map (·.1)).Nodup
  get : ∀ p, mGet L p = if prIs h p then some (prV h p) else none
  u64 : ∀ e ∈ L, U64 e.1
theorem PairF.nil : PairF [] noF := ⟨List.nodup_nil, fun k => rfl, fun e h => by simp at h⟩
def prE : Value := .agg #[.string ByteArray.empty, .string ByteArray.empty]
theorem PairF.look {L : List (Int × Value)} {h : KnF} (hp : PairF L h) (p : Int) : (mGet L p).getD prE = prV h p := by
  rw [hp.get]
  by_cases hi : prIs h p
  · rw [if_pos hi]; rfl
  · rw [if_neg hi]
    unfold prIs at hi
    rw [not_or] at hi
    have h1 : h (2 * p) = none := by simpa using hi.1
    have h2 : h (2 * p + 1) = none := by simpa using hi.2
    unfold prV kidF
    rw [h1, h2]
    rfl
theorem putF_same (h : KnF) (k : Int) (d : ByteArray) : putF h k d k = some d := by unfold putF; rw [if_pos rfl]
theorem putF_other (h : KnF) {k j : Int} (d : ByteArray) (e : j ≠ k) : putF h k d j = h j := by unfold putF; rw [if_neg e]
theorem kid_same (h : KnF) (k : Int) (d : ByteArray) : kidF (putF h k d) k = d := by unfold kidF; rw [putF_same]; rfl
theorem kid_other (h : KnF) {k j : Int} (d : ByteArray) (e : j ≠ k) : kidF (putF h k d) j = kidF h j := by unfold kidF; rw [putF_other h d e]
def prPut (h : KnF) (k : Int) (d : ByteArray) : Value := if k % 2 = 0 then .agg #[.string d, .string (kidF h (2 * (k / 2) + 1))] else .agg #[.string (kidF h (2 * (k / 2))), .string d]
theorem prPut_eq (h : KnF) (k : Int) (d : ByteArray) : prPut h k d = prV (putF h k d) (k / 2) := by
  unfold prPut prV
  by_cases e : k % 2 = 0
  · rw [if_pos e]
    have e1 : 2 * (k / 2) = k := by omega
    rw [kid_other h d (show 2 * (k / 2) + 1 ≠ k by omega), show kidF (putF h k d) (2 * (k / 2)) = d by rw [e1, kid_same]]
  · rw [if_neg e]
    have e1 : 2 * (k / 2) + 1 = k := by omega
    rw [kid_other h d (show 2 * (k / 2) ≠ k by omega), show kidF (putF h k d) (2 * (k / 2) + 1) = d by rw [e1, kid_same]]
theorem PairF.put {L : List (Int × Value)} {h : KnF} (hp : PairF L h) (k : Int) (d : ByteArray) (hk : U64 k) : PairF (mPut L (k / 2) (prPut h k d)) (putF h k d) :=
  ⟨mPut_nodup _ _ _ hp.nodup, fun p => by
    rw [mGet_put, hp.get]
    by_cases e : p = k / 2
    · subst e
      have : prIs (putF h k d) (k / 2) := by
        unfold prIs
        by_cases e2 : k % 2 = 0
        · left; rw [show 2 * (k / 2) = k by omega, putF_same]; rfl
        · right; rw [show 2 * (k / 2) + 1 = k by omega, putF_same]; rfl
      rw [if_pos rfl, if_pos this, prPut_eq]
    · rw [if_neg e]
      have e1 : 2 * p ≠ k := by omega
      have e2 : 2 * p + 1 ≠ k := by omega
      have e3 : prIs (putF h k d) p ↔ prIs h p := by unfold prIs; rw [putF_other h d e1, putF_other h d e2]
      have e4 : prV (putF h k d) p = prV h p := by unfold prV; rw [kid_other h d e1, kid_other h d e2]
      rw [e4]
      by_cases hi : prIs h p
      · rw [if_pos hi, if_pos (e3.2 hi)]
      · rw [if_neg hi, if_neg (fun h9 => hi (e3.1 h9))], mPut_u64 hp.u64 (by unfold U64 at hk ⊢; omega)⟩
theorem PairF.at {L : List (Int × Value)} {h : KnF} (hp : PairF L h) (i : Nat) (hi : i < L.length) : L[i].2 = prV h L[i].1 ∧ prIs h L[i].1 := by
  have h1 := mGet_at hp.nodup i hi
  rw [hp.get] at h1
  by_cases e : prIs h L[i].1
  · rw [if_pos e] at h1
    exact ⟨(Option.some.inj h1).symm, e⟩
  · rw [if_neg e] at h1; cases h1
def resF (g : KnF) (pre : List Int) : KnF := fun k => if k ∈ pre then g k else none
theorem resF_nil (g : KnF) : resF g [] = noF := by funext k; unfold resF noF; simp
theorem resF_in {g : KnF} {pre : List Int} {j : Int} (h : j ∈ pre) : resF g pre j = g j := by unfold resF; rw [if_pos h]
theorem resF_out {g : KnF} {pre : List Int} {j : Int} (h : j ∉ pre) : resF g pre j = none := by unfold resF; rw [if_neg h]
theorem resF_snoc {g : KnF} (pre : List Int) {k : Int} {d : ByteArray} (h : g k = some d) : resF g (pre ++ [k]) = putF (resF g pre) k d := by
  funext j
  by_cases e : j = k
  · subst e; rw [resF_in (by simp), putF_same, h]
  · rw [putF_other _ _ e]
    by_cases e2 : j ∈ pre
    · rw [resF_in e2, resF_in (by simp [e2])]
    · rw [resF_out e2, resF_out (by simp [e, e2])]
theorem resF_all {g : KnF} {pre : List Int} (h : ∀ k, (g k).isSome → k ∈ pre) : resF g pre = g := by
  funext k
  unfold resF
  by_cases e : k ∈ pre
  · rw [if_pos e]
  · rw [if_neg e]
    cases hg : g k with
    | none => rfl
    | some d => exact absurd (h k (by rw [hg]; rfl)) e
theorem MapF.keys {L : List (Int × Value)} {g : KnF} (h : MapF L g) {k : Int} (hk : (g k).isSome) : k ∈ L.map (·.1) := by
  apply Classical.byContradiction
  intro hn
  have h1 := mGet_none hn
  rw [h.get] at h1
  unfold vS at h1
  cases hg : g k with
  | none => rw [hg] at hk; cases hk
  | some d => rw [hg] at h1; simp at h1
theorem PairF.keys {L : List (Int × Value)} {h : KnF} (hp : PairF L h) {p : Int} (hk : (overF h p).isSome) : p ∈ L.map (·.1) := by
  apply Classical.byContradiction
  intro hn
  have h1 := mGet_none hn
  rw [hp.get] at h1
  unfold overF at hk
  by_cases e : (h (2 * p)).isSome ∨ (h (2 * p + 1)).isSome
  · rw [if_pos (show prIs h p from e)] at h1; cases h1
  · rw [if_neg e] at hk; cases hk
theorem over_some {h : KnF} {p : Int} (e : prIs h p) : overF h p = some (hashP nodeT [kidF h (2 * p), kidF h (2 * p + 1)]) := by unfold overF; exact if_pos e
end Go.Proofs.YtoafjbillcooiaaGreat
namespace Go.Proofs.YtoafjbillcooiaaGreat
open Go.RowKit
set_option linter.unusedSimpArgs false
set_option linter.unusedVariables false
def Rises (l : List Int) : Prop := ∀ i, i < len l → 0 < i → nth l (i - 1) < nth l i
instance (l : List Int) : Decidable (Rises l) := by unfold Rises; exact Nat.decidableBallLT _ _
def MayOk (n : Int) (l : List Int) : Prop := 0 < len l ∧ ∀ i, i < len l → nth l i < n ∧ (0 < i → nth l (i - 1) < nth l i)
instance (n : Int) (l : List Int) : Decidable (MayOk n l) := by
  unfold MayOk
  have : Decidable (∀ i, i < len l → nth l i < n ∧ (0 < i → nth l (i - 1) < nth l i)) := Nat.decidableBallLT _ _
  exact inferInstance
theorem Rises.le {l : List Int} (h : Rises l) : ∀ (i j : Nat), i ≤ j → j < len l → nth l i ≤ nth l j := by
  intro i j hij
  induction j with
  | zero =>
    intro _
    have e : i = 0 := Nat.le_zero.1 hij
    rw [e]
    exact Int.le_refl _
  | succ j ih =>
    intro hj
    by_cases e : i = j + 1
    · subst e; exact Int.le_refl _
    · have h1 := ih (by omega) (by omega)
      have h2 := h (j + 1) hj (by omega)
      rw [Nat.add_sub_cancel] at h2
      omega
theorem may_iff (n : Int) (l : List Int) : MayOk n l ↔ (0 < len l ∧ Rises l ∧ nth l (len l - 1) < n) := by
  constructor
  · rintro ⟨h0, h⟩
    exact ⟨h0, fun i hi hp => (h i hi).2 hp, (h _ (by omega)).1⟩
  · rintro ⟨h0, h1, h2⟩
    refine ⟨h0, fun i hi => ⟨?_, h1 i hi⟩⟩
    have := h1.le i (len l - 1) (by omega) (by omega)
    omega
end Go.Proofs.YtoafjbillcooiaaGreat
namespace Go.Proofs.YtoafjbillcooiaaGreat
open Go.RowKit
set_option linter.unusedSimpArgs false
set_option linter.unusedVariables false
def RisT (l : List Int) (m : Nat) : Prop := ∀ i, i < m → 0 < i → nth l (i - 1) < nth l i
theorem RisT.next {l : List Int} {m : Nat} (h : RisT l m) (h1 : 0 < m → nth l (m - 1) < nth l m) : RisT l (m + 1) := fun i hi h0 => by
  by_cases e : i = m
  · subst e; exact h1 h0
  · exact h i (by omega) h0
set_option maxRecDepth 100000 in
set_option maxHeartbeats 4000000 in
theorem rises_any (l : List Int) (a : Option Addr) (cap : Nat) (w : World) (h : U64s w a l) (hn : len l ≤ 1000000000) : Calls Tryz.prog 108 #[.slice a (len l) cap] w fun e w' => e = .returned (.bool (decide (Rises l))) ∧ Below w.heap.size w w' := by
  have H := Lib.hid h
  have HN := Lib.hid hn
  clear h hn
  go_enter Tryz.func108, Tryz.ntmps108
  go_wp2
  go_loopg [6, 3] (len l) (fun g i _ wr => ∃ m : Nat, g + m = len l ∧ i = .int .i64 m ∧ Hid (RisT l m) ∧ Hid (Below w.heap.size w wr))
  case atStart => exact ⟨0, rfl, rfl, Lib.hid (fun i hi => by omega), Lib.hid (Below.refl _ _)⟩
  case round =>
    obtain ⟨m, hm, rfl, HR, HW⟩ := hrel
    have HNN := HN.out
    by_cases hlt : m < len l
    · have b0 : (m : Int) < len l := by omega
      obtain ⟨b, off, hra, e1⟩ := (H.out.below HW.out) m hlt
      subst hra
      have l1 := lt_of_cell e1
      cases m with
      | zero =>
        go_wp2
        go_quiet (fail)
        go_wp2
        go_roundg (len l - 1)
        case rel => exact ⟨1, by omega, by go_num, Lib.hid (HR.out.next (fun h => by omega)), by (repeat (first | exact Below.refl _ _ | assumption | (refine bdrew ?_) | (refine bdrewN ?_ _) | (refine balloc ?_ _) | (refine bset ?_ (by first | omega | (simp; done) | (simp; omega)) _) | (refine bnext ?_ (by assumption))))⟩
        case measure => omega
      | succ n3 =>
        obtain ⟨b6, off6, hpa6, e2⟩ := (H.out.below HW.out) n3 (by omega)
        cases hpa6
        cases hris : decide (nth l (n3 + 1) ≤ nth l n3) with
        | true =>
          have HRIS := Lib.hid hris
          go_wp2
          have i1 : IntKind.i64.wrap (n3 : Int) = n3 := (IntWalk.i64_in _ (by omega)); have i2 : 0 ≤ (n3 : Int) + 1 := (by omega); have i3 : ((n3 : Int) + 1).toNat = n3 + 1 := (by omega)
          go_quiet (fail)
          clear i1 i2 i3
          go_wp2
          go_ret
          refine ⟨?_, bnext HW.out (by (repeat (first | exact Below.refl _ _ | assumption | (refine bdrew ?_) | (refine bdrewN ?_ _) | (refine balloc ?_ _) | (refine bset ?_ (by first | omega | (simp; done) | (simp; omega)) _) | (refine bnext ?_ (by assumption)))))⟩
          have : ¬ Rises l := fun h9 => by
            have h1 := h9 (n3 + 1) hlt (by omega)
            have h2 := of_decide_eq_true HRIS.out
            rw [Nat.add_sub_cancel] at h1
            omega
          rw [decide_eq_false this]; rfl
        | false =>
          have HRIS := Lib.hid hris
          go_wp2
          have i1 : IntKind.i64.wrap (n3 : Int) = n3 := (IntWalk.i64_in _ (by omega)); have i2 : 0 ≤ (n3 : Int) + 1 := (by omega); have i3 : ((n3 : Int) + 1).toNat = n3 + 1 := (by omega)
          go_quiet (fail)
          clear i1 i2 i3
          go_wp2
          go_roundg (len l - (n3 + 1 + 1))
          case rel => exact ⟨n3 + 1 + 1, by omega, by go_num, Lib.hid (HR.out.next (fun _ => by
            have h2 := of_decide_eq_false HRIS.out
            rw [Nat.add_sub_cancel]
            omega)), by (repeat (first | exact Below.refl _ _ | assumption | (refine bdrew ?_) | (refine bdrewN ?_ _) | (refine balloc ?_ _) | (refine bset ?_ (by first | omega | (simp; done) | (simp; omega)) _) | (refine bnext ?_ (by assumption))))⟩
          case measure => omega
    · obtain rfl : m = len l := by omega
      have b0 : ¬ ((len l : Nat) : Int) < len l := by omega
      go_wp2
      go_ret
      exact ⟨by rw [decide_eq_true (show Rises l from HR.out)]; rfl, HW.out⟩
theorem mlast_any (l : List Int) (a : Option Addr) (cap : Nat) (w : World) (h : U64s w a l) (h0 : 0 < len l) (hn : len l ≤ 1000000000) : Calls Tryz.prog 109 #[.slice a (len l) cap] w fun e w' => e = .returned (.int .u64 (nth l (len l - 1))) ∧ w = w' := by
  obtain ⟨b, off, rfl, e1⟩ := h (len l - 1) (by omega)
  obtain ⟨n, hnn⟩ : ∃ n, len l = n + 1 := ⟨len l - 1, by omega⟩
  rw [hnn, Nat.add_sub_cancel] at e1 ⊢
  rw [hnn] at hn
  have l1 := lt_of_cell e1
  clear h h0 hnn
  have i1 : IntKind.i64.wrap (n : Int) = n := (IntWalk.i64_in _ (by omega)); have i2 : 0 ≤ (n : Int) + 1 := (by omega); have i3 : ((n : Int) + 1).toNat = n + 1 := (by omega)
  go_enter Tryz.func109, Tryz.ntmps109
  go_wp2
  go_ret
  exact ⟨rfl, rfl⟩
set_option maxRecDepth 100000 in
set_option maxHeartbeats 4000000 in
theorem mmay_any (n : Int) (l : List Int) (a : Option Addr) (cap : Nat) (w : World) (h : U64s w a l) (hn : len l ≤ 1000000000) (h0 : 0 ≤ n) (h1 : n ≤ 9223372036854775807) : Calls Tryz.prog 58 #[.int .i64 n, .slice a (len l) cap] w fun e w' => e = .returned (.bool (decide (MayOk n l))) ∧ Below w.heap.size w w' := by
  have HD : Hid (decide (MayOk n l) = decide (0 < len l ∧ Rises l ∧ nth l (len l - 1) < n)) := Lib.hid (by rw [decide_eq_decide]; exact may_iff n l)
  have n1 : IntKind.u64.wrap n = n := IntWalk.u64_in _ (by omega)
  by_cases hz : 0 < len l
  · have b0 : (0 : Int) < (len l : Nat) := by omega
    have HR := Lib.hid (rises_any l a cap w h hn)
    have HL := Lib.hid (fun w' hb => mlast_any l a cap w' (h.below hb) hz hn)
    have HZ := Lib.hid hz
    clear h hn h0 h1 hz
    cases hris : decide (Rises l) with
    | true =>
      rw [hris] at HR
      have HS := Lib.hid hris
      clear hris
      go_enter Tryz.func58, Tryz.ntmps58
      go_wp2_with fail
      refine HR.out.mono ?_
      rintro e w1 ⟨rfl, hb1⟩
      have HB1 := Lib.hid hb1
      go_wp2_with fail
      refine (HL.out w1 hb1).mono ?_
      rintro e w2 ⟨rfl, rfl⟩
      clear hb1
      go_wp2
      go_ret
      refine ⟨?_, HB1.out⟩
      rw [HD.out]
      simp [HZ.out, of_decide_eq_true HS.out]
    | false =>
      rw [hris] at HR
      have HS := Lib.hid hris
      clear hris
      go_enter Tryz.func58, Tryz.ntmps58
      go_wp2_with fail
      refine HR.out.mono ?_
      rintro e w1 ⟨rfl, hb1⟩
      have HB1 := Lib.hid hb1
      clear hb1
      go_wp2
      go_ret
      refine ⟨?_, HB1.out⟩
      rw [HD.out]
      simp [of_decide_eq_false HS.out]
  · have b0 : ¬ (0 : Int) < (len l : Nat) := by omega
    have HZ := Lib.hid hz
    clear hz h hn h0 h1
    go_enter Tryz.func58, Tryz.ntmps58
    go_wp2
    go_ret
    refine ⟨?_, Below.refl _ _⟩
    rw [HD.out]
    simp [HZ.out]
def MayT (n : Int) (l : List Int) (m : Nat) : Prop := ∀ i, i < m → nth l i < n ∧ (0 < i → nth l (i - 1) < nth l i)
theorem MayT.next {n : Int} {l : List Int} {m : Nat} (h : MayT n l m) (h0 : nth l m < n) (h1 : 0 < m → nth l (m - 1) < nth l m) : MayT n l (m + 1) := fun i hi => by
  by_cases e : i = m
  · subst e; exact ⟨h0, h1⟩
  · exact h i (by omega)
set_option maxRecDepth 100000 in
set_option maxHeartbeats 4000000 in
theorem rmay_any (n : Int) (l : List Int) (a : Option Addr) (cap : Nat) (w : World) (h : U64s w a l) (hn : len l ≤ 1000000000) (h0 : 0 ≤ n) (h1 : n ≤ 9223372036854775807) : Calls Tryz.prog 118 #[.int .i64 n, .slice a (len l) cap] w fun e w' => e = .returned (.bool (decide (MayOk n l))) ∧ Below w.heap.size w w' := by
  have H := Lib.hid h
  have HN := Lib.hid hn
  have n1 : IntKind.u64.wrap n = n := IntWalk.u64_in _ (by omega)
  clear h hn h0 h1
  go_enter Tryz.func118, Tryz.ntmps118
  go_wp2
  go_loopg [5] (len l) (fun g i wr => ∃ m : Nat, g + m = len l ∧ i = .int .i64 m ∧ Hid (MayT n l m) ∧ Hid (Below w.heap.size w wr))
  case atStart => exact ⟨0, rfl, rfl, Lib.hid (fun i hi => by omega), Lib.hid (Below.refl _ _)⟩
  case round =>
    obtain ⟨m, hm, rfl, HR, HW⟩ := hrel
    have HNN := HN.out
    by_cases hlt : m < len l
    · have b0 : (m : Int) < len l := by omega
      obtain ⟨b, off, hra, e1⟩ := (H.out.below HW.out) m hlt
      subst hra
      have l1 := lt_of_cell e1
      cases hge : decide (n ≤ nth l m) with
      | true =>
        have HGE := Lib.hid hge
        go_wp2
        go_quiet (fail)
        go_wp2
        go_ret
        refine ⟨?_, bnext HW.out (by (repeat (first | exact Below.refl _ _ | assumption | (refine bdrew ?_) | (refine bdrewN ?_ _) | (refine balloc ?_ _) | (refine bset ?_ (by first | omega | (simp; done) | (simp; omega)) _) | (refine bnext ?_ (by assumption)))))⟩
        have : ¬ MayOk n l := fun h9 => by
          have h1 := (h9.2 m hlt).1
          have h2 := of_decide_eq_true HGE.out
          omega
        rw [decide_eq_false this]; rfl
      | false =>
        have HGE := Lib.hid hge
        cases m with
        | zero =>
          have e1 : wr.cell? ⟨b, off, none⟩ = some (.int .u64 (nth l 0)) := e1
          have hge0 : decide (n ≤ nth l 0) = false := HGE.out
          go_wp2
          go_quiet (fail)
          go_wp2
          go_roundg (len l - 1)
          case rel => exact ⟨1, by omega, by go_num, Lib.hid (HR.out.next (by have := of_decide_eq_false HGE.out; omega) (fun h => by omega)), by (repeat (first | exact Below.refl _ _ | assumption | (refine bdrew ?_) | (refine bdrewN ?_ _) | (refine balloc ?_ _) | (refine bset ?_ (by first | omega | (simp; done) | (simp; omega)) _) | (refine bnext ?_ (by assumption))))⟩
          case measure => omega
        | succ n3 =>
          obtain ⟨b6, off6, hpa6, e2⟩ := (H.out.below HW.out) n3 (by omega)
          cases hpa6
          cases hris : decide (nth l (n3 + 1) ≤ nth l n3) with
          | true =>
            have HRIS := Lib.hid hris
            go_wp2
            have i1 : IntKind.i64.wrap (n3 : Int) = n3 := (IntWalk.i64_in _ (by omega)); have i2 : 0 ≤ (n3 : Int) + 1 := (by omega); have i3 : ((n3 : Int) + 1).toNat = n3 + 1 := (by omega)
            go_quiet (fail)
            clear i1 i2 i3
            go_wp2
            go_ret
            refine ⟨?_, bnext HW.out (by (repeat (first | exact Below.refl _ _ | assumption | (refine bdrew ?_) | (refine bdrewN ?_ _) | (refine balloc ?_ _) | (refine bset ?_ (by first | omega | (simp; done) | (simp; omega)) _) | (refine bnext ?_ (by assumption)))))⟩
            have : ¬ MayOk n l := fun h9 => by
              have h1 := (h9.2 (n3 + 1) hlt).2 (by omega)
              have h2 := of_decide_eq_true HRIS.out
              rw [Nat.add_sub_cancel] at h1
              omega
            rw [decide_eq_false this]; rfl
          | false =>
            have HRIS := Lib.hid hris
            go_wp2
            have i1 : IntKind.i64.wrap (n3 : Int) = n3 := (IntWalk.i64_in _ (by omega)); have i2 : 0 ≤ (n3 : Int) + 1 := (by omega); have i3 : ((n3 : Int) + 1).toNat = n3 + 1 := (by omega)
            go_quiet (fail)
            clear i1 i2 i3
            go_wp2
            go_roundg (len l - (n3 + 1 + 1))
            case rel => exact ⟨n3 + 1 + 1, by omega, by go_num, Lib.hid (HR.out.next (by have := of_decide_eq_false HGE.out; omega) (fun _ => by
              have h2 := of_decide_eq_false HRIS.out
              rw [Nat.add_sub_cancel]
              omega)), by (repeat (first | exact Below.refl _ _ | assumption | (refine bdrew ?_) | (refine bdrewN ?_ _) | (refine balloc ?_ _) | (refine bset ?_ (by first | omega | (simp; done) | (simp; omega)) _) | (refine bnext ?_ (by assumption))))⟩
            case measure => omega
    · obtain rfl : m = len l := by omega
      have b0 : ¬ ((len l : Nat) : Int) < len l := by omega
      go_wp2
      go_ret
      refine ⟨?_, HW.out⟩
      rw [show decide (MayOk n l) = decide (0 < len l) from decide_eq_decide.2 ⟨fun h => h.1, fun h => ⟨h, HR.out⟩⟩]
      simp
end Go.Proofs.YtoafjbillcooiaaGreat
namespace Go.Proofs.YtoafjbillcooiaaGreat
open Go.RowKit
set_option linter.unusedSimpArgs false
set_option linter.unusedVariables false
def needsL (leaves : List Int) (d : Int) : List (List Int) := if 0 ≤ d ∧ d ≤ 16 ∧ 0 < len leaves ∧ farB leaves d.toNat = false then rowsOf leaves d.toNat else []
theorem needsIs_nil {w w' : World} {rs : List (List Int)} (h : rs = []) (hb : Below w.heap.size w w') : NeedsIs rs w (.returned (.slice none 0 0)) w' :=
  ⟨_, [], rfl, World.ownsRow_nil _ _ _ _, by rw [h]; exact RowsAre.nil _ _, hb⟩
set_option maxRecDepth 100000 in
theorem needs_any (a : Option Addr) (cap : Nat) (leaves : List Int) (d : Int) (w : World) (hl : U64s w a leaves) (hlen : len leaves ≤ 12) (hu : ∀ k ∈ leaves, U64 k) :
    Calls Tryz.prog 112 #[.slice a (len leaves) cap, .int .i64 d] w (NeedsIs (needsL leaves d) w) := by
  by_cases hd : 0 ≤ d ∧ d ≤ 16
  · obtain ⟨hd0, hd1⟩ := hd
    obtain ⟨e, rfl⟩ := Int.eq_ofNat_of_zero_le hd0
    by_cases hl0 : 0 < len leaves
    · cases hf : farB leaves e with
      | false =>
        have E : needsL leaves e = rowsOf leaves e := by unfold needsL; rw [Int.toNat_natCast, if_pos ⟨hd0, hd1, hl0, hf⟩]
        rw [E]
        exact needs12_any a cap leaves e w hl hlen hl0 hu (by omega) hf
      | true =>
        have E : Hid (needsL leaves e = []) := Lib.hid (by unfold needsL; rw [Int.toNat_natCast, if_neg (fun h => by rw [hf] at h; exact absurd h.2.2.2 (by decide))])
        have HL := Lib.hid hl
        have HU := Lib.hid hu
        have HF := Lib.hid hf
        have hm : (decide ((0 : Int) ≤ (e : Int)) && decide ((e : Int) ≤ 16)) = true := by simp [hd1]
        have HM := Lib.hid hm
        have b3 : ((len leaves : Int) == 0) = false := by simp; omega
        clear hl hu hf hm
        go_enter Tryz.func112, Tryz.ntmps112
        go_wp2_with fail
        refine (may_any _ _).mono ?_
        rintro x w' ⟨rfl, rfl⟩
        rw [HM.out]
        obtain ⟨V, hV⟩ : ∃ V, w.alloc (.cells #[.int .i64 e] 3) = V := ⟨_, rfl⟩
        have VB : Hid (Below w.heap.size w V) := Lib.hid (by rw [← hV]; (repeat (first | exact Below.refl _ _ | assumption | (refine bdrew ?_) | (refine bdrewN ?_ _) | (refine balloc ?_ _) | (refine bset ?_ (by first | omega | (simp; done) | (simp; omega)) _) | (refine bnext ?_ (by assumption)))))
        have V0 : Hid (V.heap[w.heap.size]? = some (.cells #[.int .i64 e] 3 (0, 0))) := Lib.hid (by rw [← hV]; (repeat (first | exact alloc_new_at _ (by repeat (first | rfl | refine alloc_size _ ?_)) | refine block_alloc ?_ _)))
        rw [hV]
        clear hV
        go_wp2_with fail
        refine (contains_any a cap leaves w.heap.size e V (block_cell V0.out 0) (by omega) (HL.out.below VB.out) (by omega) HU.out).mono ?_
        rintro x w' ⟨rfl, rfl⟩
        rw [HF.out]
        go_wp2
        go_ret
        exact needsIs_nil E.out VB.out
    · have E : Hid (needsL leaves e = []) := Lib.hid (by unfold needsL; rw [if_neg (fun h => hl0 h.2.2.1)])
      have hm : (decide ((0 : Int) ≤ (e : Int)) && decide ((e : Int) ≤ 16)) = true := by simp [hd1]
      have HM := Lib.hid hm
      have b3 : ((len leaves : Int) == 0) = true := by simp; omega
      clear hl hu hm hl0
      go_enter Tryz.func112, Tryz.ntmps112
      go_wp2_with fail
      refine (may_any _ _).mono ?_
      rintro x w' ⟨rfl, rfl⟩
      rw [HM.out]
      go_wp2
      go_ret
      exact needsIs_nil E.out (by (repeat (first | exact Below.refl _ _ | assumption | (refine bdrew ?_) | (refine bdrewN ?_ _) | (refine balloc ?_ _) | (refine bset ?_ (by first | omega | (simp; done) | (simp; omega)) _) | (refine bnext ?_ (by assumption)))))
  · have hm : (decide ((0 : Int) ≤ d) && decide (d ≤ 16)) = false := by
      rw [Bool.and_eq_false_iff, decide_eq_false_iff_not, decide_eq_false_iff_not]; omega
    have HM := Lib.hid hm
    have E : Hid (needsL leaves d = []) := Lib.hid (by unfold needsL; rw [if_neg (fun h => hd ⟨h.1, h.2.1⟩)])
    clear hm hd hl hu
    go_enter Tryz.func112, Tryz.ntmps112
    go_wp2_with fail
    refine (may_any _ _).mono ?_
    rintro x w' ⟨rfl, rfl⟩
    rw [HM.out]
    go_wp2
    go_ret
    exact needsIs_nil E.out (by (repeat (first | exact Below.refl _ _ | assumption | (refine bdrew ?_) | (refine bdrewN ?_ _) | (refine balloc ?_ _) | (refine bset ?_ (by first | omega | (simp; done) | (simp; omega)) _) | (refine bnext ?_ (by assumption)))))
end Go.Proofs.YtoafjbillcooiaaGreat
namespace Go.Proofs.YtoafjbillcooiaaGreat
open Go.RowKit
set_option linter.unusedSimpArgs false
set_option linter.unusedVariables false
theorem stp_int (s M P x : Nat) (hP : P = 2 ^ s) (hx : x < 18446744073709551616) (hM : M * P < 18446744073709551616) (hM2 : M < 18446744073709551616) :
    bits .or .u64 (bits .and .u64 ((x : Int) / (P : Int)) (M : Int)) (IntKind.u64.wrap (bits .and .u64 (x : Int) (M : Int) * (P : Int))) = ((stp s M x : Nat) : Int) := by
  have h1 : (x : Int) / (P : Int) = ((x / P : Nat) : Int) := by simp
  have h2 : x / P < 18446744073709551616 := Nat.lt_of_le_of_lt (Nat.div_le_self _ _) hx
  have h3 : (x &&& M) * P < 18446744073709551616 := Nat.lt_of_le_of_lt (Nat.mul_le_mul_right _ Nat.and_le_right) hM
  have h4 : (x / P) &&& M < 18446744073709551616 := Nat.lt_of_le_of_lt Nat.and_le_left h2
  have h5 : IntKind.u64.wrap (((x &&& M : Nat) : Int) * (P : Int)) = (((x &&& M) * P : Nat) : Int) := by
    rw [IntKind.wrap_u64, show (((x &&& M : Nat) : Int) * (P : Int)) = (((x &&& M) * P : Nat) : Int) by simp]
    omega
  rw [h1, bits_and_u64_nat _ _ h2 hM2, bits_and_u64_nat _ _ hx hM2, h5, bits_or_u64_nat _ _ h4 h3]
  unfold stp
  rw [hP]
theorem swap_int (x : Nat) (hx : x < 18446744073709551616) : bits .or .u64 ((x : Int) / 4294967296) (IntKind.u64.wrap ((x : Int) * 4294967296)) = ((swap32 x : Nat) : Int) := by
  have h1 : (x : Int) / 4294967296 = ((x / 4294967296 : Nat) : Int) := by omega
  have h5 : IntKind.u64.wrap ((x : Int) * 4294967296) = ((x * 4294967296 % 18446744073709551616 : Nat) : Int) := by
    rw [IntKind.wrap_u64]; omega
  rw [h1, h5, bits_or_u64_nat _ _ (by omega) (by omega)]
  rfl
set_option maxRecDepth 100000 in
theorem revbytes_any (n : Nat) (w : World) (hn : n < 18446744073709551616) : Calls Tryz.prog 171 #[.int .u64 n] w fun e w' => e = .returned (.int .u64 ((swap32 (stp 16 M16 (stp 8 M8 n)) : Nat) : Int)) ∧ w = w' := by
  have HN := Lib.hid hn
  clear hn
  go_enter Tryz.func171, Tryz.ntmps171
  go_wp2
  go_ret
  refine ⟨ret_int ?_, rfl⟩
  have hn := HN.out
  have l8 : stp 8 M8 n < 18446744073709551616 := stp_lt hn (by decide)
  have l16 : stp 16 M16 (stp 8 M8 n) < 18446744073709551616 := stp_lt l8 (by decide)
  have S8 := stp_int 8 M8 256 n rfl hn (by decide) (by decide)
  have S16 := stp_int 16 M16 65536 (stp 8 M8 n) rfl l8 (by decide) (by decide)
  have S32 := swap_int _ l16
  refine Eq.trans ?_ S32
  rw [← S16, ← S8]
  rfl
set_option maxRecDepth 100000 in
theorem reverse_any (n : Nat) (w : World) (hn : n < 18446744073709551616) : Calls Tryz.prog 152 #[.int .u64 n] w fun e w' => e = .returned (.int .u64 ((rev64 n : Nat) : Int)) ∧ w = w' := by
  have l1 : stp 1 M1 n < 18446744073709551616 := stp_lt hn (by decide)
  have l2 : stp 2 M2 (stp 1 M1 n) < 18446744073709551616 := stp_lt l1 (by decide)
  have l4 : stp 4 M4 (stp 2 M2 (stp 1 M1 n)) < 18446744073709551616 := stp_lt l2 (by decide)
  have S1 := stp_int 1 M1 2 n rfl hn (by decide) (by decide)
  have S2 := stp_int 2 M2 4 (stp 1 M1 n) rfl l1 (by decide) (by decide)
  have S4 := stp_int 4 M4 16 (stp 2 M2 (stp 1 M1 n)) rfl l2 (by decide) (by decide)
  have H : ∀ x : Int, x = ((stp 4 M4 (stp 2 M2 (stp 1 M1 n)) : Nat) : Int) → ∀ W : World, Calls Tryz.prog 171 #[.int .u64 x] W fun e w' => e = .returned (.int .u64 ((rev64 n : Nat) : Int)) ∧ W = w' := fun x hx W => by
    rw [hx]; exact revbytes_any _ W l4
  have HH := Lib.hid H
  have E : Hid (bits .or .u64 (bits .and .u64 (bits .or .u64 (bits .and .u64 (bits .or .u64 (bits .and .u64 ((n : Int) / 2) (M1 : Int)) (IntKind.u64.wrap (bits .and .u64 (n : Int) (M1 : Int) * 2)) / 4) (M2 : Int)) (IntKind.u64.wrap (bits .and .u64 (bits .or .u64 (bits .and .u64 ((n : Int) / 2) (M1 : Int)) (IntKind.u64.wrap (bits .and .u64 (n : Int) (M1 : Int) * 2))) (M2 : Int) * 4)) / 16) (M4 : Int)) (IntKind.u64.wrap (bits .and .u64 (bits .or .u64 (bits .and .u64 (bits .or .u64 (bits .and .u64 ((n : Int) / 2) (M1 : Int)) (IntKind.u64.wrap (bits .and .u64 (n : Int) (M1 : Int) * 2)) / 4) (M2 : Int)) (IntKind.u64.wrap (bits .and .u64 (bits .or .u64 (bits .and .u64 ((n : Int) / 2) (M1 : Int)) (IntKind.u64.wrap (bits .and .u64 (n : Int) (M1 : Int) * 2))) (M2 : Int) * 4))) (M4 : Int) * 16)) = ((stp 4 M4 (stp 2 M2 (stp 1 M1 n)) : Nat) : Int)) := Lib.hid (by
    refine Eq.trans ?_ S4
    rw [← S2, ← S1]
    rfl)
  clear S1 S2 S4 H l1 l2 l4 hn
  go_enter Tryz.func152, Tryz.ntmps152
  go_wp2_with fail
  refine (HH.out _ E.out _).mono ?_
  rintro e w' ⟨rfl, rfl⟩
  go_wp2
  go_ret
  exact ⟨rfl, rfl⟩
def turnedZ (k d : Int) : Int := if 0 ≤ d ∧ d ≤ 16 ∧ k < 2 ^ d.toNat then (revOf k.toNat d.toNat : Nat) else 0
theorem pow_cast (d : Nat) : ((2 : Int) ^ d) = ((2 ^ d : Nat) : Int) := by simp
set_option maxRecDepth 100000 in
theorem turned_any (k d : Int) (w : World) (h0 : 0 ≤ k) (h1 : k ≤ 18446744073709551615) : Calls Tryz.prog 107 #[.int .u64 k, .int .i64 d] w fun e w' => e = .returned (.int .u64 (turnedZ k d)) ∧ w = w' := by
  by_cases hd : 0 ≤ d ∧ d ≤ 16
  · obtain ⟨hd0, hd1⟩ := hd
    obtain ⟨n, rfl⟩ := Int.eq_ofNat_of_zero_le h0
    obtain ⟨e, rfl⟩ := Int.eq_ofNat_of_zero_le hd0
    have hm : (decide ((0 : Int) ≤ (e : Int)) && decide ((e : Int) ≤ 16)) = true := by simp [hd1]
    have HM := Lib.hid hm
    clear hm
    by_cases hlt : n < 2 ^ e
    · have hq : ((n : Int) / 2 ^ e != 0) = false := by
        rw [pow_cast, show ((n : Int) / ((2 ^ e : Nat) : Int)) = ((n / 2 ^ e : Nat) : Int) by simp, Nat.div_eq_of_lt hlt]; rfl
      have hn64 : n < 18446744073709551616 := by omega
      have R : Hid (((rev64 n : Nat) : Int) / 2 ^ (63 - e) / 2 = turnedZ n e) := Lib.hid (by
        have := rev_turned (k := n) (d := e) hn64 (by omega)
        unfold turnedZ
        rw [if_pos ⟨hd0, hd1, by rw [Int.toNat_natCast, pow_cast]; omega⟩, Int.toNat_natCast, Int.toNat_natCast, ← this, pow_cast]
        simp)
      have HN := Lib.hid hn64
      clear hn64 hlt
      go_enter Tryz.func107, Tryz.ntmps107
      go_wp2_with fail
      refine (may_any _ _).mono ?_
      rintro e w' ⟨rfl, rfl⟩
      rw [HM.out]
      go_wp2_with fail
      refine (reverse_any n _ HN.out).mono ?_
      rintro e w' ⟨rfl, rfl⟩
      go_wp2
      go_ret
      refine ⟨ret_int ?_, rfl⟩
      rw [← R.out]
    · have hq : ((n : Int) / 2 ^ e != 0) = true := by
        have hp : 0 < 2 ^ e := Nat.two_pow_pos e
        have := Nat.div_pos (Nat.le_of_not_lt hlt) hp
        rw [pow_cast, show ((n : Int) / ((2 ^ e : Nat) : Int)) = ((n / 2 ^ e : Nat) : Int) by simp]
        exact bne_iff_ne.2 (by omega)
      have R : Hid (turnedZ n e = 0) := Lib.hid (by unfold turnedZ; rw [if_neg (fun h => hlt (by have := h.2.2; rw [Int.toNat_natCast, pow_cast] at this; omega))])
      clear hlt
      go_enter Tryz.func107, Tryz.ntmps107
      go_wp2_with fail
      refine (may_any _ _).mono ?_
      rintro e w' ⟨rfl, rfl⟩
      rw [HM.out]
      go_wp2
      go_ret
      exact ⟨ret_int R.out.symm, rfl⟩
  · have hm : (decide ((0 : Int) ≤ d) && decide (d ≤ 16)) = false := by
      rw [Bool.and_eq_false_iff, decide_eq_false_iff_not, decide_eq_false_iff_not]; omega
    have HM := Lib.hid hm
    have R : Hid (turnedZ k d = 0) := Lib.hid (by unfold turnedZ; rw [if_neg (fun h => hd ⟨h.1, h.2.1⟩)])
    clear hm hd
    go_enter Tryz.func107, Tryz.ntmps107
    go_wp2_with fail
    refine (may_any _ _).mono ?_
    rintro e w' ⟨rfl, rfl⟩
    rw [HM.out]
    go_wp2
    go_ret
    exact ⟨ret_int R.out.symm, rfl⟩
theorem leaf_any (k d : Int) (w : World) (h0 : 0 ≤ k) (h1 : k ≤ 18446744073709551615) : Calls Tryz.prog 111 #[.int .u64 k, .int .i64 d] w fun e w' => e = .returned (.int .u64 (turnedZ k d)) ∧ w = w' := by
  have H := Lib.hid (turned_any k d w h0 h1)
  clear h0 h1
  go_enter Tryz.func111, Tryz.ntmps111
  go_wp2_with fail
  refine H.out.mono ?_
  rintro e w' ⟨rfl, rfl⟩
  go_wp2
  go_ret
  exact ⟨rfl, rfl⟩
theorem element_any (k d : Int) (w : World) (h0 : 0 ≤ k) (h1 : k ≤ 18446744073709551615) : Calls Tryz.prog 56 #[.int .u64 k, .int .i64 d] w fun e w' => e = .returned (.int .u64 (turnedZ k d)) ∧ w = w' := by
  have H := Lib.hid (turned_any k d w h0 h1)
  clear h0 h1
  go_enter Tryz.func56, Tryz.ntmps56
  go_wp2_with fail
  refine H.out.mono ?_
  rintro e w' ⟨rfl, rfl⟩
  go_wp2
  go_ret
  exact ⟨rfl, rfl⟩
set_option maxRecDepth 100000 in
theorem refTurned_any (k d : Int) (w : World) (h0 : 0 ≤ k) (h1 : k ≤ 18446744073709551615) (hd64 : -9223372036854775808 ≤ d) (hd65 : d ≤ 9223372036854775807) : Calls Tryz.prog 143 #[.int .u64 k, .int .i64 d] w fun e w' => e = .returned (.int .u64 (turnedZ k d)) ∧ w = w' := by
  by_cases hd : 0 ≤ d ∧ d ≤ 16
  · obtain ⟨hd0, hd1⟩ := hd
    obtain ⟨n, rfl⟩ := Int.eq_ofNat_of_zero_le h0
    obtain ⟨e, rfl⟩ := Int.eq_ofNat_of_zero_le hd0
    have he16 : e ≤ 16 := by omega
    have p16 : 2 ^ e ≤ 65536 := Nat.pow_le_pow_right (n := 2) (by decide) he16
    have p0 : 0 < 2 ^ e := Nat.two_pow_pos e
    have e0 : decide ((e : Int) < 0) = false := decide_eq_false (by omega)
    have e1 : decide ((16 : Int) < (e : Int)) = false := decide_eq_false (by omega)
    have R0 : turnedZ n e = if n < 2 ^ e then ((revOf n e : Nat) : Int) else 0 := by
      unfold turnedZ
      by_cases h : n < 2 ^ e
      · rw [if_pos h, if_pos ⟨hd0, hd1, by rw [Int.toNat_natCast, pow_cast]; omega⟩, Int.toNat_natCast, Int.toNat_natCast]
      · rw [if_neg h, if_neg (fun hh => h (by have := hh.2.2; rw [Int.toNat_natCast, pow_cast] at this; omega))]
    obtain ⟨p, hp⟩ : ∃ p : Nat, 2 ^ e = p := ⟨_, rfl⟩
    have hw : IntKind.u64.wrap ((2 : Int) ^ e) = (p : Int) := by rw [pow_cast, IntKind.wrap_u64, hp]; omega
    rw [hp] at p16 p0 R0
    have HP := Lib.hid hp
    clear hp
    by_cases hlt : n < p
    · rw [if_pos hlt] at R0
      have R := Lib.hid R0
      have e2 : decide ((p : Int) ≤ (n : Int)) = false := decide_eq_false (by omega)
      clear R0
      go_enter Tryz.func143, Tryz.ntmps143
      go_wp2
      go_loopg [0, 5, 6] e (fun g a b c wr => ∃ m : Nat, g + m = e ∧ a = .int .u64 ((n / 2 ^ m : Nat) : Int) ∧ b = .int .u64 ((revOf n m : Nat) : Int) ∧ c = .int .i64 m ∧ w = wr)
      case atStart => exact ⟨0, rfl, by simp, rfl, rfl, rfl⟩
      case round =>
        obtain ⟨m, hm, rfl, rfl, rfl, rfl⟩ := hrel
        by_cases hme : m < e
        · have i0 : (m : Int) < e := by omega
          have r1 := revOf_lt n m
          have r2 : 2 ^ m ≤ 2 ^ 15 := Nat.pow_le_pow_right (by decide) (by omega)
          have S := Lib.hid (show revOf n (m + 1) = 2 * revOf n m + n / 2 ^ m % 2 from rfl)
          have T : Hid (n / 2 ^ (m + 1) = n / 2 ^ m / 2) := Lib.hid (by rw [Nat.pow_succ, Nat.div_div_eq_div_mul])
          have r3 : n / 2 ^ m ≤ n := Nat.div_le_self _ _
          obtain ⟨x, hx⟩ : ∃ x, n / 2 ^ m = x := ⟨_, rfl⟩
          obtain ⟨y, hy⟩ : ∃ y, revOf n m = y := ⟨_, rfl⟩
          rw [hx] at S T r3 ⊢
          rw [hy] at S r1 ⊢
          have y0 : (y : Int) < 32768 := by omega
          have x0 : (x : Int) ≤ 18446744073709551615 := by omega
          clear hx hy r1 r2
          go_wp2
          go_roundg (gk - 1)
          case rel => exact ⟨m + 1, by omega, (by rw [T.out]; go_num), (by rw [S.out]; go_num), by go_num, rfl⟩
          case measure => omega
        · obtain rfl : m = e := by omega
          go_wp2
          go_ret
          exact ⟨ret_int R.out.symm, rfl⟩
    · rw [if_neg hlt] at R0
      have R := Lib.hid R0
      have e2 : decide ((p : Int) ≤ (n : Int)) = true := decide_eq_true (by omega)
      clear R0
      go_enter Tryz.func143, Tryz.ntmps143
      go_wp2
      go_ret
      exact ⟨ret_int R.out.symm, rfl⟩
  · have R : Hid (turnedZ k d = 0) := Lib.hid (by unfold turnedZ; rw [if_neg (fun h => hd ⟨h.1, h.2.1⟩)])
    by_cases h2 : d < 0
    · have e0 : decide (d < 0) = true := decide_eq_true h2
      clear hd
      go_enter Tryz.func143, Tryz.ntmps143
      go_wp2
      go_ret
      exact ⟨ret_int R.out.symm, rfl⟩
    · have e0 : decide (d < 0) = false := decide_eq_false h2
      have h3 : 16 < d := by omega
      have e1 : decide ((16 : Int) < d) = true := decide_eq_true h3
      clear hd
      go_enter Tryz.func143, Tryz.ntmps143
      go_wp2
      go_ret
      exact ⟨ret_int R.out.symm, rfl⟩
theorem refLeaf_any (k d : Int) (w : World) (h0 : 0 ≤ k) (h1 : k ≤ 18446744073709551615) (hd64 : -9223372036854775808 ≤ d) (hd65 : d ≤ 9223372036854775807) : Calls Tryz.prog 101 #[.int .u64 k, .int .i64 d] w fun e w' => e = .returned (.int .u64 (turnedZ k d)) ∧ w = w' := by
  have H := Lib.hid (refTurned_any k d w h0 h1 hd64 hd65)
  clear h0 h1 hd64 hd65
  go_enter Tryz.func101, Tryz.ntmps101
  go_wp2_with fail
  refine H.out.mono ?_
  rintro e w' ⟨rfl, rfl⟩
  go_wp2
  go_ret
  exact ⟨rfl, rfl⟩
theorem refElement_any (k d : Int) (w : World) (h0 : 0 ≤ k) (h1 : k ≤ 18446744073709551615) (hd64 : -9223372036854775808 ≤ d) (hd65 : d ≤ 9223372036854775807) : Calls Tryz.prog 100 #[.int .u64 k, .int .i64 d] w fun e w' => e = .returned (.int .u64 (turnedZ k d)) ∧ w = w' := by
  have H := Lib.hid (refTurned_any k d w h0 h1 hd64 hd65)
  clear h0 h1 hd64 hd65
  go_enter Tryz.func100, Tryz.ntmps100
  go_wp2_with fail
  refine H.out.mono ?_
  rintro e w' ⟨rfl, rfl⟩
  go_wp2
  go_ret
  exact ⟨rfl, rfl⟩
theorem refSibling_any (k : Int) (w : World) (h0 : 0 ≤ k) (h1 : k ≤ 18446744073709551615) : Calls Tryz.prog 145 #[.int .u64 k] w fun e w' => e = .returned (.int .u64 (sib k)) ∧ w = w' := by
  by_cases h : k % 2 = 0
  · have S : Hid (sib k = k + 1) := Lib.hid (by unfold sib; rw [if_pos h])
    have hk : k + 1 ≤ 18446744073709551615 := by omega
    go_enter Tryz.func145, Tryz.ntmps145
    go_wp2
    go_ret
    exact ⟨ret_int S.out.symm, rfl⟩
  · have S : Hid (sib k = k - 1) := Lib.hid (by unfold sib; rw [if_neg h])
    have hk : 1 ≤ k := by omega
    go_enter Tryz.func145, Tryz.ntmps145
    go_wp2
    go_ret
    exact ⟨ret_int S.out.symm, rfl⟩
def depthZ (n : Int) : Int := if n < 0 ∨ 65536 < n then -1 else (Lib.bitLen (n.toNat - 1) : Nat)
theorem bitLen_small (x : Nat) (hx : x < 2 ^ 64) : x < 2 ^ Lib.bitLen x ∧ (x ≠ 0 → 2 ^ (Lib.bitLen x - 1) ≤ x ∧ 1 ≤ Lib.bitLen x) := by
  by_cases h : x = 0
  · subst h; exact ⟨Nat.two_pow_pos _, fun h => absurd rfl h⟩
  · have := Lib.bitLenAux_bounds 64 x hx h
    exact ⟨this.2.2, fun _ => ⟨this.2.1, this.1⟩⟩
set_option maxRecDepth 100000 in
theorem depth_any (n : Int) (w : World) (h0 : -9223372036854775808 ≤ n) (h1 : n ≤ 9223372036854775807) : Calls Tryz.prog 52 #[.int .i64 n] w fun e w' => e = .returned (.int .i64 (depthZ n)) ∧ w = w' := by
  have hbl := fun x w h0 h1 => Tryz.bits_Len x w h0 h1
  by_cases hn : n < 0
  · have D : Hid (depthZ n = -1) := Lib.hid (by unfold depthZ; rw [if_pos (.inl hn)])
    have e0 : decide (n < 0) = true := decide_eq_true hn
    go_enter Tryz.func52, Tryz.ntmps52
    go_wp2
    go_ret
    exact ⟨ret_int D.out.symm, rfl⟩
  have e0 : decide (n < 0) = false := decide_eq_false hn
  by_cases hb : 65536 < n
  · have D : Hid (depthZ n = -1) := Lib.hid (by unfold depthZ; rw [if_pos (.inr hb)])
    have e1 : decide (65536 < n) = true := decide_eq_true hb
    go_enter Tryz.func52, Tryz.ntmps52
    go_wp2
    go_ret
    exact ⟨ret_int D.out.symm, rfl⟩
  have e1 : decide (65536 < n) = false := decide_eq_false hb
  have D : Hid (depthZ n = (Lib.bitLen (n.toNat - 1) : Nat)) := Lib.hid (by unfold depthZ; rw [if_neg (by omega)])
  have hn0 : 0 ≤ n := by omega
  have hn1 : n ≤ 65536 := by omega
  clear hn hb
  go_enter Tryz.func52, Tryz.ntmps52
  go_wp2_with fail
  refine (hbl (max n 1 - 1) _ (by omega) (by omega)).mono ?_
  rintro e w' ⟨rfl, rfl⟩
  go_wp2
  go_ret
  exact ⟨ret_int (by rw [D.out, show (max n 1).toNat - 1 = n.toNat - 1 by omega]), rfl⟩
theorem depth_bd (n : Nat) (hn : n ≤ 65536) : Lib.bitLen (n - 1) ≤ 16 ∧ n ≤ 2 ^ Lib.bitLen (n - 1) ∧ (∀ m, m < Lib.bitLen (n - 1) → 2 ^ m < n) := by
  have h := bitLen_small (n - 1) (by omega)
  have h16 := Lib.bitLen_le (n - 1) 16 (by decide) (by omega)
  refine ⟨h16, by omega, fun m hm => ?_⟩
  by_cases h0 : n - 1 = 0
  · rw [h0] at hm
    have : Lib.bitLen 0 = 0 := by decide
    omega
  · have h2 := (h.2 h0).1
    have : 2 ^ m ≤ 2 ^ (Lib.bitLen (n - 1) - 1) := Nat.pow_le_pow_right (by decide) (by omega)
    omega
set_option maxRecDepth 100000 in
theorem refDepth_any (n : Int) (w : World) (h0 : -9223372036854775808 ≤ n) (h1 : n ≤ 9223372036854775807) : Calls Tryz.prog 45 #[.int .i64 n] w fun e w' => e = .returned (.int .i64 (depthZ n)) ∧ w = w' := by
  by_cases hn : n < 0
  · have D : Hid (depthZ n = -1) := Lib.hid (by unfold depthZ; rw [if_pos (.inl hn)])
    have e0 : decide (n < 0) = true := decide_eq_true hn
    go_enter Tryz.func45, Tryz.ntmps45
    go_wp2
    go_ret
    exact ⟨ret_int D.out.symm, rfl⟩
  have e0 : decide (n < 0) = false := decide_eq_false hn
  by_cases hb : 65536 < n
  · have D : Hid (depthZ n = -1) := Lib.hid (by unfold depthZ; rw [if_pos (.inr hb)])
    have e1 : decide (65536 < n) = true := decide_eq_true hb
    go_enter Tryz.func45, Tryz.ntmps45
    go_wp2
    go_ret
    exact ⟨ret_int D.out.symm, rfl⟩
  have e1 : decide (65536 < n) = false := decide_eq_false hb
  obtain ⟨q, rfl⟩ := Int.eq_ofNat_of_zero_le (show 0 ≤ n by omega)
  have D : Hid (depthZ q = (Lib.bitLen (q - 1) : Nat)) := Lib.hid (by unfold depthZ; rw [if_neg (by omega), Int.toNat_natCast])
  obtain ⟨b1, b2, b3⟩ := depth_bd q (by omega)
  obtain ⟨L, hL⟩ : ∃ L, Lib.bitLen (q - 1) = L := ⟨_, rfl⟩
  rw [hL] at D b1 b2 b3
  have B2 := Lib.hid b2
  have B3 := Lib.hid b3
  have hq : (q : Int) ≤ 65536 := by omega
  clear hL b2 b3 hn hb
  go_enter Tryz.func45, Tryz.ntmps45
  go_wp2
  go_loopg [3] L (fun g c wr => ∃ m : Nat, g + m = L ∧ c = .int .i64 m ∧ w = wr)
  case atStart => exact ⟨0, rfl, rfl, rfl⟩
  case round =>
    obtain ⟨m, hm, rfl, rfl⟩ := hrel
    have p16 : 2 ^ m ≤ 2 ^ 16 := Nat.pow_le_pow_right (by decide) (by omega)
    obtain ⟨p, hp⟩ : ∃ p : Nat, 2 ^ m = p := ⟨_, rfl⟩
    have hw : IntKind.i64.wrap ((2 : Int) ^ m) = (p : Int) := by rw [pow_cast, hp]; exact IntWalk.i64_in _ (by omega)
    by_cases hlt : m < L
    · have h3 := B3.out m hlt
      rw [hp] at h3
      have h4 : (p : Int) < q := by omega
      clear hp p16
      go_wp2
      go_roundg (gk - 1)
      case rel => exact ⟨m + 1, by omega, by go_num, rfl⟩
      case measure => omega
    · obtain rfl : m = L := by omega
      have h3 := B2.out
      rw [hp] at h3
      have h4 : ¬ (p : Int) < q := by omega
      clear hp p16
      go_wp2
      go_ret
      exact ⟨ret_int D.out.symm, rfl⟩
end Go.Proofs.YtoafjbillcooiaaGreat
namespace Go.Proofs.YtoafjbillcooiaaGreat
open Go.RowKit Go.ChangeMaps
set_option linter.unusedSimpArgs false
set_option linter.unusedVariables false
attribute [local go_sem] Oper.semAt_some
structure KpO (o : Nat) (A B : World) : Prop where
  size : A.heap.size ≤ B.heap.size
  same : ∀ b cs t fr, b ≠ o → t ≠ 9 → A.heap[b]? = some (.cells cs t fr) → B.heap[b]? = some (.cells cs t fr)
theorem KpO.trans {o : Nat} {A B C : World} (h : KpO o A B) (k : KpO o B C) : KpO o A C := ⟨Nat.le_trans h.size k.size, fun b cs t fr hb ht hc => k.same b cs t fr hb ht (h.same b cs t fr hb ht hc)⟩
theorem KpO.putObj (o : Nat) (W : World) (l : Nat) (x x' : Obj) (hl : W.heap[l]? = some x) (hx : x.isCells = false) : KpO o W (W.putObj l x') :=
  ⟨by simp, fun b cs t fr _ _ hc => by
    have : b ≠ l := fun e => by subst e; rw [hl] at hc; cases hc; cases hx
    exact (World.putObj_heap_other this).trans hc⟩
theorem own_kpo {o : Nat} {A B : World} (h : KpO o A B) {base e size n : Nat} {v : Value} {xs : List Value} (ho : o < base) (he : e ≠ 9) (hr : A.ownsRow base e size v n xs) : B.ownsRow base e size v n xs := by
  refine ⟨hr.1, ?_⟩
  rcases hr.2 with hz | ⟨g, cap, cur, hv, hg, hh, hrest⟩
  · exact Or.inl hz
  · exact Or.inr ⟨g, cap, cur, hv, hg, h.same g cur e (0, 0) (by omega) he hh, hrest⟩
theorem rows_kpo {o : Nat} {A B : World} (h : KpO o A B) {base : Nat} {vals : List Value} {rs : List (List Int)} (ho : o < base) (hr : RowsAre A base vals rs) : RowsAre B base vals rs :=
  ⟨hr.1, fun i hi => by
    obtain ⟨u, h1, h2⟩ := hr.2 i hi
    exact ⟨u, h1, own_kpo h ho (by decide) h2⟩⟩
def flatFrom : Nat → List (List Int) → List (Int × Int)
  | _, [] => []
  | i, r :: rs => r.map (fun k => ((i : Int), k)) ++ flatFrom (i + 1) rs
theorem flatFrom_app : ∀ (s : Nat) (a b : List (List Int)), flatFrom s (a ++ b) = flatFrom s a ++ flatFrom (s + a.length) b
  | _, [], _ => rfl
  | s, r :: a, b => by
    rw [List.cons_append, flatFrom, flatFrom, flatFrom_app (s + 1) a b, List.append_assoc, List.length_cons, show s + 1 + a.length = s + (a.length + 1) by omega]
def flatLv (rs : List (List Int)) : List (Int × Int) := flatFrom 0 rs
def flatAt (rs : List (List Int)) (i j : Nat) : List (Int × Int) := flatLv (rs.take i) ++ ((rnth rs i).take j).map (fun k => ((i : Int), k))
theorem flatAt_next (rs : List (List Int)) (i j : Nat) (hj : j < len (rnth rs i)) : flatAt rs i (j + 1) = flatAt rs i j ++ [((i : Int), nth (rnth rs i) j)] := by
  unfold flatAt
  have h : j < (rnth rs i).length := hj
  rw [List.take_succ_eq_append_getElem h, List.map_append, List.append_assoc, nth_eq _ _ h]
  rfl
theorem flatAt_row (rs : List (List Int)) (i : Nat) (hi : i < len rs) : flatAt rs i (len (rnth rs i)) = flatAt rs (i + 1) 0 := by
  unfold flatAt flatLv
  have h : i < rs.length := hi
  rw [take_len, List.take_zero, List.map_nil, List.append_nil, List.take_succ_eq_append_getElem h, flatFrom_app, List.length_take, Nat.min_eq_left (Nat.le_of_lt h), rnth_eq rs i h]
  simp [flatFrom]
theorem flatAt_end (rs : List (List Int)) : flatAt rs (len rs) 0 = flatLv rs := by
  unfold flatAt
  rw [take_len, List.take_zero, List.map_nil, List.append_nil]
theorem flatAt_lt (rs : List (List Int)) (i j : Nat) (hi : i < len rs) (hj : j < len (rnth rs i)) : (flatAt rs i j).length < (flatLv rs).length := by
  have h : i < rs.length := hi
  have h2 : j < (rnth rs i).length := hj
  have e : flatLv rs = flatLv (rs.take i) ++ (flatFrom (0 + (rs.take i).length) (rs.drop i)) := by
    unfold flatLv
    rw [← flatFrom_app, List.take_append_drop]
  have e2 : rs.drop i = rnth rs i :: rs.drop (i + 1) := by rw [rnth_eq rs i h]; exact List.drop_eq_getElem_cons h
  rw [e, e2, flatFrom]
  unfold flatAt
  simp only [List.length_append, List.length_map, List.length_take]
  omega
theorem flat_at (rs : List (List Int)) (i j : Nat) (hi : i < len rs) (hj : j < len (rnth rs i)) : (flatLv rs)[(flatAt rs i j).length]? = some ((i : Int), nth (rnth rs i) j) := by
  have h : i < rs.length := hi
  have h2 : j < (rnth rs i).length := hj
  have e : flatLv rs = flatLv (rs.take i) ++ (flatFrom (0 + (rs.take i).length) (rs.drop i)) := by
    unfold flatLv
    rw [← flatFrom_app, List.take_append_drop]
  have e2 : rs.drop i = rnth rs i :: rs.drop (i + 1) := by rw [rnth_eq rs i h]; exact List.drop_eq_getElem_cons h
  have e3 : rnth rs i = (rnth rs i).take j ++ nth (rnth rs i) j :: (rnth rs i).drop (j + 1) := by
    rw [nth_eq _ _ h2, ← List.drop_eq_getElem_cons h2, List.take_append_drop]
  have e4 : 0 + (rs.take i).length = i := by rw [List.length_take]; omega
  have e5 : flatLv rs = flatAt rs i j ++ (((i : Int), nth (rnth rs i) j) :: (((rnth rs i).drop (j + 1)).map (fun k => ((i : Int), k)) ++ flatFrom (i + 1) (rs.drop (i + 1)))) := by
    rw [e, e4, e2, flatFrom]
    unfold flatAt
    conv => lhs; rw [e3]
    simp only [List.map_append, List.map_cons, List.append_assoc, List.cons_append]
  rw [e5, List.getElem?_append_right (Nat.le_refl _), Nat.sub_self]
  rfl
def leavesL (l : List Int) (d : Int) : List Int := l.map fun k => turnedZ k d
theorem leavesL_len (l : List Int) (d : Int) : len (leavesL l d) = len l := by unfold leavesL; rw [len_eq, len_eq, List.length_map]
theorem turnedZ_bd (k d : Int) : 0 ≤ turnedZ k d ∧ turnedZ k d ≤ 65535 := by
  unfold turnedZ
  split
  · rename_i h
    have h1 := revOf_lt k.toNat d.toNat
    have h2 : 2 ^ d.toNat ≤ 2 ^ 16 := Nat.pow_le_pow_right (by decide) (by omega)
    have h3 : (2 : Nat) ^ 16 = 65536 := by decide
    omega
  · decide
theorem leavesL_u64 (l : List Int) (d : Int) : ∀ k ∈ leavesL l d, U64 k := by
  intro k hk
  obtain ⟨x, _, rfl⟩ := List.mem_map.1 hk
  have := turnedZ_bd x d
  unfold U64
  omega
theorem leavesL_snoc (l : List Int) (d : Int) (m : Nat) (h : m < len l) : leavesL (l.take (m + 1)) d = leavesL (l.take m) d ++ [turnedZ (nth l m) d] := by
  unfold leavesL
  have h2 : m < l.length := h
  rw [List.take_succ_eq_append_getElem h2, List.map_append, nth_eq l m h2]
  rfl
theorem mem_nth {l : List Int} {i : Nat} (h : i < len l) : nth l i ∈ l := by
  have h2 : i < l.length := h
  rw [nth_eq l i h2]; exact List.getElem_mem h2
theorem rnth_nl (leaves : List Int) (d : Int) (hlen : len leaves ≤ 100) (i : Nat) : len (rnth (needsL leaves d) i) ≤ 100 := by
  have key : ∀ r ∈ needsL leaves d, r.length ≤ 100 := by
    intro r hr
    unfold needsL at hr
    split at hr
    · unfold rowsOf at hr
      obtain ⟨j, hj, rfl⟩ := List.mem_map.1 hr
      unfold rowK
      rw [srt_len]
      refine Nat.le_trans (needK_len _) (Nat.le_trans (insAll_all _).2.2 ?_)
      rw [List.length_map]; exact hlen
    · cases hr
  by_cases hi : i < (needsL leaves d).length
  · rw [rnth_eq _ i hi, len_eq]
    have := key _ (List.getElem_mem hi); omega
  · have : rnth (needsL leaves d) i = [] := by
      unfold rnth; rw [List.getD_eq_getElem?_getD, List.getElem?_eq_none (by omega)]; rfl
    rw [this]; exact Nat.zero_le _
theorem len_nl (leaves : List Int) (d : Int) : len (needsL leaves d) ≤ 16 := by
  unfold needsL
  split
  · rename_i h
    rw [len_eq]; unfold rowsOf; rw [List.length_map, List.length_range]; have := h.2.1; omega
  · exact Nat.zero_le _
theorem flatFrom_len : ∀ (s : Nat) (rs : List (List Int)), (∀ r ∈ rs, r.length ≤ 100) → (flatFrom s rs).length ≤ 100 * rs.length
  | _, [], _ => Nat.le_refl _
  | s, r :: rs, h => by
    have h1 := flatFrom_len (s + 1) rs (fun x hx => h x (List.mem_cons_of_mem _ hx))
    have h2 := h r List.mem_cons_self
    rw [flatFrom, List.length_append, List.length_map, List.length_cons]
    omega
theorem flat_bd (leaves : List Int) (d : Int) (hlen : len leaves ≤ 100) : (flatLv (needsL leaves d)).length ≤ 1600 := by
  have h := flatFrom_len 0 (needsL leaves d) (fun r hr => by
    obtain ⟨i, hi, rfl⟩ := List.mem_iff_getElem.1 hr
    rw [← rnth_eq _ i hi]
    exact rnth_nl leaves d hlen i)
  have h2 := len_nl leaves d
  rw [len_eq] at h2
  unfold flatLv
  omega
abbrev PlSeq {α : Type} (f : α → Int × Int) (o bP bD N : Nat) (L : List α) (n : Nat) (w : World) : Prop :=
  SeqStopsK Fence.wide n Tryz.prog 110 #[.pointer (some ⟨bP, 0, none⟩), .pointer (some ⟨bD, 0, none⟩)] (fun x : α => #[.int .i64 (f x).1, .int .u64 (f x).2]) (KpO o) (fun xs => xs = L) (fun _ => True) N w
set_option maxRecDepth 100000 in
set_option maxHeartbeats 4000000 in
theorem places_seq {α : Type} (f : α → Int × Int) (L : List α) (n : Nat) (hn1 : 1 ≤ n) (o bP bD : Nat) (a : Option Addr) (cap : Nat) (l : List Int) (d : Nat) (w : World) (hcP : w.cell? ⟨bP, 0, none⟩ = some (.slice a (len l) cap)) (hcD : w.cell? ⟨bD, 0, none⟩ = some (.int .i64 d))
    (hl : U64s w a l) (hlen : len l ≤ 12) (hd : d ≤ 16) (hu : ∀ k ∈ l, U64 k) (ho : o < w.heap.size) (hLM : L.map f = flatLv (needsL (leavesL l d) d)) :
    PlSeq f o bP bD L.length L n w := by
  obtain ⟨rs, hrs⟩ : ∃ rs, needsL (leavesL l d) d = rs := ⟨_, rfl⟩
  rw [hrs] at hLM
  have HLM := Lib.hid hLM
  have HRS := Lib.hid hrs
  have HB1 : Hid (len rs ≤ 16) := Lib.hid (by rw [← hrs]; exact len_nl _ _)
  have HB2 : Hid (∀ i, len (rnth rs i) ≤ 100) := Lib.hid (by rw [← hrs]; exact rnth_nl _ _ (by rw [leavesL_len]; omega))
  clear hrs hLM
  intro l0 J Jx W hW hJ hJx hY h0
  have HC1 : Hid (W.cell? ⟨bP, 0, none⟩ = some (.slice a (len l) cap)) := Lib.hid (by rw [hW.cell (p := ⟨bP, 0, none⟩) (lt_of_cell hcP)]; exact hcP)
  have HC2 : Hid (W.cell? ⟨bD, 0, none⟩ = some (.int .i64 d)) := Lib.hid (by rw [hW.cell (p := ⟨bD, 0, none⟩) (lt_of_cell hcD)]; exact hcD)
  have HL := Lib.hid (hl.below hW)
  have H0 := Lib.hid h0
  have HJ := Lib.hid hJ
  have HJX := Lib.hid hJx
  have HY := Lib.hid hY
  have HU := Lib.hid hu
  have HO : Hid (o < W.heap.size) := Lib.hid (Nat.lt_of_lt_of_le ho hW.size)
  obtain ⟨i0, hi, hz0, hz1, hz2⟩ := info_parts info_u64
  have HZ := Lib.hid hz0
  clear hcP hcD hW h0 hJ hJx hY hl hu ho hz0
  refine callsIn_of_wp Tryz.func110 rfl trivial ?_ rfl
  simp only [Tryz.ntmps110, List.size_toArray, List.length_cons, List.length_nil, Nat.reduceAdd, Nat.reduceSub, Array.replicate_succ, Array.replicate_zero, List.push_toArray, List.append_toArray, List.nil_append, List.cons_append]
  have cP := HC1.out
  gi_wp2
  clear cP
  gi_loopw [13, 4] (fun i v wr => ∃ m : Nat, m ≤ len l ∧ i = .int .i64 m ∧ Hid (wr.ownsRow W.heap.size 37 1 v m ((leavesL (l.take m) d).map (Value.int .u64))) ∧ Hid (Below W.heap.size W wr)) (fun i _ _ => len l - (intOf i).toNat)
  case atStart => exact ⟨0, Nat.zero_le _, rfl, Lib.hid (World.ownsRow_nil _ _ _ _), Lib.hid (Below.refl _ _)⟩
  case round =>
    obtain ⟨m, hm, rfl, HR, HB⟩ := hrel
    by_cases hlt : m < len l
    · obtain ⟨b, off, rfl, hcell⟩ := HL.out.below HB.out m hlt
      have b0 : (m : Int) < len l := by omega
      have cD : wr.cell? ⟨bD, 0, none⟩ = some (.int .i64 d) := by rw [HB.out.cell (p := ⟨bD, 0, none⟩) (lt_of_cell HC2.out)]; exact HC2.out
      obtain ⟨k, hk⟩ : ∃ k, nth l m = k := ⟨_, rfl⟩
      have hku : U64 k := by rw [← hk]; exact HU.out _ (mem_nth hlt)
      rw [hk] at hcell
      have HK := Lib.hid hk
      have HLF := Lib.hid (leaf_any k (d : Nat) wr hku.1 hku.2)
      clear hk hku
      gi_wp2_with fail
      refine ⟨trivial, (callsIn_wide.2 HLF.out).mono ?_⟩
      rintro e w1 ⟨rfl, rfl⟩
      gi_wp2_with (gi_at_builtin; refine wpListIn_append_own _ rfl _ _ 23 rfl W.heap.size 37 i0 (.int .u64 0) 1 8 Tryz.underlying23 hi HZ.out hz1 hz2 rfl (by decide) _ _ _ rfl (HR.out.alloc _) ⟨wr.heap.size, 0, none⟩ 1 1 [.int .u64 (turnedZ k d)] rfl rfl (World.news_of_block (heap_alloc_new _ _)) (by intro u hu9; simp at hu9; subst hu9; rfl) (by unfold maxLen; omega) (by omega) (by have := HB.out.size; simp; omega) ?_; intro v2 w4 hown2 hgrow2 _)
      have HO2 : Hid (w4.ownsRow W.heap.size 37 1 v2 (m + 1) ((leavesL (l.take (m + 1)) d).map (Value.int .u64))) := Lib.hid (by
        rw [leavesL_snoc l d m hlt, HK.out, List.map_append]
        exact hown2)
      have HB2 : Hid (Below W.heap.size W w4) := Lib.hid (grownBy_below (balloc HB.out _) hgrow2 (fun k hk' => (HR.out.lt k hk').1))
      clear hown2 hgrow2 HLF cD hcell
      gi_wp2
      go_roundw
      case rel => exact ⟨m + 1, by omega, by go_num, HO2, HB2⟩
      case measure => simp [intOf]; omega
    · obtain rfl : m = len l := by omega
      have b0 : ¬ ((len l : Nat) : Int) < len l := by omega
      have HR2 : Hid (wr.ownsRow W.heap.size 37 1 u4 (len l) ((leavesL l d).map (Value.int .u64))) := Lib.hid (by have h := HR.out; rw [take_len] at h; exact h)
      obtain ⟨a2, cap2, hv, hL2, hc2, hc3⟩ := own_u64 HR2.out
      subst hv
      have HL2 := Lib.hid hL2
      have cD : wr.cell? ⟨bD, 0, none⟩ = some (.int .i64 d) := by rw [HB.out.cell (p := ⟨bD, 0, none⟩) (lt_of_cell HC2.out)]; exact HC2.out
      have HND := Lib.hid (needs_any a2 cap2 (leavesL l d) (d : Nat) wr hL2 (by rw [leavesL_len]; exact hlen) (leavesL_u64 l d))
      rw [HRS.out] at HND
      clear hL2 hc2 hc3 HR hlt hm HR2
      gi_wp2_with fail
      refine ⟨trivial, (callsIn_wide.2 HND.out).mono ?_⟩
      rintro e w2 ⟨v, vals, rfl, hr1, hr2, hb2⟩
      obtain ⟨a3, cap3, hv, hR3, hc4, hc5⟩ := rows2_of hr1 hr2
      have HR1 := Lib.hid hr1
      have HR2 := Lib.hid hr2
      have HBS : Hid (o < wr.heap.size) := Lib.hid (Nat.lt_of_lt_of_le HO.out HB.out.size)
      have HJ2 : Hid (J [] w2) := Lib.hid (HJ.out _ _ _ none H0.out (below_grown (bnext HB.out hb2)) (fun r e => by cases e))
      have HWS : Hid (W.heap.size ≤ w2.heap.size) := Lib.hid (Nat.le_trans HB.out.size hb2.size)
      obtain ⟨B2, hB2⟩ : ∃ B2, wr.heap.size = B2 := ⟨_, rfl⟩
      rw [hB2] at HR1 HR2 HBS
      subst hv
      clear hr1 hr2 hb2 hR3 hB2 HND cD HB H0
      gi_wp2
      gi_loopw [28] (fun i wr => ∃ m : Nat, m ≤ len rs ∧ i = .int .i64 m ∧ Hid (J (L.take (flatAt rs m 0).length) wr) ∧ Hid (wr.ownsRow B2 23 1 (.slice a3 (len rs) cap3) vals.length vals) ∧ Hid (RowsAre wr B2 vals rs)) (fun i _ => len rs - (intOf i).toNat)
      case atStart => exact ⟨0, Nat.zero_le _, rfl, HJ2, HR1, HR2⟩
      case round =>
        clear HJ2 HR1 HR2
        obtain ⟨m, hm, rfl, HJ2, HR1, HR2⟩ := hrel
        by_cases hlt : m < len rs
        · have HLT := Lib.hid hlt
          have hb1 := HB1.out
          have hb2 := HB2.out m
          have b1 : (m : Int) < len rs := by omega
          obtain ⟨a4, c4, hv, hrr, -⟩ := rows2_of HR1.out HR2.out
          have hv2 : a4 = a3 := by injection hv with h1 h2 h3; exact h1.symm
          subst hv2
          obtain ⟨rb, ro, ra, rc, rfl, hrc, hru, -⟩ := hrr m hlt
          clear hrr hv
          gi_wp2
          gi_loopw [35] (fun j wr => ∃ q : Nat, q ≤ len (rnth rs m) ∧ j = .int .i64 q ∧ Hid (J (L.take (flatAt rs m q).length) wr) ∧ Hid (wr.ownsRow B2 23 1 (.slice (some ⟨rb, ro, none⟩) (len rs) cap3) vals.length vals) ∧ Hid (RowsAre wr B2 vals rs) ∧ wr.cell? ⟨rb, ro + m, none⟩ = some (.slice ra (len (rnth rs m)) rc)) (fun j _ => len (rnth rs m) - (intOf j).toNat)
          case atStart => exact ⟨0, Nat.zero_le _, rfl, HJ2, HR1, HR2, hrc⟩
          case round =>
            clear HJ2 HR1 HR2 hrc hru
            obtain ⟨q, hq, rfl, HJ2, HR1, HR2, hrc⟩ := hrel
            by_cases hlq : q < len (rnth rs m)
            · have HLQ := Lib.hid hlq
              have b2 : (q : Int) < len (rnth rs m) := by omega
              obtain ⟨a4, c4, hv, hrr, -⟩ := rows2_of HR1.out HR2.out
              obtain ⟨rb2, ro2, ra2, rc2, hra2, hrc2, hru2, -⟩ := hrr m hlt
              have hv3 : a4 = some ⟨rb, ro, none⟩ := by injection hv with h1 h2 h3; exact h1.symm
              rw [hv3] at hra2
              cases hra2
              rw [hrc] at hrc2
              have hra3 : ra = ra2 := by
                have h9 := Option.some.inj hrc2
                injection h9
              subst hra3
              obtain ⟨eb, eo, hre, hec⟩ := hru2 q hlq
              subst hre
              obtain ⟨k, hk⟩ : ∃ k, nth (rnth rs m) q = k := ⟨_, rfl⟩
              rw [hk] at hec
              have HK := Lib.hid hk
              have HRC := Lib.hid hrc
              obtain ⟨x9, hx9⟩ : ∃ x9, (flatAt rs m q).length = x9 := ⟨_, rfl⟩
              have hx8 : x9 < L.length := by
                have h1 := flatAt_lt rs m q hlt hlq
                rw [← HLM.out, List.length_map] at h1
                omega
              obtain ⟨z9, hz9⟩ : ∃ z9, L[x9]'hx8 = z9 := ⟨_, rfl⟩
              have HZ9 : Hid (L.take (x9 + 1) = L.take x9 ++ [z9]) := Lib.hid (by rw [List.take_succ_eq_append_getElem hx8, hz9])
              have hf9 : f z9 = ((m : Int), k) := by
                rw [← hz9]
                have h1 := flat_at rs m q hlt hlq
                rw [hx9, ← HLM.out, List.getElem?_map, List.getElem?_eq_getElem hx8, hk] at h1
                exact Option.some.inj h1
              have hj9 := HJ2.out
              rw [hx9] at hj9
              have HX9 := Lib.hid hx9
              have HX8 := Lib.hid hx8
              obtain ⟨fn, tmps, assign, body, hy, hR⟩ := HY.out (L.take x9) z9 wr hj9 (by rw [List.length_take]; omega)
              have HR := Lib.hid hR
              try dsimp only at hy
              rw [hf9] at hy
              clear hz9 hf9 hj9 hx9 hx8 hR hv hrr hrc2 hru2 hv3 hk
              gi_wp2
              refine HR.out.mono ?_
              rintro e W3 (⟨rfl, hJ3, hk3⟩ | ⟨rfl, hJx3⟩)
              · have J3 : Hid (J (L.take (flatAt rs m (q + 1)).length) W3) := Lib.hid (by rw [flatAt_next rs m q hlq, List.length_append, HX9.out, List.length_singleton, HZ9.out]; exact hJ3)
                have R1 : Hid (W3.ownsRow B2 23 1 (.slice (some ⟨rb, ro, none⟩) (len rs) cap3) vals.length vals) := Lib.hid (own_kpo hk3 HBS.out (by decide) HR1.out)
                have R2 : Hid (RowsAre W3 B2 vals rs) := Lib.hid (rows_kpo hk3 HBS.out HR2.out)
                have hrc3 : W3.cell? ⟨rb, ro + m, none⟩ = some (.slice (some ⟨eb, eo, none⟩) (len (rnth rs m)) rc) := by
                  rcases HR1.out.2 with ⟨hz9, _⟩ | ⟨g9, cap9, cur9, hv9, hg9, hh9, _⟩
                  · cases hz9
                  · have e9 : rb = g9 := by
                      injection hv9 with h1 h2 h3
                      have := Option.some.inj h1
                      injection this
                    rw [World.cell?_of_block (w := wr) (w' := W3) (a := ⟨rb, ro + m, none⟩) (by show W3.heap[rb]? = wr.heap[rb]?; rw [e9, hh9]; exact hk3.same _ _ _ _ (by have := HBS.out; omega) (by decide) hh9)]
                    exact HRC.out
                clear hJ3 hk3 hy HR hec HRC
                gi_wp2
                go_roundw
                case rel => exact ⟨q + 1, HLQ.out, by go_num, J3, R1, R2, hrc3⟩
                case measure => have := HLQ.out; simp [intOf]; omega
              · have JX := Lib.hid hJx3
                clear hJx3 hy HR hec HRC
                gi_wp2
                refine bodyPost_ret (results_none rfl _ _ _) rfl ?_
                exact ⟨⟨_, rfl⟩, Or.inr ⟨_, trivial, JX.out⟩⟩
            · obtain rfl : q = len (rnth rs m) := by omega
              have b2 : ¬ ((len (rnth rs m) : Nat) : Int) < len (rnth rs m) := by omega
              have HJ3 : Hid (J (L.take (flatAt rs (m + 1) 0).length) wr) := Lib.hid (by have h := HJ2.out; rw [flatAt_row rs m hlt] at h; exact h)
              gi_wp2
              go_roundw
              case rel => exact ⟨m + 1, HLT.out, by go_num, HJ3, HR1, HR2⟩
              case measure => have := HLT.out; simp [intOf]; omega
        · obtain rfl : m = len rs := by omega
          have b1 : ¬ ((len rs : Nat) : Int) < len rs := by omega
          have HJ3 : Hid (J L wr) := Lib.hid (by have h := HJ2.out; rw [flatAt_end, ← HLM.out, List.length_map, List.take_length] at h; exact h)
          gi_wp2
          go_end0
          exact ⟨⟨_, rfl⟩, Or.inl HJ3.out⟩
end Go.Proofs.YtoafjbillcooiaaGreat
namespace Go.Proofs.YtoafjbillcooiaaGreat
open Go.RowKit Go.ChangeMaps
set_option linter.unusedSimpArgs false
set_option linter.unusedVariables false
attribute [local go_sem] Oper.semAt_some
theorem KpO.setCell (o : Nat) (W : World) (k : Nat) (v : Value) : KpO o W (W.setCell ⟨o, k, none⟩ v) :=
  ⟨by simp [World.setCell], fun b cs t fr hb _ hc => (Below.heap_setCell _ _ _ _ (fun e => hb e)).trans hc⟩
theorem own_one {α : Type} (B s0 : Nat) (T : TypeId) (f : List α → Value) : OwnFrom B (fun (pre : List α) W => W.heap[s0]? = some (.cells #[f pre] T (0, 0))) := fun s W W' row hs hg hr =>
  (hg.block s0 (lt_of_block hs) (fun e => by
    obtain ⟨_, x, hx, hc⟩ := hr s0 (by rw [e])
    rw [hs] at hx
    cases hx
    cases hc)).trans hs
theorem places_any (a : Option Addr) (cap n : Nat) (d : Int) (w : World) : Calls Tryz.prog 61 #[.int .i64 d, .slice a n cap] w fun e w' => e = .returned (.func (.func 110) #[] #[.pointer (some ⟨w.heap.size + 1, 0, none⟩), .pointer (some ⟨w.heap.size, 0, none⟩)]) ∧ w' = (w.alloc (.cells #[.int .i64 d] 3)).alloc (.cells #[.slice a n cap] 23) := by
  go_enter Tryz.func61, Tryz.ntmps61
  go_wp2
  go_ret
  exact ⟨rfl, rfl⟩
def plcL (n : Int) (l : List Int) : List (Int × Int) := flatLv (needsL (leavesL l (depthZ n)) (depthZ n))
def SizeOk (n : Int) (l : List Int) : Prop := 0 ≤ n ∧ n ≤ 65536 ∧ MayOk n l
instance (n : Int) (l : List Int) : Decidable (SizeOk n l) := by unfold SizeOk; exact inferInstance
end Go.Proofs.YtoafjbillcooiaaGreat
namespace Go.Proofs.YtoafjbillcooiaaGreat
open Go.RowKit
set_option linter.unusedSimpArgs false
set_option linter.unusedVariables false
theorem bld_size : (Tryz.prog.info? 187).map (·.size) = some 2 := by kernel_rfl
theorem bld_lies : liesAt Tryz.prog Tryz.prog.depth 187 (2 / Tryz.prog.cellsOf 187) 0 187 1 = true := by kernel_rfl
theorem bld_b8 : (Tryz.prog.info? 5).map (fun i => (i.zero, i.size, i.bytes)) = some (some (.int .u8 0), 1, 1) := by kernel_rfl
set_option maxHeartbeats 1000000 in
set_option maxRecDepth 100000 in
theorem bcheck_used (b : Nat) (w : World) (h0 : w.cell? ⟨b, 0, none⟩ = some (.pointer (some ⟨b, 0, none⟩))) :
    Calls Tryz.prog 166 #[.pointer (some ⟨b, 0, none⟩)] w fun e w' => e = .returned (.tuple #[]) ∧ w' = w := by
  obtain ⟨j, hj, _⟩ := Option.map_eq_some_iff.1 bld_size
  go_enter Tryz.func166, Tryz.ntmps166
  go_wp2
  rw [Lib.run_neq_ptr_same w _ Tryz.underlying185 hj]
  go_wp2
  go_end0
  exact ⟨rfl, rfl⟩
set_option maxHeartbeats 1000000 in
set_option maxRecDepth 100000 in
theorem bcheck_fresh (b : Nat) (w : World) (h0 : w.cell? ⟨b, 0, none⟩ = some (.pointer none)) (hsh : w.shape? b = some (187, 2)) (hfz : w.frozen? ⟨b, 0, none⟩ = false) :
    Calls Tryz.prog 166 #[.pointer (some ⟨b, 0, none⟩)] w fun e w' => e = .returned (.tuple #[]) ∧ w' = w.setCell ⟨b, 0, none⟩ (.pointer (some ⟨b, 0, none⟩)) := by
  obtain ⟨j, hj, hjs⟩ := Option.map_eq_some_iff.1 bld_size
  go_enter Tryz.func166, Tryz.ntmps166
  go_wp2
  rw [Lib.run_to_unsafe w ⟨b, 0, none⟩ Tryz.underlying185 Tryz.underlying233 hj (by rw [hjs]; decide) hsh (Nat.zero_lt_succ 1)]
  simp only [Result.andThen]
  rw [Oper.upon_value]
  go_wp2
  rw [run_callFunc_extern Tryz.func177 (by kernel_rfl) (by kernel_rfl) (by kernel_rfl) (e := Extern.AbiNoEscape.same) (by kernel_rfl)]
  rw [Lib.run_noEscape]
  simp only [Result.andThen]
  rw [Oper.upon_value]
  go_wp2
  rw [Lib.run_from_unsafe w ⟨b, 0, none⟩ Tryz.underlying233 Tryz.underlying185 hj hsh bld_lies]
  simp only [Result.andThen]
  rw [Oper.upon_value]
  go_wp2
  go_end0
  exact ⟨rfl, rfl⟩
theorem bcheck_any (B b : Nat) (bs : List Value) (w : World) (h : Lib.IsBuilder 187 5 B b bs w) :
    Calls Tryz.prog 166 #[.pointer (some ⟨b, 0, none⟩)] w fun e w' => e = .returned (.tuple #[]) ∧ (Lib.BuilderAt 187 5 B b (.pointer (some ⟨b, 0, none⟩)) bs w' ∧ Below B w w') := by
  rcases h with h | h
  · refine (bcheck_fresh b w h.cell0 h.shape h.frozen0).mono ?_
    rintro e w' ⟨rfl, rfl⟩
    exact ⟨rfl, h.used _, (Below.refl B w).setCell (p := ⟨b, 0, none⟩) h.1 _⟩
  · refine (bcheck_used b w h.cell0).mono ?_
    rintro e w' ⟨rfl, rfl⟩
    exact ⟨rfl, h, Below.refl B _⟩
set_option maxHeartbeats 2000000 in
set_option maxRecDepth 100000 in
theorem bbyte_any (B b : Nat) (bs : List Value) (c : Int) (w : World) (h : Lib.IsBuilder 187 5 B b bs w) (hlen : bs.length + 1 ≤ 140737488355328) (hBw : B ≤ w.heap.size) :
    Calls Tryz.prog 137 #[.pointer (some ⟨b, 0, none⟩), .int .u8 c] w fun e w' => e = .returned .nilIface ∧ (Lib.BuilderAt 187 5 B b (.pointer (some ⟨b, 0, none⟩)) (bs ++ [.int .u8 c]) w' ∧ Below B w w') := by
  obtain ⟨i0, hi, hz0, hz1, hz2⟩ := info_parts bld_b8
  go_enter Tryz.func137, Tryz.ntmps137
  go_wp2_with fail
  refine (bcheck_any B b bs _ h).mono ?_
  rintro e w1 ⟨rfl, h1, hb1⟩
  obtain ⟨hB, v, hbk, hown, hne⟩ := h1
  have c0 : w1.cell? ⟨b, 0, none⟩ = some (.pointer (some ⟨b, 0, none⟩)) := by rw [Lib.cell_of_heap hbk]; rfl
  have c1 : w1.cell? ⟨b, 1, none⟩ = some v := by rw [Lib.cell_of_heap hbk]; rfl
  go_wp2_with (at_builtin; refine wpList_append_own _ rfl _ _ 114 rfl B 5 i0 (.int .u8 0) 1 1 Tryz.underlying114 hi hz0 hz1 hz2 rfl (by decide) _ _ _ rfl (hown.alloc _) ⟨w1.heap.size, 0, none⟩ 1 1 [.int .u8 c] rfl rfl ?c1 ?c2 ?c3 ?c4 ?c5 ?_)
  case c1 =>
    intro j u hj
    match j, hj with
    | 0, hj => simp at hj; subst hj; simp [Addr.add]
  case c2 => intro u hu; simp at hu; subst hu; rfl
  case c3 => unfold maxLen; omega
  case c4 => omega
  case c5 => have := hb1.size; simp; omega
  intro v' w2 hown' hgrow _
  have hlt : b < w1.heap.size := lt_of_block hbk
  have hb2 : w2.heap[b]? = some (.cells #[.pointer (some ⟨b, 0, none⟩), v] 187 (0, 0)) := by
    rw [hgrow.block b (by simp; omega) (fun e => hne e.symm), Lib.alloc_old w1 _ b hlt]
    exact hbk
  have d0 : w2.cell? ⟨b, 0, none⟩ = some (.pointer (some ⟨b, 0, none⟩)) := by rw [Lib.cell_of_heap hb2]; rfl
  have d1 : w2.cell? ⟨b, 1, none⟩ = some v := by rw [Lib.cell_of_heap hb2]; rfl
  have f1 : w2.frozen? ⟨b, 1, none⟩ = false := Lib.frozen_of_heap hb2 1
  obtain ⟨g, cap, rfl⟩ : ∃ g cap, v' = .slice (some ⟨g, 0, none⟩) (bs.length + 1) cap := by
    rcases hown'.2 with ⟨_, h0⟩ | ⟨g, cap, cur, hv, _⟩
    · omega
    · exact ⟨g, cap, hv⟩
  go_wp2
  go_ret
  refine ⟨rfl, ?_, ?_⟩
  · exact Lib.BuilderAt.put (T := 187) (e := 5) hB hb2 (bs' := bs ++ [.int .u8 c]) (by simpa using hown') (by decide)
  · exact ((hb1.alloc (by have := hb1.size; omega) _).grown hgrow (by have := hb1.size; simp; omega) (fun k hk => (hown.lt k hk).1)).setCell (p := ⟨b, 1, none⟩) hB _
set_option maxHeartbeats 2000000 in
set_option maxRecDepth 100000 in
theorem bstr_any (B b : Nat) (bs : List Value) (s : ByteArray) (w : World) (h : Lib.IsBuilder 187 5 B b bs w) (hlen : bs.length + s.size ≤ 140737488355328) (hBw : B ≤ w.heap.size) :
    Calls Tryz.prog 138 #[.pointer (some ⟨b, 0, none⟩), .string s] w fun e w' => e = .returned (.tuple #[.int .i64 s.size, .nilIface]) ∧ (Lib.BuilderAt 187 5 B b (.pointer (some ⟨b, 0, none⟩)) (bs ++ Lib.strCells s) w' ∧ Below B w w') := by
  obtain ⟨i0, hi, hz0, hz1, hz2⟩ := info_parts bld_b8
  go_enter Tryz.func138, Tryz.ntmps138
  go_wp2_with fail
  refine (bcheck_any B b bs _ h).mono ?_
  rintro e w1 ⟨rfl, h1, hb1⟩
  obtain ⟨hB, v, hbk, hown, hne⟩ := h1
  have c0 : w1.cell? ⟨b, 0, none⟩ = some (.pointer (some ⟨b, 0, none⟩)) := by rw [Lib.cell_of_heap hbk]; rfl
  have c1 : w1.cell? ⟨b, 1, none⟩ = some v := by rw [Lib.cell_of_heap hbk]; rfl
  go_wp2_with (at_builtin; refine Lib.wpList_append_own_string _ rfl _ _ 114 9 rfl B 5 i0 Tryz.underlying114 Tryz.underlying9 hi hz0 hz1 hz2 _ _ _ rfl hown s rfl ?c3 ?c4 ?c5 ?_)
  case c3 => unfold maxLen; omega
  case c4 => omega
  case c5 => have := hb1.size; omega
  intro v' w2 hown' hgrow _
  have hlt : b < w1.heap.size := lt_of_block hbk
  have hb2 : w2.heap[b]? = some (.cells #[.pointer (some ⟨b, 0, none⟩), v] 187 (0, 0)) := by
    rw [hgrow.block b hlt (fun e => hne e.symm)]
    exact hbk
  have d0 : w2.cell? ⟨b, 0, none⟩ = some (.pointer (some ⟨b, 0, none⟩)) := by rw [Lib.cell_of_heap hb2]; rfl
  have d1 : w2.cell? ⟨b, 1, none⟩ = some v := by rw [Lib.cell_of_heap hb2]; rfl
  have f1 : w2.frozen? ⟨b, 1, none⟩ = false := Lib.frozen_of_heap hb2 1
  obtain ⟨ao, n', cap, rfl⟩ : ∃ ao n' cap, v' = .slice ao n' cap := by
    rcases hown'.2 with ⟨hv, _⟩ | ⟨g, cap, cur, hv, _⟩
    · exact ⟨_, _, _, hv⟩
    · exact ⟨_, _, _, hv⟩
  go_wp2
  go_ret2
  refine ⟨rfl, ?_, ?_⟩
  · exact Lib.BuilderAt.put (T := 187) (e := 5) hB hb2 (bs' := bs ++ Lib.strCells s) (by simpa [Lib.strCells_length] using hown') (by decide)
  · exact (hb1.grown hgrow (by have := hb1.size; omega) (fun k hk => (hown.lt k hk).1)).setCell (p := ⟨b, 1, none⟩) hB _
end Go.Proofs.YtoafjbillcooiaaGreat
namespace Go.Proofs.YtoafjbillcooiaaGreat
open Go.RowKit
set_option linter.unusedSimpArgs false
set_option linter.unusedVariables false
abbrev BlAt (B b : Nat) (L : List UInt8) (w : World) : Prop := Lib.BuilderAt 187 5 B b (.pointer (some ⟨b, 0, none⟩)) (Lib.byteCells L) w
theorem bc_app (L M : List UInt8) : Lib.byteCells (L ++ M) = Lib.byteCells L ++ Lib.byteCells M := by unfold Lib.byteCells; rw [List.map_append]
theorem bc_len (L : List UInt8) : (Lib.byteCells L).length = L.length := by unfold Lib.byteCells; rw [List.length_map]
def LayIs (B b : Nat) (L : List UInt8) (w : World) (e : Ending) (w' : World) : Prop := e = .returned (.tuple #[]) ∧ BlAt B b L w' ∧ Below B w w'
set_option maxRecDepth 100000 in
set_option maxHeartbeats 4000000 in
theorem lay_part (B b : Nat) (L : List UInt8) (p : ByteArray) (w : World) (h : BlAt B b L w) (hl : L.length + (8 + p.size) ≤ 140737488355328) (hB : B ≤ w.heap.size) :
    Calls Tryz.prog 139 #[.string p, .pointer (some ⟨b, 0, none⟩)] w (LayIs B b (L ++ partL p) w) := by
  have H := Lib.hid h
  have HL := Lib.hid hl
  have HB := Lib.hid hB
  clear h hl hB
  have i1 : IntKind.u64.wrap ((p.size : Nat) : Int) = ((p.size : Nat) : Int) := IntWalk.u64_in _ (by have := HL.out; omega)
  go_enter Tryz.func139, Tryz.ntmps139
  go_wp2_with fail
  refine (dnum_any p.size w (by have := HL.out; omega)).mono ?_
  rintro e w1 ⟨rfl, hb1⟩
  have HB1 := Lib.hid hb1
  have H1 : Hid (BlAt B b L w1) := Lib.hid (by
    obtain ⟨h1, v, h2, h3, h4⟩ := H.out
    exact ⟨h1, v, (hb1.block _ (lt_of_block h2)).trans h2, own_below h3 hb1, h4⟩)
  clear hb1
  go_wp2_with fail
  refine (bstr_any B b _ (num8S p.size) w1 (Or.inr H1.out) (by rw [bc_len, num8S_size]; have := HL.out; omega) (Nat.le_trans HB.out HB1.out.size)).mono ?_
  rintro e w2 ⟨rfl, h2, hb2⟩
  have H2 : Hid (BlAt B b (L ++ num8 p.size) w2) := Lib.hid (by show Lib.BuilderAt _ _ _ _ _ (Lib.byteCells _) _; rw [bc_app]; exact h2)
  have HB2 : Hid (Below B w w2) := Lib.hid ((HB1.out.mono HB.out).trans hb2)
  have HBS : Hid (B ≤ w2.heap.size) := Lib.hid (Nat.le_trans HB.out HB2.out.size)
  clear h2 hb2
  go_wp2_with fail
  refine (bstr_any B b _ p w2 (Or.inr H2.out) (by rw [bc_len, List.length_append, num8_len]; have := HL.out; omega) HBS.out).mono ?_
  rintro e w3 ⟨rfl, h3, hb3⟩
  have H3 : Hid (BlAt B b (L ++ partL p) w3) := Lib.hid (by show Lib.BuilderAt _ _ _ _ _ (Lib.byteCells _) _; unfold partL; rw [← List.append_assoc, bc_app]; exact h3)
  have HB3 : Hid (Below B w w3) := Lib.hid (HB2.out.trans hb3)
  clear h3 hb3
  go_wp2
  go_end0
  exact ⟨rfl, H3.out, HB3.out⟩
theorem fullT {t : ByteArray} (h : t.size ≠ 0) : t.toList.isEmpty = false := by
  rw [ByteArray.toList_eq]; cases t with | mk d => simp_all [ByteArray.size]
theorem headL_cells (tag : ByteArray) (h : tag.size ≤ 16) : Lib.byteCells (headL tag) = [.int .u8 ((tag.size : Nat) : Int)] ++ Lib.strCells tag := by
  unfold headL Lib.strCells Lib.byteCells
  rw [List.map_cons]
  congr 1
  rw [UInt8.toNat_ofNat', Nat.mod_eq_of_lt (by omega)]
set_option maxRecDepth 100000 in
set_option maxHeartbeats 4000000 in
theorem frame_any (tag : ByteArray) (parts : List ByteArray) (a : Option Addr) (cap : Nat) (w : World) (h1 : 1 ≤ tag.size) (h2 : tag.size ≤ 16) (hp : Txts w a parts) (hs : (partsL parts).length ≤ 140737488355300) :
    Calls Tryz.prog 95 #[.string tag, .slice a (len parts) cap] w fun e w' => e = .returned (.string (frameS tag parts)) ∧ Below w.heap.size w w' := by
  have HP := Lib.hid hp
  have HS := Lib.hid hs
  have HT2 := Lib.hid h2
  have HT1 := Lib.hid h1
  have HPL : Hid (len parts ≤ 140737488355300) := Lib.hid (by have := partsL_ge parts; rw [len_eq]; omega)
  have t1 : tag.toList.isEmpty = false := fullT (by omega)
  have t2 : ¬ (16 : Int) < (tag.size : Int) := by omega
  have t3 : IntKind.u8.wrap ((tag.size : Nat) : Int) = ((tag.size : Nat) : Int) := IntWalk.u8_in _ (by omega)
  clear hp hs h1 h2
  go_enter Tryz.func95, Tryz.ntmps95
  go_upto_region 4 with fail
  obtain ⟨b, hb⟩ : ∃ b, w.heap.size = b := ⟨_, rfl⟩
  rw [hb]
  obtain ⟨V, hV⟩ : ∃ V, w.alloc (.cells #[.pointer none, .slice none 0 0] 187) = V := ⟨_, rfl⟩
  rw [hV]
  have HBW : Hid (w.heap.size ≤ b) := Lib.hid (Nat.le_of_eq hb)
  have HI : Hid (Lib.IsBuilder 187 5 b b [] V) := Lib.hid (Or.inl ⟨Nat.le_refl _, _, by rw [← hV]; exact alloc_new_at _ hb, World.ownsRow_nil _ _ _ _, by simp [Value.ownBlock]⟩)
  have HVW : Hid (Below w.heap.size w V) := Lib.hid (by rw [← hV]; exact balloc (Below.refl _ _) _)
  have HVS : Hid (b ≤ V.heap.size) := Lib.hid (by rw [← hb]; exact HVW.out.size)
  clear hV hb
  go_wp2_with fail
  refine (bbyte_any b b [] _ V HI.out (by decide) HVS.out).mono ?_
  rintro e w1 ⟨rfl, hb1, hB1⟩
  have H1 := Lib.hid hb1
  have HS1 : Hid (b ≤ w1.heap.size) := Lib.hid (Nat.le_trans HVS.out hB1.size)
  have HW1 : Hid (Below w.heap.size w w1) := Lib.hid (HVW.out.trans (hB1.mono HBW.out))
  clear hb1 hB1 t1 t2 t3
  go_wp2_with fail
  refine (bstr_any b b _ tag w1 (Or.inr H1.out) (by have := HT2.out; show 1 + tag.size ≤ _; omega) HS1.out).mono ?_
  rintro e w2 ⟨rfl, hb2, hB2⟩
  have H2 : Hid (BlAt b b (headL tag ++ partsL (parts.take 0)) w2) := Lib.hid (by
    show Lib.BuilderAt _ _ _ _ _ (Lib.byteCells _) _
    rw [List.take_zero, show partsL [] = [] from rfl, List.append_nil, headL_cells tag HT2.out]
    exact hb2)
  have HS2 : Hid (b ≤ w2.heap.size) := Lib.hid (Nat.le_trans HS1.out hB2.size)
  have HW2 : Hid (Below w.heap.size w w2) := Lib.hid (HW1.out.trans (hB2.mono HBW.out))
  clear hb2 hB2
  go_wp2
  go_loopg [25, 8] (len parts) (fun g i _ wr => ∃ m : Nat, g + m = len parts ∧ i = .int .i64 m ∧ Hid (BlAt b b (headL tag ++ partsL (parts.take m)) wr) ∧ Hid (b ≤ wr.heap.size) ∧ Hid (Below w.heap.size w wr))
  case atStart => exact ⟨0, rfl, rfl, H2, HS2, HW2⟩
  case round =>
    clear H2 HS2 HW2
    obtain ⟨m, hm, rfl, H2, HS2, HW2⟩ := hrel
    have HPB := HPL.out
    by_cases hlt : m < len parts
    · have i1 : (m : Int) < (len parts : Nat) := by omega
      obtain ⟨pb, po, rfl, hpc⟩ := (HP.out.below HW2.out) m hlt
      obtain ⟨x, hx⟩ : ∃ x, tth parts m = x := ⟨_, rfl⟩
      rw [hx] at hpc
      have HX := Lib.hid hx
      clear hx
      go_wp2_with fail
      refine (lay_part b b _ x wr H2.out (by
        have h1 := HS.out
        have h2 := partsL_le parts (m + 1)
        have h3 := HT2.out
        rw [partsL_snoc _ _ hlt, List.length_append, HX.out, partL_len] at h2
        rw [List.length_append, headL_len]
        omega) HS2.out).mono ?_
      rintro e w3 ⟨rfl, h3, hb3⟩
      have H3 : Hid (BlAt b b (headL tag ++ partsL (parts.take (m + 1))) w3) := Lib.hid (by rw [partsL_snoc _ _ hlt, HX.out, ← List.append_assoc]; exact h3)
      have HS3 : Hid (b ≤ w3.heap.size) := Lib.hid (Nat.le_trans HS2.out hb3.size)
      have HW3 : Hid (Below w.heap.size w w3) := Lib.hid (HW2.out.trans (hb3.mono HBW.out))
      clear h3 hb3 hpc
      go_wp2
      go_roundg (len parts - (m + 1))
      case rel => exact ⟨m + 1, by omega, by go_num, H3, HS3, HW3⟩
      case measure => omega
    · obtain rfl : m = len parts := by omega
      have i1 : ¬ ((len parts : Nat) : Int) < (len parts : Nat) := by omega
      have H4 : Hid (BlAt b b (framL tag parts) wr) := Lib.hid (by have h := H2.out; rw [take_len] at h; exact h)
      clear H2 hm hlt
      go_wp2_with fail
      refine (Tryz.Builder_String_any b b _ wr (Or.inr H4.out) HS2.out).mono ?_
      rintro e w4 ⟨rfl, hB4⟩
      have HW4 : Hid (Below w.heap.size w w4) := Lib.hid (HW2.out.trans (hB4.mono HBW.out))
      clear hB4
      go_wp2
      go_ret
      exact ⟨rfl, HW4.out⟩
set_option maxRecDepth 100000 in
set_option maxHeartbeats 4000000 in
theorem hash_any (tag : ByteArray) (parts : List ByteArray) (a : Option Addr) (cap : Nat) (w : World) (h1 : 1 ≤ tag.size) (h2 : tag.size ≤ 16) (hp : Txts w a parts) (hs : (partsL parts).length ≤ 140737488355300) :
    Calls Tryz.prog 53 #[.string tag, .slice a (len parts) cap] w fun e w' => e = .returned (.string (hashP tag parts)) ∧ Below w.heap.size w w' := by
  have HF := Lib.hid (frame_any tag parts a cap w h1 h2 hp hs)
  have HS : Hid (1 ≤ (frameS tag parts).size ∧ (frameS tag parts).size ≤ 140737488355328) := Lib.hid (by rw [frameS_size]; omega)
  clear h1 h2 hp hs
  go_enter Tryz.func53, Tryz.ntmps53
  go_wp2_with fail
  refine HF.out.mono ?_
  rintro e w1 ⟨rfl, hb1⟩
  have HB1 := Lib.hid hb1
  have t1 : (frameS tag parts).toList.isEmpty = false := fullT (by have := HS.out; omega)
  clear hb1
  go_wp2_with fail
  refine (sha_any (frameS tag parts) w1 (by have := HS.out; omega)).mono ?_
  rintro e w2 ⟨rfl, hb2⟩
  have HB2 : Hid (Below w.heap.size w w2) := Lib.hid (bnext HB1.out hb2)
  clear hb2
  go_wp2
  go_ret
  exact ⟨rfl, HB2.out⟩
end Go.Proofs.YtoafjbillcooiaaGreat
namespace Go.Proofs.YtoafjbillcooiaaGreat
open Go.RowKit
set_option linter.unusedSimpArgs false
set_option linter.unusedVariables false
def NodeAt (b : Nat) (d : ByteArray) (k0 k1 : Option Addr) (w : World) : Prop := w.heap[b]? = some (.cells #[.string d, .pointer k0, .pointer k1] 100 (0, 0))
theorem NodeAt.below {b : Nat} {d : ByteArray} {k0 k1 : Option Addr} {w w' : World} (h : NodeAt b d k0 k1 w) (hb : Below w.heap.size w w') : NodeAt b d k0 k1 w' := (hb.block _ (lt_of_block h)).trans h
theorem NodeAt.digest {b : Nat} {d : ByteArray} {k0 k1 : Option Addr} {w : World} (h : NodeAt b d k0 k1 w) : w.cell? ⟨b, 0, none⟩ = some (.string d) := by rw [block_cell h]; rfl
def LeafIs (d : ByteArray) (w : World) (e : Ending) (w' : World) : Prop := ∃ b, e = .returned (.pointer (some ⟨b, 0, none⟩)) ∧ w.heap.size ≤ b ∧ NodeAt b d none none w' ∧ Below w.heap.size w w'
theorem txts_cells {w : World} {g : Nat} {cs : Array Value} {t : TypeId} {fr : Nat × Nat} (h : w.heap[g]? = some (.cells cs t fr)) (l : List ByteArray) (hl : ∀ i, i < len l → cs[i]? = some (.string (tth l i))) : Txts w (some ⟨g, 0, none⟩) l := fun i hi => ⟨g, 0, rfl, by rw [block_cell h, Nat.zero_add]; exact hl i hi⟩
set_option maxRecDepth 100000 in
set_option maxHeartbeats 4000000 in
theorem leaf_node (s : ByteArray) (w : World) (hs : s.size ≤ 140737488355200) : Calls Tryz.prog 57 #[.string s] w (LeafIs (hashP leafT [s]) w) := by
  have HS := Lib.hid hs
  clear hs
  go_enter Tryz.func57, Tryz.ntmps57
  go_wp2_with fail
  have hw1 : Txts (w.alloc (.cells #[.string s] 9)) (some ⟨w.heap.size, 0, none⟩) [s] := txts_cells (heap_alloc_new _ _) [s] (fun i hi => by
    have : i = 0 := by have : i < 1 := hi; omega
    subst this; rfl)
  refine (hash_any leafT [s] (some ⟨w.heap.size, 0, none⟩) 1 _ (by decide) (by decide) hw1 (by have := HS.out; show ((partL s) ++ []).length ≤ _; rw [List.append_nil, partL_len]; omega)).mono ?_
  rintro e w2 ⟨rfl, hb2⟩
  have HB2 : Hid (Below w.heap.size w w2) := Lib.hid (bnext (balloc (Below.refl _ _) _) hb2)
  clear hb2 hw1
  obtain ⟨H, hH⟩ : ∃ H, hashP leafT [s] = H := ⟨_, rfl⟩
  rw [hH]
  go_wp2
  go_ret
  exact ⟨w2.heap.size, rfl, HB2.out.size, by rw [hH]; exact heap_alloc_new _ _, balloc HB2.out _⟩
def OverIs (d : ByteArray) (b0 b1 : Nat) (w : World) (e : Ending) (w' : World) : Prop := ∃ b, e = .returned (.pointer (some ⟨b, 0, none⟩)) ∧ w.heap.size ≤ b ∧ NodeAt b d (some ⟨b0, 0, none⟩) (some ⟨b1, 0, none⟩) w' ∧ Below w.heap.size w w'
set_option maxRecDepth 100000 in
set_option maxHeartbeats 4000000 in
theorem over_any (b0 b1 : Nat) (d0 d1 : ByteArray) (w : World) (h0 : w.cell? ⟨b0, 0, none⟩ = some (.string d0)) (h1 : w.cell? ⟨b1, 0, none⟩ = some (.string d1)) (hs : d0.size ≤ 70000000000000 ∧ d1.size ≤ 70000000000000) :
    Calls Tryz.prog 55 #[.pointer (some ⟨b0, 0, none⟩), .pointer (some ⟨b1, 0, none⟩)] w (OverIs (hashP nodeT [d0, d1]) b0 b1 w) := by
  obtain ⟨H, hH⟩ : ∃ H, hashP nodeT [d0, d1] = H := ⟨_, rfl⟩
  rw [hH]
  have HH : Hid (∀ (g : Nat) (wv : World), wv.heap[g]? = some (.cells #[.string d0, .string d1] 9 (0, 0)) → Calls Tryz.prog 53 #[.string ⟨#[110, 111, 100, 101]⟩, .slice (some ⟨g, 0, none⟩) 2 2] wv fun e w' => e = .returned (.string H) ∧ Below wv.heap.size wv w') := Lib.hid (fun g wv hg => by
    rw [← hH]
    refine hash_any nodeT [d0, d1] (some ⟨g, 0, none⟩) 2 wv (by decide) (by decide) (txts_cells hg [d0, d1] (fun i hi => by
      have : i = 0 ∨ i = 1 := by have : i < 2 := hi; omega
      rcases this with rfl | rfl <;> rfl)) ?_
    show ((partL d0) ++ ((partL d1) ++ [])).length ≤ _
    rw [List.append_nil, List.length_append, partL_len, partL_len]
    omega)
  have c0 := h0
  have c1 := h1
  clear hH h0 h1 hs
  go_enter Tryz.func55, Tryz.ntmps55
  go_upto_region 1 with fail
  refine wp_region_tail 15 1000 (none) (phis [fun u _ => u = (.pointer (some ⟨b0, 0, none⟩)), fun u _ => u = (.pointer (some ⟨b0, 0, none⟩)), fun u _ => u = (.pointer (some ⟨b0, 0, none⟩)), fun u _ => u = (.string d0), fun u _ => u = (.pointer (some ⟨b1, 0, none⟩)), fun u _ => u = (.pointer (some ⟨b1, 0, none⟩)), fun u _ => u = (.pointer (some ⟨b1, 0, none⟩)), fun u _ => u = (.string d1), fun u w' => ∃ g, u = .slice (some ⟨g, 0, none⟩) 2 2 ∧ w'.heap[g]? = some (.cells #[.string d0, .string d1] 9 (0, 0)), fun u _ => u = (.string H), fun u _ => u = (.pointer (some ⟨b0, 0, none⟩)), fun u _ => u = (.pointer (some ⟨b1, 0, none⟩)), fun u _ => u = (.agg #[.pointer (some ⟨b0, 0, none⟩), .pointer (some ⟨b1, 0, none⟩)]), fun u _ => u = (.agg #[.string H, .pointer (some ⟨b0, 0, none⟩), .pointer (some ⟨b1, 0, none⟩)]), fun u w' => ∃ g, u = .pointer (some ⟨g, 0, none⟩) ∧ w.heap.size ≤ g ∧ NodeAt g H (some ⟨b0, 0, none⟩) (some ⟨b1, 0, none⟩) w']) rfl (by kernel_rfl) (by kernel_rfl) (mono_of ⟨mono_eq, mono_eq, mono_eq, mono_eq, mono_eq, mono_eq, mono_eq, mono_eq, ?m8, mono_eq, mono_eq, mono_eq, mono_eq, mono_eq, ?m14, trivial⟩) (steps_of 15 ⟨?s0, ?s1, ?s2, ?s3, ?s4, ?s5, ?s6, ?s7, ?s8, ?s9, ?s10, ?s11, ?s12, ?s13, ?s14, trivial⟩) ?_
  case m8 =>
    exact ⟨fun u w1 w' h ⟨b, h1, hb⟩ => ⟨b, h1, ext_block h hb⟩, fun _ u w1 w' h ⟨b, h1, hb⟩ => ⟨b, h1, extB_block h (by simp) hb⟩⟩
  case m14 =>
    exact ⟨fun u w1 w' h ⟨b, h1, h2, hb⟩ => ⟨b, h1, h2, ext_block h hb⟩, fun _ u w1 w' h ⟨b, h1, h2, hb⟩ => ⟨b, h1, h2, extB_block h (by simp) hb⟩⟩
  case s0 =>
    refine qV (fun _ => rfl) rfl fun av wv hE hO hD => ?_
    simp [go_sem, qF av 0 (.pointer (some ⟨b0, 0, none⟩)) (hO.2.2 0 rfl)]
  case s1 =>
    refine qV (fun _ => rfl) rfl fun av wv hE hO hD => ?_
    simp [go_sem, qE (hD.1 rfl _ rfl)]
  case s2 =>
    refine qV (fun _ => rfl) rfl fun av wv hE hO hD => ?_
    simp [go_sem, qE (hD.1 rfl _ rfl)]
  case s3 =>
    refine qV (fun _ => rfl) rfl fun av wv hE hO hD => ?_
    simp [go_sem, qE (hD.1 rfl _ rfl), extB_cell hE (by simp) c0, extB_cell hE (by simp) c1]
  case s4 =>
    refine qV (fun _ => rfl) rfl fun av wv hE hO hD => ?_
    simp [go_sem, qF av 1 (.pointer (some ⟨b1, 0, none⟩)) (hO.2.2 1 rfl)]
  case s5 =>
    refine qV (fun _ => rfl) rfl fun av wv hE hO hD => ?_
    simp [go_sem, qE (hD.1 rfl _ rfl)]
  case s6 =>
    refine qV (fun _ => rfl) rfl fun av wv hE hO hD => ?_
    simp [go_sem, qE (hD.1 rfl _ rfl)]
  case s7 =>
    refine qV (fun _ => rfl) rfl fun av wv hE hO hD => ?_
    simp [go_sem, qE (hD.1 rfl _ rfl), extB_cell hE (by simp) c0, extB_cell hE (by simp) c1]
  case s8 =>
    refine step_wp (fun av wv hE hS hO hD => ⟨rfl, ?_⟩)
    have f8 := qE (hD.1 rfl _ rfl)
    have f12 := qE (hD.2.1 rfl _ rfl)
    refine wp_of_run (v := .slice (some ⟨wv.heap.size, 0, none⟩) 2 2) (w' := wv.alloc (.cells #[.string d0, .string d1] 9)) (by simp [go_sem, f8, f12]) ⟨_, rfl, es_of_ext (balloc (Ext_refl _) _), wv.heap.size, rfl, heap_alloc_new _ _⟩
  case s9 =>
    refine step_wp (fun av wv hE hS hO hD => ⟨rfl, ?_⟩)
    have d13 : (fun u w' => ∃ g, u = .slice (some ⟨g, 0, none⟩) 2 2 ∧ w'.heap[g]? = some (.cells #[.string d0, .string d1] 9 (0, 0))) (av.eval (.tmp 13)) wv := hD.1 rfl _ rfl
    obtain ⟨g, h13, hg⟩ := d13
    have f13 := (ev_form av 13).symm.trans h13
    refine wp_of_call (v := .string H) (by simp [go_sem, f13]) (HH.out g wv hg) (fun w2 hb => ⟨_, rfl, es_of_ext hb, rfl⟩)
  case s10 =>
    refine qV (fun _ => rfl) rfl fun av wv hE hO hD => ?_
    simp [go_sem, qF av 0 (.pointer (some ⟨b0, 0, none⟩)) (hO.2.2 0 rfl)]
  case s11 =>
    refine qV (fun _ => rfl) rfl fun av wv hE hO hD => ?_
    simp [go_sem, qF av 1 (.pointer (some ⟨b1, 0, none⟩)) (hO.2.2 1 rfl)]
  case s12 =>
    refine qV (fun _ => rfl) rfl fun av wv hE hO hD => ?_
    simp [go_sem, qE (hD.1 rfl _ rfl), qE (hD.2.1 rfl _ rfl)]
  case s13 =>
    refine qV (fun _ => rfl) rfl fun av wv hE hO hD => ?_
    simp [go_sem, qE (hD.1 rfl _ rfl), qE (hD.2.1 rfl _ rfl)]
  case s14 =>
    refine step_wp (fun av wv hE hS hO hD => ⟨rfl, ?_⟩)
    have f18 := qE (hD.1 rfl _ rfl)
    refine wp_of_run (v := .pointer (some ⟨wv.heap.size, 0, none⟩)) (w' := wv.alloc (.cells #[.string H, .pointer (some ⟨b0, 0, none⟩), .pointer (some ⟨b1, 0, none⟩)] 100)) (by simp [go_sem, f18]) ⟨_, rfl, es_of_ext (balloc (Ext_refl _) _), wv.heap.size, rfl, (by have := hE.size; simp at this; omega), heap_alloc_new _ _⟩
  intro a' w' hE hO hall
  have hA := act_of_outer (ds := [5, 6, 7, 8, 9, 10, 11, 12, 13, 14, 15, 16, 17, 18, 19]) rfl hO (by kernel_rfl)
  obtain ⟨j0, j1, j2, j3, j4, j5, j6, j7, j8, j9, j10, j11, j12, j13, j14, -⟩ := hall
  have e13 : (fun u w' => ∃ g, u = .slice (some ⟨g, 0, none⟩) 2 2 ∧ w'.heap[g]? = some (.cells #[.string d0, .string d1] 9 (0, 0))) (a'.eval (.tmp 13)) w' := j8 _ rfl
  have e19 : (fun u w' => ∃ g, u = .pointer (some ⟨g, 0, none⟩) ∧ w.heap.size ≤ g ∧ NodeAt g H (some ⟨b0, 0, none⟩) (some ⟨b1, 0, none⟩) w') (a'.eval (.tmp 19)) w' := j14 _ rfl
  obtain ⟨v13, hv13⟩ : ∃ v, a'.eval (.tmp 13) = v := ⟨_, rfl⟩
  rw [hv13] at e13
  obtain ⟨v19, hv19⟩ : ∃ v, a'.eval (.tmp 19) = v := ⟨_, rfl⟩
  rw [hv19] at e19
  simp only [List.foldl_cons, List.foldl_nil, Act.put, List.setIfInBounds_toArray, List.set_cons_succ, List.set_cons_zero, qJ 5 (j0 _ rfl), qJ 6 (j1 _ rfl), qJ 7 (j2 _ rfl), qJ 8 (j3 _ rfl), qJ 9 (j4 _ rfl), qJ 10 (j5 _ rfl), qJ 11 (j6 _ rfl), qJ 12 (j7 _ rfl), hv13, qJ 14 (j9 _ rfl), qJ 15 (j10 _ rfl), qJ 16 (j11 _ rfl), qJ 17 (j12 _ rfl), qJ 18 (j13 _ rfl), hv19] at hA
  clear hO j8 j14 j0 j1 j2 j3 j4 j5 j6 j7 hv13 j9 j10 j11 j12 j13 hv19
  subst hA
  obtain ⟨g, rfl, hg, hn⟩ := e19
  have HN := Lib.hid hn
  have HG := Lib.hid hg
  have HW : Hid (Below w.heap.size w w') := Lib.hid (of_drew hE)
  clear hn hg hE
  go_wp2
  go_ret
  exact ⟨g, rfl, HG.out, HN.out, HW.out⟩
end Go.Proofs.YtoafjbillcooiaaGreat
namespace Go.Proofs.YtoafjbillcooiaaGreat
open Go.RowKit
set_option linter.unusedSimpArgs false
set_option linter.unusedVariables false
def PlaceIs (els : List ByteArray) (d : Nat) : Nat → Nat → Nat → World → Prop
  | 0, k, b, w => NodeAt b (plD els d 0 k) none none w
  | l + 1, k, b, w => ∃ b0 b1, NodeAt b (plD els d (l + 1) k) (some ⟨b0, 0, none⟩) (some ⟨b1, 0, none⟩) w ∧ PlaceIs els d l (2 * k) b0 w ∧ PlaceIs els d l (2 * k + 1) b1 w
theorem PlaceIs.below {els : List ByteArray} {d : Nat} : ∀ {l k b : Nat} {w w' : World}, PlaceIs els d l k b w → Below w.heap.size w w' → PlaceIs els d l k b w'
  | 0, _, _, _, _, h, hb => NodeAt.below h hb
  | l + 1, _, _, _, _, ⟨b0, b1, h, h0, h1⟩, hb => ⟨b0, b1, h.below hb, h0.below hb, h1.below hb⟩
theorem PlaceIs.digest {els : List ByteArray} {d : Nat} : ∀ {l k b : Nat} {w : World}, PlaceIs els d l k b w → w.cell? ⟨b, 0, none⟩ = some (.string (plD els d l k))
  | 0, _, _, _, h => NodeAt.digest h
  | l + 1, _, _, _, ⟨b0, b1, h, _, _⟩ => h.digest
theorem PlaceIs.ext {els : List ByteArray} {d l k b : Nat} {w w' : World} (h : PlaceIs els d l k b w) (hb : Ext w w') : PlaceIs els d l k b w' := h.below hb
theorem PlaceIs.extB {els : List ByteArray} {d l k b : Nat} {w w' : World} (h : PlaceIs els d l k b w) (hb : ExtB none w w') : PlaceIs els d l k b w' := h.below (extB_none hb)
structure EnvT (els : List ByteArray) (d bF bD bE bN nb : Nat) (a : Option Addr) (cap : Nat) (w : World) : Prop where
  f : w.heap[bF]? = some (.cells #[.func (.func 54) #[] #[.pointer (some ⟨bF, 0, none⟩), .pointer (some ⟨bD, 0, none⟩), .pointer (some ⟨bE, 0, none⟩), .pointer (some ⟨bN, 0, none⟩)]] 101 (0, 0))
  d : w.heap[bD]? = some (.cells #[.int .i64 (d : Nat)] 3 (0, 0))
  e : w.heap[bE]? = some (.cells #[.slice a (len els) cap] 22 (0, 0))
  n : w.heap[bN]? = some (.cells #[.pointer (some ⟨nb, 0, none⟩)] 96 (0, 0))
  nb : NodeAt nb (hashP noneT []) none none w
  t : Txts w a els
theorem EnvT.below {els : List ByteArray} {d bF bD bE bN nb : Nat} {a : Option Addr} {cap : Nat} {w w' : World} (h : EnvT els d bF bD bE bN nb a cap w) (hb : Below w.heap.size w w') : EnvT els d bF bD bE bN nb a cap w' :=
  ⟨(hb.block _ (lt_of_block h.f)).trans h.f, (hb.block _ (lt_of_block h.d)).trans h.d, (hb.block _ (lt_of_block h.e)).trans h.e, (hb.block _ (lt_of_block h.n)).trans h.n, h.nb.below hb, h.t.below hb⟩
def AtIs (els : List ByteArray) (d l k : Nat) (w : World) (e : Ending) (w' : World) : Prop := ∃ g, e = .returned (.pointer (some ⟨g, 0, none⟩)) ∧ PlaceIs els d l k g w' ∧ Below w.heap.size w w'
theorem turned_rev {k d : Nat} (hd : d ≤ 16) (hk : k < 2 ^ d) : turnedZ (k : Nat) (d : Nat) = ((revOf k d : Nat) : Int) := by
  unfold turnedZ
  rw [if_pos]
  · simp
  · refine ⟨by omega, by omega, ?_⟩
    rw [Int.toNat_natCast, pow_cast]
    exact_mod_cast hk
theorem pow_le16 {d : Nat} (hd : d ≤ 16) : 2 ^ d ≤ 65536 := Nat.pow_le_pow_right (by decide) hd
set_option maxRecDepth 100000 in
set_option maxHeartbeats 4000000 in
theorem at_zero (els : List ByteArray) (d bF bD bE bN nb : Nat) (a : Option Addr) (cap k : Nat) (w : World) (hd : d ≤ 16) (hk : k < 2 ^ d) (hn : len els ≤ 65536) (hz : ∀ i, i < len els → (tth els i).size ≤ 140737488355200) (h : EnvT els d bF bD bE bN nb a cap w) :
    Calls Tryz.prog 54 #[.int .i64 0, .int .u64 k, .pointer (some ⟨bF, 0, none⟩), .pointer (some ⟨bD, 0, none⟩), .pointer (some ⟨bE, 0, none⟩), .pointer (some ⟨bN, 0, none⟩)] w (AtIs els d 0 k w) := by
  have H := Lib.hid h
  have HK : Hid (k < 65536) := Lib.hid (Nat.lt_of_lt_of_le hk (pow_le16 hd))
  have HN := Lib.hid hn
  have HZ := Lib.hid hz
  have HEL := Lib.hid (element_any (k : Nat) (d : Nat) w (by omega) (by have := HK.out; omega))
  rw [turned_rev hd hk] at HEL
  have cd : w.cell? ⟨bD, 0, none⟩ = some (.int .i64 (d : Nat)) := by rw [block_cell h.d]; rfl
  have ce : w.cell? ⟨bE, 0, none⟩ = some (.slice a (len els) cap) := by rw [block_cell h.e]; rfl
  have cn : w.cell? ⟨bN, 0, none⟩ = some (.pointer (some ⟨nb, 0, none⟩)) := by rw [block_cell h.n]; rfl
  have HPL : Hid (plD els d 0 k = if revOf k d < len els then hashP leafT [tth els (revOf k d)] else hashP noneT []) := Lib.hid rfl
  have HRL : Hid (revOf k d < 65536) := Lib.hid (Nat.lt_of_lt_of_le (revOf_lt k d) (pow_le16 hd))
  obtain ⟨i, hi⟩ : ∃ i, revOf k d = i := ⟨_, rfl⟩
  rw [hi] at HEL HPL HRL
  clear h hi hd hk hn hz
  go_enter Tryz.func54, Tryz.ntmps54
  go_wp2_with fail
  refine HEL.out.mono ?_
  rintro e w1 ⟨rfl, rfl⟩
  have HNB := HN.out
  have hil := HRL.out
  by_cases hlt : i < len els
  · have i1 : (i : Int) < (len els : Nat) := by omega
    have i2 : IntKind.u64.wrap ((len els : Nat) : Int) = ((len els : Nat) : Int) := IntWalk.u64_in _ (by omega)
    obtain ⟨pb, po, rfl, hpc⟩ := H.out.t i hlt
    obtain ⟨x, hx⟩ : ∃ x, tth els i = x := ⟨_, rfl⟩
    rw [hx] at hpc
    have HX := Lib.hid hx
    clear hx
    go_wp2_with fail
    refine (leaf_node x w (by rw [← HX.out]; exact HZ.out i hlt)).mono ?_
    rintro e w2 ⟨g, rfl, hg, hn2, hb2⟩
    have HE2 : Hid (PlaceIs els d 0 k g w2) := Lib.hid (by
      show NodeAt g (plD els d 0 k) none none w2
      rw [HPL.out, if_pos hlt, HX.out]; exact hn2)
    have HB2 := Lib.hid hb2
    clear hg hn2 hb2 hpc
    go_wp2
    go_ret
    exact ⟨g, rfl, HE2.out, HB2.out⟩
  · have i1 : ¬ (i : Int) < (len els : Nat) := by omega
    have i2 : IntKind.u64.wrap ((len els : Nat) : Int) = ((len els : Nat) : Int) := IntWalk.u64_in _ (by omega)
    have HE2 : Hid (PlaceIs els d 0 k nb w) := Lib.hid (by
      show NodeAt nb (plD els d 0 k) none none w
      rw [HPL.out, if_neg hlt]; exact H.out.nb)
    clear hlt
    go_wp2
    go_ret
    exact ⟨nb, rfl, HE2.out, Below.refl _ _⟩
set_option maxRecDepth 100000 in
set_option maxHeartbeats 4000000 in
theorem at_step (els : List ByteArray) (d bF bD bE bN nb : Nat) (a : Option Addr) (cap l k : Nat) (w : World) (hd : l + 1 ≤ 16) (hk : k < 65536) (h : EnvT els d bF bD bE bN nb a cap w)
    (hr : ∀ (k' : Nat) (wv : World), Below w.heap.size w wv → (k' = 2 * k ∨ k' = 2 * k + 1) → Calls Tryz.prog 54 #[.int .i64 (l : Nat), .int .u64 ((k' : Nat) : Int), .pointer (some ⟨bF, 0, none⟩), .pointer (some ⟨bD, 0, none⟩), .pointer (some ⟨bE, 0, none⟩), .pointer (some ⟨bN, 0, none⟩)] wv (AtIs els d l k' wv)) :
    Calls Tryz.prog 54 #[.int .i64 ((l + 1 : Nat) : Int), .int .u64 k, .pointer (some ⟨bF, 0, none⟩), .pointer (some ⟨bD, 0, none⟩), .pointer (some ⟨bE, 0, none⟩), .pointer (some ⟨bN, 0, none⟩)] w (AtIs els d (l + 1) k w) := by
  have HR := Lib.hid hr
  have K1 : 2 * k = 2 * k ∨ 2 * k = 2 * k + 1 := Or.inl rfl
  have K2 : 2 * k + 1 = 2 * k ∨ 2 * k + 1 = 2 * k + 1 := Or.inr rfl
  have cf : w.cell? ⟨bF, 0, none⟩ = some (.func (.func 54) #[] #[.pointer (some ⟨bF, 0, none⟩), .pointer (some ⟨bD, 0, none⟩), .pointer (some ⟨bE, 0, none⟩), .pointer (some ⟨bN, 0, none⟩)]) := by rw [block_cell h.f]; rfl
  have l1 : (0 : Int) < ((l + 1 : Nat) : Int) := by omega
  have s1 : IntKind.i64.wrap (l : Int) = (l : Int) := IntWalk.i64_in _ (by omega)
  have m1 : IntKind.u64.wrap (2 * (k : Int)) = 2 * (k : Int) := IntWalk.u64_in _ (by omega)
  have m2 : IntKind.u64.wrap (2 * (k : Int) + 1) = 2 * (k : Int) + 1 := IntWalk.u64_in _ (by omega)
  clear hr h
  go_enter Tryz.func54, Tryz.ntmps54
  go_upto_region 2 with fail
  refine wp_region_tail 14 1000 (none) (phis [fun u _ => u = (.func (.func 54) #[] #[.pointer (some ⟨bF, 0, none⟩), .pointer (some ⟨bD, 0, none⟩), .pointer (some ⟨bE, 0, none⟩), .pointer (some ⟨bN, 0, none⟩)]), fun u _ => u = (.int .i64 ((l + 1 : Nat) : Int)), fun u _ => u = (.int .i64 (l : Nat)), fun u _ => u = (.int .u64 k), fun u _ => u = (.int .u64 ((2 * k : Nat) : Int)), fun u w' => ∃ g, u = .pointer (some ⟨g, 0, none⟩) ∧ PlaceIs els d l (2 * k) g w', fun u _ => u = (.func (.func 54) #[] #[.pointer (some ⟨bF, 0, none⟩), .pointer (some ⟨bD, 0, none⟩), .pointer (some ⟨bE, 0, none⟩), .pointer (some ⟨bN, 0, none⟩)]), fun u _ => u = (.int .i64 ((l + 1 : Nat) : Int)), fun u _ => u = (.int .i64 (l : Nat)), fun u _ => u = (.int .u64 k), fun u _ => u = (.int .u64 ((2 * k : Nat) : Int)), fun u _ => u = (.int .u64 ((2 * k + 1 : Nat) : Int)), fun u w' => ∃ g, u = .pointer (some ⟨g, 0, none⟩) ∧ PlaceIs els d l (2 * k + 1) g w', fun u w' => ∃ g, u = .pointer (some ⟨g, 0, none⟩) ∧ PlaceIs els d (l + 1) k g w']) rfl (by kernel_rfl) (by kernel_rfl) (mono_of ⟨mono_eq, mono_eq, mono_eq, mono_eq, mono_eq, ?m5, mono_eq, mono_eq, mono_eq, mono_eq, mono_eq, mono_eq, ?m12, ?m13, trivial⟩) (steps_of 14 ⟨?s0, ?s1, ?s2, ?s3, ?s4, ?s5, ?s6, ?s7, ?s8, ?s9, ?s10, ?s11, ?s12, ?s13, trivial⟩) ?_
  case m5 =>
    exact ⟨fun u w1 w' h ⟨b, h1, hb⟩ => ⟨b, h1, hb.ext h⟩, fun _ u w1 w' h ⟨b, h1, hb⟩ => ⟨b, h1, hb.extB h⟩⟩
  case m12 =>
    exact ⟨fun u w1 w' h ⟨b, h1, hb⟩ => ⟨b, h1, hb.ext h⟩, fun _ u w1 w' h ⟨b, h1, hb⟩ => ⟨b, h1, hb.extB h⟩⟩
  case m13 =>
    exact ⟨fun u w1 w' h ⟨b, h1, hb⟩ => ⟨b, h1, hb.ext h⟩, fun _ u w1 w' h ⟨b, h1, hb⟩ => ⟨b, h1, hb.extB h⟩⟩
  case s0 =>
    refine qV (fun _ => rfl) rfl fun av wv hE hO hD => ?_
    simp [go_sem, qF av 2 (.pointer (some ⟨bF, 0, none⟩)) (hO.2.2 2 rfl), extB_cell hE (by simp) cf, s1, m1, m2]
  case s1 =>
    refine qV (fun _ => rfl) rfl fun av wv hE hO hD => ?_
    simp [go_sem, qF av 0 (.int .i64 ((l + 1 : Nat) : Int)) (hO.2.2 0 rfl), s1, m1, m2]
  case s2 =>
    refine qV (fun _ => rfl) rfl fun av wv hE hO hD => ?_
    simp [go_sem, qE (hD.1 rfl _ rfl), s1, m1, m2]
  case s3 =>
    refine qV (fun _ => rfl) rfl fun av wv hE hO hD => ?_
    simp [go_sem, qF av 1 (.int .u64 k) (hO.2.2 1 rfl), s1, m1, m2]
  case s4 =>
    refine qV (fun _ => rfl) rfl fun av wv hE hO hD => ?_
    simp [go_sem, qE (hD.1 rfl _ rfl), s1, m1, m2]
  case s5 =>
    refine step_wp (fun av wv hE hS hO hD => ⟨rfl, ?_⟩)
    have f12 := qE (hD.1 rfl _ rfl)
    have f14 := qE (hD.2.1 rfl _ rfl)
    have f16 := qE (hD.2.2.1 rfl _ rfl)
    refine wp_of_callV (R := fun u w2 => (∃ g, u = .pointer (some ⟨g, 0, none⟩) ∧ PlaceIs els d l (2 * k) g w2) ∧ Below wv.heap.size wv w2) (f := 54) (args := #[.int .i64 (l : Nat), .int .u64 ((2 * k : Nat) : Int), .pointer (some ⟨bF, 0, none⟩), .pointer (some ⟨bD, 0, none⟩), .pointer (some ⟨bE, 0, none⟩), .pointer (some ⟨bN, 0, none⟩)]) (by simp [go_sem, f12, f14, f16]) ((HR.out (2 * k) wv (of_drew hE) K1).mono (fun e w2 ⟨g, h1, h2, h3⟩ => ⟨_, h1, ⟨g, rfl, h2⟩, h3⟩)) (fun u w2 ⟨h1, h2⟩ => ⟨_, rfl, es_of_ext h2, h1⟩)
  case s6 =>
    refine qV (fun _ => rfl) rfl fun av wv hE hO hD => ?_
    simp [go_sem, qF av 2 (.pointer (some ⟨bF, 0, none⟩)) (hO.2.2 2 rfl), extB_cell hE (by simp) cf, s1, m1, m2]
  case s7 =>
    refine qV (fun _ => rfl) rfl fun av wv hE hO hD => ?_
    simp [go_sem, qF av 0 (.int .i64 ((l + 1 : Nat) : Int)) (hO.2.2 0 rfl), s1, m1, m2]
  case s8 =>
    refine qV (fun _ => rfl) rfl fun av wv hE hO hD => ?_
    simp [go_sem, qE (hD.1 rfl _ rfl), s1, m1, m2]
  case s9 =>
    refine qV (fun _ => rfl) rfl fun av wv hE hO hD => ?_
    simp [go_sem, qF av 1 (.int .u64 k) (hO.2.2 1 rfl), s1, m1, m2]
  case s10 =>
    refine qV (fun _ => rfl) rfl fun av wv hE hO hD => ?_
    simp [go_sem, qE (hD.1 rfl _ rfl), s1, m1, m2]
  case s11 =>
    refine qV (fun _ => rfl) rfl fun av wv hE hO hD => ?_
    simp [go_sem, qE (hD.1 rfl _ rfl), s1, m1, m2]
  case s12 =>
    refine step_wp (fun av wv hE hS hO hD => ⟨rfl, ?_⟩)
    have f18 := qE (hD.1 rfl _ rfl)
    have f20 := qE (hD.2.1 rfl _ rfl)
    have f23 := qE (hD.2.2.1 rfl _ rfl)
    refine wp_of_callV (R := fun u w2 => (∃ g, u = .pointer (some ⟨g, 0, none⟩) ∧ PlaceIs els d l (2 * k + 1) g w2) ∧ Below wv.heap.size wv w2) (f := 54) (args := #[.int .i64 (l : Nat), .int .u64 ((2 * k + 1 : Nat) : Int), .pointer (some ⟨bF, 0, none⟩), .pointer (some ⟨bD, 0, none⟩), .pointer (some ⟨bE, 0, none⟩), .pointer (some ⟨bN, 0, none⟩)]) (by simp [go_sem, f18, f20, f23]) ((HR.out (2 * k + 1) wv (of_drew hE) K2).mono (fun e w2 ⟨g, h1, h2, h3⟩ => ⟨_, h1, ⟨g, rfl, h2⟩, h3⟩)) (fun u w2 ⟨h1, h2⟩ => ⟨_, rfl, es_of_ext h2, h1⟩)
  case s13 =>
    refine step_wp (fun av wv hE hS hO hD => ⟨rfl, ?_⟩)
    have d17 : (fun u w' => ∃ g, u = .pointer (some ⟨g, 0, none⟩) ∧ PlaceIs els d l (2 * k) g w') (av.eval (.tmp 17)) wv := hD.1 rfl _ rfl
    have d24 : (fun u w' => ∃ g, u = .pointer (some ⟨g, 0, none⟩) ∧ PlaceIs els d l (2 * k + 1) g w') (av.eval (.tmp 24)) wv := hD.2.1 rfl _ rfl
    obtain ⟨g0, h17, hg0⟩ := d17
    obtain ⟨g1, h24, hg1⟩ := d24
    have f17 := (ev_form av 17).symm.trans h17
    have f24 := (ev_form av 24).symm.trans h24
    refine wp_of_callV (R := fun u w2 => ∃ g, u = .pointer (some ⟨g, 0, none⟩) ∧ NodeAt g (plD els d (l + 1) k) (some ⟨g0, 0, none⟩) (some ⟨g1, 0, none⟩) w2 ∧ Below wv.heap.size wv w2) (f := 55) (args := #[.pointer (some ⟨g0, 0, none⟩), .pointer (some ⟨g1, 0, none⟩)]) (by simp [go_sem, f17, f24]) ((over_any g0 g1 (plD els d l (2 * k)) (plD els d l (2 * k + 1)) wv hg0.digest hg1.digest ⟨by rw [plD_size]; decide, by rw [plD_size]; decide⟩).mono (fun e w2 ⟨g, h1, _, h2, h3⟩ => ⟨_, h1, g, rfl, h2, h3⟩)) (fun u w2 ⟨g, h1, h2, h3⟩ => ⟨_, rfl, es_of_ext h3, g, h1, g0, g1, h2, hg0.below h3, hg1.below h3⟩)
  intro a' w' hE hO hall
  have hA := act_of_outer (ds := [12, 13, 14, 15, 16, 17, 18, 19, 20, 21, 22, 23, 24, 25]) rfl hO (by kernel_rfl)
  obtain ⟨j0, j1, j2, j3, j4, j5, j6, j7, j8, j9, j10, j11, j12, j13, -⟩ := hall
  have e17 : (fun u w' => ∃ g, u = .pointer (some ⟨g, 0, none⟩) ∧ PlaceIs els d l (2 * k) g w') (a'.eval (.tmp 17)) w' := j5 _ rfl
  have e24 : (fun u w' => ∃ g, u = .pointer (some ⟨g, 0, none⟩) ∧ PlaceIs els d l (2 * k + 1) g w') (a'.eval (.tmp 24)) w' := j12 _ rfl
  have e25 : (fun u w' => ∃ g, u = .pointer (some ⟨g, 0, none⟩) ∧ PlaceIs els d (l + 1) k g w') (a'.eval (.tmp 25)) w' := j13 _ rfl
  obtain ⟨v17, hv17⟩ : ∃ v, a'.eval (.tmp 17) = v := ⟨_, rfl⟩
  rw [hv17] at e17
  obtain ⟨v24, hv24⟩ : ∃ v, a'.eval (.tmp 24) = v := ⟨_, rfl⟩
  rw [hv24] at e24
  obtain ⟨v25, hv25⟩ : ∃ v, a'.eval (.tmp 25) = v := ⟨_, rfl⟩
  rw [hv25] at e25
  simp only [List.foldl_cons, List.foldl_nil, Act.put, List.setIfInBounds_toArray, List.set_cons_succ, List.set_cons_zero, qJ 12 (j0 _ rfl), qJ 13 (j1 _ rfl), qJ 14 (j2 _ rfl), qJ 15 (j3 _ rfl), qJ 16 (j4 _ rfl), hv17, qJ 18 (j6 _ rfl), qJ 19 (j7 _ rfl), qJ 20 (j8 _ rfl), qJ 21 (j9 _ rfl), qJ 22 (j10 _ rfl), qJ 23 (j11 _ rfl), hv24, hv25] at hA
  clear hO j5 j12 j13 j0 j1 j2 j3 j4 hv17 j6 j7 j8 j9 j10 j11 hv24 hv25
  subst hA
  obtain ⟨g, rfl, hg⟩ := e25
  have HG := Lib.hid hg
  have HW : Hid (Below w.heap.size w w') := Lib.hid (of_drew hE)
  clear hg hE e17 e24
  go_wp2
  go_ret
  exact ⟨g, rfl, HG.out, HW.out⟩
theorem at_any (els : List ByteArray) (d bF bD bE bN nb : Nat) (a : Option Addr) (cap : Nat) (hd : d ≤ 16) (hn : len els ≤ 65536) (hz : ∀ i, i < len els → (tth els i).size ≤ 140737488355200) :
    ∀ (l k : Nat) (w : World), l ≤ d → k < 2 ^ (d - l) → EnvT els d bF bD bE bN nb a cap w →
    Calls Tryz.prog 54 #[.int .i64 (l : Nat), .int .u64 k, .pointer (some ⟨bF, 0, none⟩), .pointer (some ⟨bD, 0, none⟩), .pointer (some ⟨bE, 0, none⟩), .pointer (some ⟨bN, 0, none⟩)] w (AtIs els d l k w)
  | 0, k, w, _, hk, h => at_zero els d bF bD bE bN nb a cap k w hd (by simpa using hk) hn hz h
  | l + 1, k, w, hl, hk, h => by
    have h2 : 2 ^ (d - (l + 1)) ≤ 65536 := Nat.le_trans (Nat.pow_le_pow_right (by decide) (show d - (l + 1) ≤ 16 by omega)) (by decide)
    refine at_step els d bF bD bE bN nb a cap l k w (by omega) (by omega) h fun k' wv hb hk' => ?_
    refine at_any els d bF bD bE bN nb a cap hd hn hz l k' wv (by omega) ?_ (h.below hb)
    have : 2 ^ (d - l) = 2 * 2 ^ (d - (l + 1)) := by rw [show d - l = (d - (l + 1)) + 1 by omega, Nat.pow_succ]; omega
    rcases hk' with rfl | rfl <;> omega
end Go.Proofs.YtoafjbillcooiaaGreat
namespace Go.Proofs.YtoafjbillcooiaaGreat
open Go.RowKit
set_option linter.unusedSimpArgs false
set_option linter.unusedVariables false
def depN (els : List ByteArray) : Nat := Lib.bitLen (len els - 1)
theorem depN_le {els : List ByteArray} (h : len els ≤ 65536) : depN els ≤ 16 := (depth_bd (len els) h).1
theorem depthZ_len {els : List ByteArray} (h : len els ≤ 65536) : depthZ (len els : Nat) = ((depN els : Nat) : Int) := by
  unfold depthZ depN
  rw [if_neg (by omega), Int.toNat_natCast]
def TreeAt (els : List ByteArray) (b : Nat) (w : World) : Prop := ∃ p, w.heap[b]? = some (.cells #[.pointer (some ⟨p, 0, none⟩), .int .i64 (depN els : Nat), .int .i64 (len els : Nat)] 106 (0, 0)) ∧ PlaceIs els (depN els) (depN els) 0 p w
theorem TreeAt.below {els : List ByteArray} {b : Nat} {w w' : World} (h : TreeAt els b w) (hb : Below w.heap.size w w') : TreeAt els b w' := by
  obtain ⟨p, h1, h2⟩ := h
  exact ⟨p, (hb.block _ (lt_of_block h1)).trans h1, h2.below hb⟩
def BuildIs (els : List ByteArray) (w : World) (e : Ending) (w' : World) : Prop := ∃ b, e = .returned (.tuple #[.pointer (some ⟨b, 0, none⟩), .int .i64 0]) ∧ w.heap.size ≤ b ∧ TreeAt els b w' ∧ Below w.heap.size w w'
set_option maxRecDepth 100000 in
set_option maxHeartbeats 4000000 in
theorem build_any (els : List ByteArray) (a : Option Addr) (cap : Nat) (w : World) (ht : Txts w a els) (hn : len els ≤ 65536) (hz : ∀ i, i < len els → (tth els i).size ≤ 140737488355200) :
    Calls Tryz.prog 18 #[.slice a (len els) cap] w (BuildIs els w) := by
  have HT := Lib.hid ht
  have HN := Lib.hid hn
  have HZ := Lib.hid hz
  obtain ⟨d, hd⟩ : ∃ d, depN els = d := ⟨_, rfl⟩
  have HDD := Lib.hid hd
  have HD16 : Hid (d ≤ 16) := Lib.hid (by rw [← hd]; exact depN_le hn)
  have HDZ : Hid (depthZ (len els : Nat) = ((d : Nat) : Int)) := Lib.hid (by rw [← hd]; exact depthZ_len hn)
  have n1 : ¬ (65536 : Int) < (len els : Nat) := by omega
  clear ht hz hd
  go_enter Tryz.func18, Tryz.ntmps18
  go_wp2_with fail
  refine (depth_any (len els : Nat) _ (by omega) (by omega)).mono ?_
  rintro e w1 ⟨rfl, rfl⟩
  rw [HDZ.out]
  clear n1 hn
  go_wp2_with fail
  obtain ⟨bE, hbE⟩ : ∃ bE, w.heap.size = bE := ⟨_, rfl⟩
  obtain ⟨bD, hbD⟩ : ∃ bD, w.heap.size + 1 = bD := ⟨_, rfl⟩
  rw [hbD, hbE]
  obtain ⟨V, hV⟩ : ∃ V, (w.alloc (.cells #[.slice a (len els) cap] 22)).alloc (.cells #[.int .i64 (d : Nat)] 3) = V := ⟨_, rfl⟩
  rw [hV]
  have HVE : Hid (V.heap[bE]? = some (.cells #[.slice a (len els) cap] 22 (0, 0))) := Lib.hid (by rw [← hV]; exact block_alloc (alloc_new_at _ hbE) _)
  have HVD : Hid (V.heap[bD]? = some (.cells #[.int .i64 (d : Nat)] 3 (0, 0))) := Lib.hid (by rw [← hV]; exact alloc_new_at _ (by rw [alloc_size _ rfl]; exact hbD))
  have HVW : Hid (Below w.heap.size w V) := Lib.hid (by rw [← hV]; exact balloc (balloc (Below.refl _ _) _) _)
  clear hV hbE hbD
  refine (hash_any noneT [] none 0 V (by decide) (by decide) (Txts.nil _ _) (by decide)).mono ?_
  rintro e w2 ⟨rfl, hb2⟩
  have H2E : Hid (w2.heap[bE]? = some (.cells #[.slice a (len els) cap] 22 (0, 0))) := Lib.hid ((hb2.block _ (lt_of_block HVE.out)).trans HVE.out)
  have H2D : Hid (w2.heap[bD]? = some (.cells #[.int .i64 (d : Nat)] 3 (0, 0))) := Lib.hid ((hb2.block _ (lt_of_block HVD.out)).trans HVD.out)
  have H2W : Hid (Below w.heap.size w w2) := Lib.hid (bnext HVW.out hb2)
  obtain ⟨Hn, hHn⟩ : ∃ Hn, hashP noneT [] = Hn := ⟨_, rfl⟩
  rw [hHn]
  have HHN := Lib.hid hHn
  clear hb2 hHn HVE HVD HVW
  go_upto_region 7 with fail
  obtain ⟨nb, hnb⟩ : ∃ nb, w2.heap.size = nb := ⟨_, rfl⟩
  obtain ⟨bN, hbN⟩ : ∃ bN, w2.heap.size + 1 = bN := ⟨_, rfl⟩
  obtain ⟨bF, hbF⟩ : ∃ bF, w2.heap.size + 1 + 1 = bF := ⟨_, rfl⟩
  rw [hbF, hbN, hnb]
  obtain ⟨U, hU⟩ : ∃ U, (((w2.alloc (.cells #[.string Hn, .pointer none, .pointer none] 100)).alloc (.cells #[.pointer (some ⟨nb, 0, none⟩)] 96)).alloc (.cells #[.func (.func 54) #[] #[.pointer (some ⟨bF, 0, none⟩), .pointer (some ⟨bD, 0, none⟩), .pointer (some ⟨bE, 0, none⟩), .pointer (some ⟨bN, 0, none⟩)]] 101)) = U := ⟨_, rfl⟩
  rw [hU]
  have HEN : Hid (EnvT els d bF bD bE bN nb a cap U) := Lib.hid (by
    have hbw : Below w.heap.size w U := by rw [← hU]; exact balloc (balloc (balloc H2W.out _) _) _
    refine ⟨?_, ?_, ?_, ?_, ?_, HT.out.below hbw⟩
    · rw [← hU]; exact alloc_new_at _ (by rw [alloc_size _ (alloc_size _ rfl)]; exact hbF)
    · rw [← hU]; exact block_alloc (block_alloc (block_alloc H2D.out _) _) _
    · rw [← hU]; exact block_alloc (block_alloc (block_alloc H2E.out _) _) _
    · rw [← hU]; exact block_alloc (alloc_new_at _ (by rw [alloc_size _ rfl]; exact hbN)) _
    · rw [← hU, HHN.out]; exact block_alloc (block_alloc (alloc_new_at _ hnb) _) _)
  have HUW : Hid (Below w.heap.size w U) := Lib.hid (by rw [← hU]; exact balloc (balloc (balloc H2W.out _) _) _)
  have HVS : Hid (w.heap.size ≤ U.heap.size) := Lib.hid HUW.out.size
  have HA : Hid (∀ wv : World, Below U.heap.size U wv → Calls Tryz.prog 54 #[.int .i64 (d : Nat), .int .u64 0, .pointer (some ⟨bF, 0, none⟩), .pointer (some ⟨bD, 0, none⟩), .pointer (some ⟨bE, 0, none⟩), .pointer (some ⟨bN, 0, none⟩)] wv (AtIs els d d 0 wv)) := Lib.hid (fun wv hb => at_any els d bF bD bE bN nb a cap HD16.out HN.out HZ.out d 0 wv (Nat.le_refl _) (Nat.two_pow_pos _) (HEN.out.below hb))
  have cf : U.cell? ⟨bF, 0, none⟩ = some (.func (.func 54) #[] #[.pointer (some ⟨bF, 0, none⟩), .pointer (some ⟨bD, 0, none⟩), .pointer (some ⟨bE, 0, none⟩), .pointer (some ⟨bN, 0, none⟩)]) := by rw [block_cell HEN.out.f]; rfl
  have cd : U.cell? ⟨bD, 0, none⟩ = some (.int .i64 (d : Nat)) := by rw [block_cell HEN.out.d]; rfl
  have ce : U.cell? ⟨bE, 0, none⟩ = some (.slice a (len els) cap) := by rw [block_cell HEN.out.e]; rfl
  clear hU hnb hbN hbF H2D H2E H2W
  refine wp_region_tail 8 1000 (none) (phis [fun u _ => u = (.func (.func 54) #[] #[.pointer (some ⟨bF, 0, none⟩), .pointer (some ⟨bD, 0, none⟩), .pointer (some ⟨bE, 0, none⟩), .pointer (some ⟨bN, 0, none⟩)]), fun u _ => u = (.int .i64 (d : Nat)), fun u w' => ∃ g, u = .pointer (some ⟨g, 0, none⟩) ∧ PlaceIs els d d 0 g w', fun u _ => u = (.int .i64 (d : Nat)), fun u _ => u = (.slice a (len els) cap), fun u _ => u = (.int .i64 (len els)), fun u w' => ∃ g, u = .agg #[.pointer (some ⟨g, 0, none⟩), .int .i64 (d : Nat), .int .i64 (len els)] ∧ PlaceIs els d d 0 g w', fun u w' => ∃ b, u = .pointer (some ⟨b, 0, none⟩) ∧ w.heap.size ≤ b ∧ TreeAt els b w']) rfl (by kernel_rfl) (by kernel_rfl) (mono_of ⟨mono_eq, mono_eq, ?m2, mono_eq, mono_eq, mono_eq, ?m6, ?m7, trivial⟩) (steps_of 8 ⟨?s0, ?s1, ?s2, ?s3, ?s4, ?s5, ?s6, ?s7, trivial⟩) ?_
  case m2 =>
    exact ⟨fun u w1 w' h ⟨b, h1, hb⟩ => ⟨b, h1, hb.ext h⟩, fun _ u w1 w' h ⟨b, h1, hb⟩ => ⟨b, h1, hb.extB h⟩⟩
  case m6 =>
    exact ⟨fun u w1 w' h ⟨b, h1, hb⟩ => ⟨b, h1, hb.ext h⟩, fun _ u w1 w' h ⟨b, h1, hb⟩ => ⟨b, h1, hb.extB h⟩⟩
  case m7 =>
    exact ⟨fun u w1 w' h ⟨b, h1, h2, hb⟩ => ⟨b, h1, h2, hb.below h⟩, fun _ u w1 w' h ⟨b, h1, h2, hb⟩ => ⟨b, h1, h2, hb.below (extB_none h)⟩⟩
  case s0 =>
    refine qV (fun _ => rfl) rfl fun av wv hE hO hD => ?_
    simp [go_sem, qF av 6 (.pointer (some ⟨bF, 0, none⟩)) (hO.2.2 6 rfl), extB_cell hE (by simp) cf, extB_cell hE (by simp) cd, extB_cell hE (by simp) ce]
  case s1 =>
    refine qV (fun _ => rfl) rfl fun av wv hE hO hD => ?_
    simp [go_sem, qF av 4 (.pointer (some ⟨bD, 0, none⟩)) (hO.2.2 4 rfl), extB_cell hE (by simp) cf, extB_cell hE (by simp) cd, extB_cell hE (by simp) ce]
  case s2 =>
    refine step_wp (fun av wv hE hS hO hD => ⟨rfl, ?_⟩)
    have f17 := qE (hD.1 rfl _ rfl)
    have f18 := qE (hD.2.1 rfl _ rfl)
    refine wp_of_callV (R := fun u w2 => (∃ g, u = .pointer (some ⟨g, 0, none⟩) ∧ PlaceIs els d d 0 g w2) ∧ Below wv.heap.size wv w2) (f := 54) (args := #[.int .i64 (d : Nat), .int .u64 0, .pointer (some ⟨bF, 0, none⟩), .pointer (some ⟨bD, 0, none⟩), .pointer (some ⟨bE, 0, none⟩), .pointer (some ⟨bN, 0, none⟩)]) (by simp [go_sem, f17, f18]) ((HA.out wv (of_drew hE)).mono (fun e w2 ⟨g, h1, h2, h3⟩ => ⟨_, h1, ⟨g, rfl, h2⟩, h3⟩)) (fun u w2 ⟨h1, h2⟩ => ⟨_, rfl, es_of_ext h2, h1⟩)
  case s3 =>
    refine qV (fun _ => rfl) rfl fun av wv hE hO hD => ?_
    simp [go_sem, qF av 4 (.pointer (some ⟨bD, 0, none⟩)) (hO.2.2 4 rfl), extB_cell hE (by simp) cf, extB_cell hE (by simp) cd, extB_cell hE (by simp) ce]
  case s4 =>
    refine qV (fun _ => rfl) rfl fun av wv hE hO hD => ?_
    simp [go_sem, qF av 1 (.pointer (some ⟨bE, 0, none⟩)) (hO.2.2 1 rfl), extB_cell hE (by simp) cf, extB_cell hE (by simp) cd, extB_cell hE (by simp) ce]
  case s5 =>
    refine qV (fun _ => rfl) rfl fun av wv hE hO hD => ?_
    simp [go_sem, qE (hD.1 rfl _ rfl)]
  case s6 =>
    refine step_wp (fun av wv hE hS hO hD => ⟨rfl, ?_⟩)
    have d19 : (fun u w' => ∃ g, u = .pointer (some ⟨g, 0, none⟩) ∧ PlaceIs els d d 0 g w') (av.eval (.tmp 19)) wv := hD.1 rfl _ rfl
    have f20 := qE (hD.2.1 rfl _ rfl)
    have f22 := qE (hD.2.2.1 rfl _ rfl)
    obtain ⟨g, h19, hg⟩ := d19
    have f19 := (ev_form av 19).symm.trans h19
    exact wp_of_run (v := .agg #[.pointer (some ⟨g, 0, none⟩), .int .i64 (d : Nat), .int .i64 (len els)]) (by simp [go_sem, f19, f20, f22]) ⟨_, rfl, es_of_ext (Ext_refl _), g, rfl, hg⟩
  case s7 =>
    refine step_wp (fun av wv hE hS hO hD => ⟨rfl, ?_⟩)
    have d23 : (fun u w' => ∃ g, u = .agg #[.pointer (some ⟨g, 0, none⟩), .int .i64 (d : Nat), .int .i64 (len els)] ∧ PlaceIs els d d 0 g w') (av.eval (.tmp 23)) wv := hD.1 rfl _ rfl
    obtain ⟨g, h23, hg⟩ := d23
    have f23 := (ev_form av 23).symm.trans h23
    refine wp_of_run (v := .pointer (some ⟨wv.heap.size, 0, none⟩)) (w' := wv.alloc (.cells #[.pointer (some ⟨g, 0, none⟩), .int .i64 (d : Nat), .int .i64 (len els)] 106)) (by simp [go_sem, f23]) ⟨_, rfl, es_of_ext (balloc (Ext_refl _) _), wv.heap.size, rfl, (by have := hE.size; have := HVS.out; simp at *; omega), g, ?_, ?_⟩
    · rw [HDD.out]; exact heap_alloc_new _ _
    · rw [HDD.out]; exact hg.below (balloc (Below.refl _ _) _)
  intro a' w' hE hO hall
  have hA := act_of_outer (ds := [17, 18, 19, 20, 21, 22, 23, 24]) rfl hO (by kernel_rfl)
  obtain ⟨j0, j1, j2, j3, j4, j5, j6, j7, -⟩ := hall
  have e19 : (fun u w' => ∃ g, u = .pointer (some ⟨g, 0, none⟩) ∧ PlaceIs els d d 0 g w') (a'.eval (.tmp 19)) w' := j2 _ rfl
  have e23 : (fun u w' => ∃ g, u = .agg #[.pointer (some ⟨g, 0, none⟩), .int .i64 (d : Nat), .int .i64 (len els)] ∧ PlaceIs els d d 0 g w') (a'.eval (.tmp 23)) w' := j6 _ rfl
  have e24 : (fun u w' => ∃ b, u = .pointer (some ⟨b, 0, none⟩) ∧ w.heap.size ≤ b ∧ TreeAt els b w') (a'.eval (.tmp 24)) w' := j7 _ rfl
  obtain ⟨v19, hv19⟩ : ∃ v, a'.eval (.tmp 19) = v := ⟨_, rfl⟩
  rw [hv19] at e19
  obtain ⟨v23, hv23⟩ : ∃ v, a'.eval (.tmp 23) = v := ⟨_, rfl⟩
  rw [hv23] at e23
  obtain ⟨v24, hv24⟩ : ∃ v, a'.eval (.tmp 24) = v := ⟨_, rfl⟩
  rw [hv24] at e24
  simp only [List.foldl_cons, List.foldl_nil, Act.put, List.setIfInBounds_toArray, List.set_cons_succ, List.set_cons_zero, qJ 17 (j0 _ rfl), qJ 18 (j1 _ rfl), hv19, qJ 20 (j3 _ rfl), qJ 21 (j4 _ rfl), qJ 22 (j5 _ rfl), hv23, hv24] at hA
  clear hO j2 j6 j7 j0 j1 hv19 j3 j4 j5 hv23 hv24
  subst hA
  obtain ⟨g, rfl, hg, ht⟩ := e24
  have HG : Hid (w.heap.size ≤ g) := Lib.hid hg
  have HT2 := Lib.hid ht
  have HW : Hid (Below w.heap.size w w') := Lib.hid (bnext HUW.out (of_drew hE))
  clear hg ht hE e19 e23
  go_wp2
  go_ret2
  exact ⟨g, rfl, HG.out, HT2.out, HW.out⟩
theorem root_any (els : List ByteArray) (b : Nat) (w : World) (h : TreeAt els b w) : Calls Tryz.prog 42 #[.pointer (some ⟨b, 0, none⟩)] w fun e w' => e = .returned (.string (plD els (depN els) (depN els) 0)) ∧ w = w' := by
  obtain ⟨p, h1, h2⟩ := h
  have c0 : w.cell? ⟨b, 0, none⟩ = some (.pointer (some ⟨p, 0, none⟩)) := by rw [block_cell h1]; rfl
  have c1 := h2.digest
  clear h1 h2
  go_enter Tryz.func42, Tryz.ntmps42
  go_wp2
  go_ret
  exact ⟨rfl, rfl⟩
theorem tdepth_any (els : List ByteArray) (b : Nat) (w : World) (h : TreeAt els b w) : Calls Tryz.prog 62 #[.pointer (some ⟨b, 0, none⟩)] w fun e w' => e = .returned (.int .i64 (depN els : Nat)) ∧ w = w' := by
  obtain ⟨p, h1, h2⟩ := h
  have c0 : w.cell? ⟨b, 1, none⟩ = some (.int .i64 (depN els : Nat)) := by rw [block_cell h1]; rfl
  clear h1 h2
  go_enter Tryz.func62, Tryz.ntmps62
  go_wp2
  go_ret
  exact ⟨rfl, rfl⟩
theorem tlen_any (els : List ByteArray) (b : Nat) (w : World) (h : TreeAt els b w) : Calls Tryz.prog 59 #[.pointer (some ⟨b, 0, none⟩)] w fun e w' => e = .returned (.int .i64 (len els : Nat)) ∧ w = w' := by
  obtain ⟨p, h1, h2⟩ := h
  have c0 : w.cell? ⟨b, 2, none⟩ = some (.int .i64 (len els : Nat)) := by rw [block_cell h1]; rfl
  clear h1 h2
  go_enter Tryz.func59, Tryz.ntmps59
  go_wp2
  go_ret
  exact ⟨rfl, rfl⟩
end Go.Proofs.YtoafjbillcooiaaGreat
namespace Go.Proofs.YtoafjbillcooiaaGreat
open Go.RowKit
set_option linter.unusedSimpArgs false
set_option linter.unusedVariables false
theorem mem_flatFrom : ∀ (s : Nat) (rs : List (List Int)) (x : Int × Int), x ∈ flatFrom s rs → ∃ j, j < rs.length ∧ ∃ k ∈ rnth rs j, x = (((s + j : Nat) : Int), k)
  | _, [], x, h => by simp [flatFrom] at h
  | s, r :: rs, x, h => by
    rw [flatFrom, List.mem_append] at h
    rcases h with h | h
    · obtain ⟨k, hk, rfl⟩ := List.mem_map.1 h
      exact ⟨0, by simp, k, by simpa [rnth] using hk, rfl⟩
    · obtain ⟨j, hj, k, hk, rfl⟩ := mem_flatFrom (s + 1) rs x h
      refine ⟨j + 1, by simp; omega, k, by simpa [rnth] using hk, ?_⟩
      rw [show s + 1 + j = s + (j + 1) by omega]
theorem sib_bd {k : Int} {e : Nat} (h0 : 0 ≤ k) (h1 : k < 2 ^ (e + 1)) : 0 ≤ sib k ∧ sib k < 2 ^ (e + 1) := by
  have h2 : (2 : Int) ^ (e + 1) = 2 * 2 ^ e := by rw [Int.pow_succ]; omega
  rw [h2] at h1 ⊢
  generalize (2 : Int) ^ e = p at h1 ⊢
  unfold sib
  split <;> omega
theorem half_bd {y : Int} {d i : Nat} (h0 : 0 ≤ y) (h1 : y < 2 ^ d) (hi : i ≤ d) : 0 ≤ y / 2 ^ i ∧ y / 2 ^ i < 2 ^ (d - i) := by
  obtain ⟨n, rfl⟩ := Int.eq_ofNat_of_zero_le h0
  rw [pow_cast] at h1
  have h3 : n < 2 ^ d := by exact_mod_cast h1
  have h4 : n / 2 ^ i < 2 ^ (d - i) := by
    apply Nat.div_lt_of_lt_mul
    rw [← Nat.pow_add, show i + (d - i) = d by omega]
    exact h3
  rw [pow_cast, pow_cast]
  constructor
  · exact Int.ediv_nonneg h0 (Int.natCast_nonneg _)
  · exact_mod_cast h4
theorem plc_bd {leaves : List Int} {d : Nat} (hd : d ≤ 16) (h : ∀ y ∈ leaves, 0 ≤ y ∧ y < 2 ^ d) : ∀ x ∈ flatLv (needsL leaves (d : Nat)), ∃ i k : Nat, x = ((i : Int), (k : Int)) ∧ i < d ∧ k < 2 ^ (d - i) := by
  intro x hx
  obtain ⟨i, hi, k, hk, rfl⟩ := mem_flatFrom 0 _ x hx
  unfold needsL at hi hk
  split at hi
  · rename_i hc
    rw [if_pos hc, Int.toNat_natCast] at hk
    rw [Int.toNat_natCast] at hi
    unfold rowsOf at hi hk
    rw [List.length_map, List.length_range] at hi
    rw [rnth_eq _ i (by simpa using hi)] at hk
    simp only [List.getElem_map, List.getElem_range] at hk
    unfold rowK at hk
    rw [srt_mem, needK_mem] at hk
    obtain ⟨⟨j, hj, rfl⟩, _⟩ := hk
    rw [(insAll_all _).2.1, List.mem_map] at hj
    obtain ⟨y, hy, rfl⟩ := hj
    have h1 := half_bd (h y hy).1 (h y hy).2 (Nat.le_of_lt hi)
    obtain ⟨e, he⟩ : ∃ e, d - i = e + 1 := ⟨d - i - 1, by omega⟩
    rw [he] at h1
    have h2 := sib_bd h1.1 h1.2
    refine ⟨i, (sib (y / 2 ^ i)).toNat, ?_, hi, ?_⟩
    · rw [Int.toNat_of_nonneg h2.1, Nat.zero_add]
    · rw [he]
      have h3 := h2.2
      rw [pow_cast] at h3
      exact (Int.toNat_lt h2.1).2 h3
  · simp at hi
theorem leaves_in {l : List Int} {d : Nat} (hd : d ≤ 16) : ∀ y ∈ leavesL l (d : Nat), 0 ≤ y ∧ y < 2 ^ d := by
  intro y hy
  obtain ⟨k, _, rfl⟩ := List.mem_map.1 hy
  unfold turnedZ
  split
  · have := revOf_lt k.toNat ((d : Nat) : Int).toNat
    rw [Int.toNat_natCast] at this ⊢
    rw [pow_cast]
    omega
  · rw [pow_cast]
    have := Nat.two_pow_pos d
    omega
def dgsL (els : List ByteArray) (L : List (Int × Int)) : List ByteArray := L.map fun x => plD els (depN els) x.1.toNat x.2.toNat
theorem dgsL_snoc (els : List ByteArray) (L : List (Int × Int)) (x : Int × Int) : dgsL els (L ++ [x]) = dgsL els L ++ [plD els (depN els) x.1.toNat x.2.toNat] := by unfold dgsL; rw [List.map_append]; rfl
end Go.Proofs.YtoafjbillcooiaaGreat
namespace Go.Proofs.YtoafjbillcooiaaGreat
open Go.RowKit
set_option linter.unusedSimpArgs false
set_option linter.unusedVariables false
set_option maxRecDepth 100000 in
set_option maxHeartbeats 4000000 in
theorem tat_any (els : List ByteArray) (b l k : Nat) (w : World) (h : TreeAt els b w) (hn : len els ≤ 65536) (hl : l ≤ depN els) (hk : k < 2 ^ (depN els - l)) :
    Calls Tryz.prog 60 #[.pointer (some ⟨b, 0, none⟩), .int .i64 (l : Nat), .int .u64 (k : Nat)] w fun e w' => e = .returned (.tuple #[.string (plD els (depN els) l k), .bool true]) ∧ Below w.heap.size w w' := by
  obtain ⟨p0, h1, h2⟩ := h
  have hd16 := depN_le hn
  obtain ⟨d, hd⟩ : ∃ d, depN els = d := ⟨_, rfl⟩
  rw [hd] at h1 h2 hl hk hd16 ⊢
  have c0 : w.cell? ⟨b, 0, none⟩ = some (.pointer (some ⟨p0, 0, none⟩)) := by rw [block_cell h1]; rfl
  have c1 : w.cell? ⟨b, 1, none⟩ = some (.int .i64 (d : Nat)) := by rw [block_cell h1]; rfl
  have HP : Hid (PlaceIs els d (l + (d - l)) (k / 2 ^ (d - l)) p0 w) := Lib.hid (by rw [Nat.div_eq_of_lt hk, show l + (d - l) = d by omega]; exact h2)
  have HK : Hid (k < 65536) := Lib.hid (Nat.lt_of_lt_of_le hk (pow_le16 (by omega)))
  have a2 : ¬ ((d : Nat) : Int) < ((l : Nat) : Int) := by omega
  obtain ⟨e, he⟩ : ∃ e, d - l = e := ⟨_, rfl⟩
  rw [he] at HP hk
  have a3 : IntKind.i64.wrap ((d : Int) - (l : Int)) = ((e : Nat) : Int) := by rw [IntWalk.i64_in _ (by omega)]; omega
  have a5 : ¬ (e : Int) < 0 := by omega
  have a4 : ((k : Nat) : Int) / 2 ^ e = 0 := by
    rw [pow_cast]
    have : k / 2 ^ e = 0 := Nat.div_eq_of_lt hk
    exact_mod_cast this
  have a6 : IntKind.i64.wrap ((e : Int) - 1) = (e : Int) - 1 := IntWalk.i64_in _ (by omega)
  have a1 : ¬ ((l : Nat) : Int) < 0 := by omega
  have a7 : min e 64 = e := by omega
  have HE : Hid (e ≤ 16) := Lib.hid (by omega)
  clear h1 h2 hd hk he hl hd16
  go_enter Tryz.func60, Tryz.ntmps60
  go_upto_region 5 with fail
  clear c0 c1 a1 a2 a3 a4 a5 a6 a7
  go_loopg [9, 8] e (fun g i p wr => ∃ (t q : Nat), g = t ∧ i = .int .i64 ((t : Int) - 1) ∧ p = .pointer (some ⟨q, 0, none⟩) ∧ t ≤ 16 ∧ Hid (PlaceIs els d (l + t) (k / 2 ^ t) q wr) ∧ Hid (Below w.heap.size w wr))
  case atStart => exact ⟨e, p0, rfl, rfl, rfl, HE.out, HP, Lib.hid (Below.refl _ _)⟩
  case round =>
    clear HP
    obtain ⟨t, q, hgt, rfl, rfl, ht, HP, HW⟩ := hrel
    have HGT := Lib.hid hgt
    clear hgt
    cases t with
    | zero =>
      have i1 : ¬ (0 : Int) ≤ ((0 : Nat) : Int) - 1 := by decide
      have cq : wr.cell? ⟨q, 0, none⟩ = some (.string (plD els d l k)) := by
        have := HP.out.digest
        rwa [Nat.add_zero, Nat.pow_zero, Nat.div_one] at this
      go_wp2
      go_ret2
      exact ⟨rfl, HW.out⟩
    | succ t =>
      rw [show ((t + 1 : Nat) : Int) - 1 = ((t : Nat) : Int) by omega]
      have i1 : (0 : Int) ≤ ((t : Nat) : Int) := by omega
      obtain ⟨W, hW⟩ : ∃ W, wr = W := ⟨_, rfl⟩
      rw [hW] at HP HW ⊢
      clear hW
      obtain ⟨b0, b1, hn9, h0, h1⟩ := HP.out
      obtain ⟨x, hx⟩ : ∃ x, k / 2 ^ t = x := ⟨_, rfl⟩
      obtain ⟨y, hy⟩ : ∃ y, x % 2 = y := ⟨_, rfl⟩
      have hxx : k / 2 ^ (t + 1) = x / 2 := by rw [← hx, Nat.div_div_eq_div_mul, Nat.pow_succ]
      have hx6 : x < 65536 := by rw [← hx]; exact Nat.lt_of_le_of_lt (Nat.div_le_self _ _) HK.out
      rw [hxx] at h0 h1
      obtain ⟨q2, hq2⟩ : ∃ q2, (if y = 0 then b0 else b1) = q2 := ⟨_, rfl⟩
      have cq : W.cell? ⟨q, 1 + y, none⟩ = some (.pointer (some ⟨q2, 0, none⟩)) := by
        rw [block_cell hn9, ← hq2]
        by_cases hy0 : y = 0
        · rw [if_pos hy0, hy0]; rfl
        · rw [if_neg hy0, show y = 1 by omega]; rfl
      have HP2 : Hid (PlaceIs els d (l + t) (k / 2 ^ t) q2 W) := Lib.hid (by
        rw [hx, ← hq2]
        by_cases hy0 : y = 0
        · rw [if_pos hy0, show x = 2 * (x / 2) by omega]; exact h0
        · rw [if_neg hy0, show x = 2 * (x / 2) + 1 by omega]; exact h1)
      have s1 : min t 64 = t := by omega
      have s2 : ((k : Nat) : Int) / 2 ^ t = ((x : Nat) : Int) := by rw [pow_cast, ← hx]; rfl
      have s3 : bits .and .u64 ((x : Nat) : Int) 1 = ((y : Nat) : Int) := by
        rw [show (1 : Int) = ((1 : Nat) : Int) from rfl, u64_and_nat _ _ (by omega) (by omega), Nat.and_one_is_mod, hy]
      have s4 : ¬ (2 : Int) ≤ ((y : Nat) : Int) := by omega
      have s5 : ¬ ((t : Nat) : Int) < 0 := by omega
      clear hx hy hxx hx6 hn9 h0 h1 hq2
      go_upto_region 7 with fail
      refine wp_region_tail 9 1000 (none) (phis (List.map qv [.pointer (some ⟨q, 0, none⟩), .int .u64 (k : Nat), .int .i64 (t : Nat), .int .u64 (x : Nat), .int .u64 (y : Nat), .pointer (some ⟨q, 0, none⟩), .pointer (some ⟨q, 1, none⟩), .pointer (some ⟨q, 1 + y, none⟩), .pointer (some ⟨q2, 0, none⟩)])) rfl (by kernel_rfl) (by kernel_rfl) (mono_of mono_qv) (steps_of 9 ⟨?s0, ?s1, ?s2, ?s3, ?s4, ?s5, ?s6, ?s7, ?s8, trivial⟩) ?_
      case s0 =>
        refine qV (fun _ => rfl) rfl fun av wv hE hO hD => ?_
        simp [go_sem, qF av 8 (.pointer (some ⟨q, 0, none⟩)) (hO.2.2 8 rfl), s1, s2, s3, s4, s5]
      case s1 =>
        refine qV (fun _ => rfl) rfl fun av wv hE hO hD => ?_
        simp [go_sem, qF av 2 (.int .u64 (k : Nat)) (hO.2.2 2 rfl), s1, s2, s3, s4, s5]
      case s2 =>
        refine qV (fun _ => rfl) rfl fun av wv hE hO hD => ?_
        simp [go_sem, qF av 9 (.int .i64 (t : Nat)) (hO.2.2 9 rfl), s1, s2, s3, s4, s5]
      case s3 =>
        refine qV (fun _ => rfl) rfl fun av wv hE hO hD => ?_
        simp [go_sem, qE (hD.1 rfl _ rfl), qE (hD.2.1 rfl _ rfl), s1, s2, s3, s4, s5]
      case s4 =>
        refine qV (fun _ => rfl) rfl fun av wv hE hO hD => ?_
        simp [go_sem, qE (hD.1 rfl _ rfl), s1, s2, s3, s4, s5]
      case s5 =>
        refine qV (fun _ => rfl) rfl fun av wv hE hO hD => ?_
        simp [go_sem, qE (hD.1 rfl _ rfl), s1, s2, s3, s4, s5]
      case s6 =>
        refine qV (fun _ => rfl) rfl fun av wv hE hO hD => ?_
        simp [go_sem, qE (hD.1 rfl _ rfl), s1, s2, s3, s4, s5]
      case s7 =>
        refine qV (fun _ => rfl) rfl fun av wv hE hO hD => ?_
        simp [go_sem, qE (hD.1 rfl _ rfl), qE (hD.2.1 rfl _ rfl), s1, s2, s3, s4, s5]
      case s8 =>
        refine qV (fun _ => rfl) rfl fun av wv hE hO hD => ?_
        simp [go_sem, qE (hD.1 rfl _ rfl), extB_cell hE (by simp) cq, s1, s2, s3, s4, s5]
      intro a' w' hE hO hall
      have hA := act_of_outer (ds := [50, 51, 52, 53, 54, 55, 56, 57, 58]) rfl hO (by kernel_rfl)
      obtain ⟨j0, j1, j2, j3, j4, j5, j6, j7, j8, -⟩ := hall
      simp only [List.foldl_cons, List.foldl_nil, Act.put, List.setIfInBounds_toArray, List.set_cons_succ, List.set_cons_zero, qJ 50 (j0 _ rfl), qJ 51 (j1 _ rfl), qJ 52 (j2 _ rfl), qJ 53 (j3 _ rfl), qJ 54 (j4 _ rfl), qJ 55 (j5 _ rfl), qJ 56 (j6 _ rfl), qJ 57 (j7 _ rfl), qJ 58 (j8 _ rfl)] at hA
      clear hO j0 j1 j2 j3 j4 j5 j6 j7 j8
      subst hA
      have HW2 : Hid (Below w.heap.size w w') := Lib.hid (bnext HW.out (of_drew hE))
      have HP3 : Hid (PlaceIs els d (l + t) (k / 2 ^ t) q2 w') := Lib.hid (HP2.out.below (of_drew hE))
      have a6 : IntKind.i64.wrap (((t : Nat) : Int) - 1) = ((t : Nat) : Int) - 1 := IntWalk.i64_in _ (by omega)
      clear hE cq s1 s2 s3 s4 s5
      go_wp2
      go_roundg t
      case rel => exact ⟨t, q2, rfl, rfl, rfl, by omega, HP3, HW2⟩
      case measure => have := HGT.out; omega
end Go.Proofs.YtoafjbillcooiaaGreat
namespace Go.Proofs.YtoafjbillcooiaaGreat
open Go.RowKit Go.ChangeMaps
set_option linter.unusedSimpArgs false
set_option linter.unusedVariables false
attribute [local go_sem] Oper.semAt_some
theorem info_str : (Tryz.prog.info? 9).map (fun i => (i.zero, i.size, i.bytes)) = some (some (.string ⟨#[]⟩), 1, 16) := by kernel_rfl
def ProofIs (l : List ByteArray) (er : Int) (w : World) (e : Ending) (w' : World) : Prop := ∃ v, e = .returned (.tuple #[v, .int .i64 er]) ∧ w'.ownsRow w.heap.size 9 1 v (len l) (l.map Value.string) ∧ Below w.heap.size w w'
theorem exists_sub {α : Type} (P : α → Prop) : ∀ (l : List α), (∀ x ∈ l, P x) → ∃ L : List { x // P x }, L.map Subtype.val = l
  | [], _ => ⟨[], rfl⟩
  | x :: l, h => by
    obtain ⟨L, hL⟩ := exists_sub P l (fun y hy => h y (List.mem_cons_of_mem _ hy))
    exact ⟨⟨x, h x List.mem_cons_self⟩ :: L, by rw [List.map_cons, hL]⟩
abbrev PlX (d : Nat) := { x : Int × Int // ∃ i k : Nat, x = ((i : Int), (k : Int)) ∧ i < d ∧ k < 2 ^ (d - i) }
theorem kpo_append {o base k : Nat} {W w4 : World} {tmp : Obj} {v v' : Value} {xs : List Value} (hrow : W.ownsRow base 9 1 v k xs) (hg : (W.alloc tmp).grownBy w4 v.ownBlock) : KpO o W (w4.setCell ⟨o, 0, none⟩ v') := by
  have hs := hg.size
  refine ⟨by simp at hs; simp [World.setCell]; omega, fun b cs t fr hb ht hc => ?_⟩
  have hlt := lt_of_block hc
  refine (Below.heap_setCell _ _ _ _ (fun e => hb e)).trans ?_
  refine (hg.block b (by simp; omega) (fun e => ?_)).trans (block_alloc hc _)
  rcases hrow.2 with ⟨rfl, _⟩ | ⟨g, cap, cur, rfl, _, hgb, _⟩
  · simp [Value.ownBlock] at e
  · simp [Value.ownBlock] at e
    subst e
    rw [hgb] at hc
    cases hc
    exact ht rfl
set_option maxRecDepth 100000 in
set_option maxHeartbeats 4000000 in
theorem prove_ok (els : List ByteArray) (b : Nat) (l : List Int) (a : Option Addr) (cap : Nat) (w : World) (ht : TreeAt els b w) (hn : len els ≤ 65536) (h : U64s w a l) (hl : len l ≤ 12) (hu : ∀ k ∈ l, U64 k) (hb : MayOk (len els : Nat) l) :
    Calls Tryz.prog 20 #[.pointer (some ⟨b, 0, none⟩), .slice a (len l) cap] w (ProofIs (dgsL els (plcL (len els : Nat) l)) 0 w) := by
  have HT := Lib.hid ht
  have HN := Lib.hid hn
  have HM := Lib.hid (mmay_any (len els : Nat) l a cap w h (by omega) (by omega) (by omega))
  rw [decide_eq_true hb] at HM
  have HLN := Lib.hid (tlen_any els b w ht)
  have H := Lib.hid h
  have HU := Lib.hid hu
  obtain ⟨d, hd⟩ : ∃ d, depN els = d := ⟨_, rfl⟩
  have HDD := Lib.hid hd
  have HD16 : Hid (d ≤ 16) := Lib.hid (by rw [← hd]; exact depN_le hn)
  have HPL : Hid (plcL (len els : Nat) l = flatLv (needsL (leavesL l d) d)) := Lib.hid (by unfold plcL; rw [depthZ_len hn, hd])
  clear ht hn h hu hb hd
  obtain ⟨i0, hi, hz0, hz1, hz2⟩ := info_parts info_str
  have HZ := Lib.hid hz0
  clear hz0
  refine (callsIn_wide (n := 9)).1 ?_
  refine callsIn_of_wp_marks Tryz.func20 rfl trivial ?_ rfl
  simp only [Tryz.ntmps20, List.size_toArray, List.length_cons, List.length_nil, Nat.reduceAdd, Nat.reduceSub, Array.replicate_succ, Array.replicate_zero, List.push_toArray, List.append_toArray, List.nil_append, List.cons_append]
  gi_wp2_with fail
  refine ⟨trivial, (callsIn_wide.2 HLN.out).mono ?_⟩
  rintro e w1 ⟨rfl, rfl⟩
  gi_wp2_with fail
  refine ⟨trivial, (callsIn_wide.2 HM.out).mono ?_⟩
  rintro e w1 ⟨rfl, hb1⟩
  have HB1 := Lib.hid hb1
  have HT1 := Lib.hid (HT.out.below hb1)
  clear hb1 HM HLN
  obtain ⟨ab, hab⟩ : ∃ ab, w1.heap.size = ab := ⟨_, rfl⟩
  gi_wp2_with fail
  obtain ⟨o, ho⟩ : ∃ o, ab + 1 = o := ⟨_, rfl⟩
  rw [ho]
  obtain ⟨V, hV⟩ : ∃ V, ((w1.alloc (.cells #[.func (.func 60) #[.pointer (some ⟨b, 0, none⟩)] #[]] 108)).alloc (.cells #[.slice none 0 0] 22)) = V := ⟨_, rfl⟩
  rw [hV]
  have V1 : Hid (V.heap[ab]? = some (.cells #[.func (.func 60) #[.pointer (some ⟨b, 0, none⟩)] #[]] 108 (0, 0))) := Lib.hid (by rw [← hV]; exact block_alloc (alloc_new_at _ hab) _)
  have V2 : Hid (Boxed V o 22 (.slice none 0 0)) := Lib.hid (by rw [← hV]; exact alloc_new_at _ (by rw [alloc_size _ rfl]; omega))
  have VB : Hid (Below w.heap.size w V) := Lib.hid (by rw [← hV]; exact balloc (balloc HB1.out _) _)
  have VS : Hid (w.heap.size ≤ ab ∧ ab < o) := Lib.hid ⟨by rw [← hab]; exact HB1.out.size, by omega⟩
  have HDP := Lib.hid (tdepth_any els b V (HT.out.below VB.out))
  rw [HDD.out] at HDP
  clear hV hab ho HT1
  refine ⟨trivial, (callsIn_wide.2 HDP.out).mono ?_⟩
  rintro e w2 ⟨rfl, rfl⟩
  gi_wp2_with fail
  refine ⟨trivial, (callsIn_wide.2 (places_any a cap (len l) (d : Nat) _)).mono ?_⟩
  rintro e w3 ⟨rfl, hw3⟩
  obtain ⟨s1, hs1⟩ : ∃ s1, V.heap.size = s1 := ⟨_, rfl⟩
  rw [hs1]
  have Z1 : Hid (w3.heap[ab]? = some (.cells #[.func (.func 60) #[.pointer (some ⟨b, 0, none⟩)] #[]] 108 (0, 0))) := Lib.hid (by rw [hw3]; exact block_alloc (block_alloc V1.out _) _)
  have Z0 : Hid (Boxed w3 o 22 (.slice none 0 0)) := Lib.hid (by rw [hw3]; exact block_alloc (block_alloc V2.out _) _)
  have Z2 : Hid (w3.heap[s1]? = some (.cells #[.int .i64 (d : Nat)] 3 (0, 0))) := Lib.hid (by rw [hw3]; exact block_alloc (alloc_new_at _ hs1) _)
  have Z3 : Hid (w3.heap[s1 + 1]? = some (.cells #[.slice a (len l) cap] 23 (0, 0))) := Lib.hid (by rw [hw3]; exact alloc_new_at _ (by rw [alloc_size _ rfl, hs1]))
  have ZB : Hid (Below w.heap.size w w3) := Lib.hid (by rw [hw3]; exact balloc (balloc VB.out _) _)
  have ZS : Hid (o < w3.heap.size) := Lib.hid (Z0.out.lt)
  clear hw3 hs1 V1 V2 HDP
  obtain ⟨L, hL⟩ : ∃ L : List (PlX d), L.map Subtype.val = flatLv (needsL (leavesL l d) d) := exists_sub _ _ (plc_bd HD16.out (leaves_in HD16.out))
  have HLL := Lib.hid hL
  have HLB : Hid (L.length ≤ 1600) := Lib.hid (by
    have h1 := flat_bd (leavesL l d) d (by rw [leavesL_len]; omega)
    rw [← hL, List.length_map] at h1
    exact h1)
  gi_wp2_with fail
  refine wpIn_rangeFunc_ownF rfl (by omega) (gf := 110) (lb := #[.pointer (some ⟨s1 + 1, 0, none⟩), .pointer (some ⟨s1, 0, none⟩)]) rfl trivial (enters_of Tryz.func110 (by kernel_rfl) rfl)
    (places_seq (Subtype.val : PlX d → Int × Int) L 8 (by omega) o (s1 + 1) s1 a cap l d w3 (by rw [block_cell Z3.out]; rfl) (by rw [block_cell Z2.out]; rfl) (H.out.below ZB.out) hl HD16.out HU.out ZS.out hL)
    KpO.trans (fun W l9 x x' _ hl hx _ => KpO.putObj o W l9 x x' hl hx) (Below.refl _ _) (fun _ => rfl)
    (fun pre W => (∃ v, Boxed W o 22 v ∧ W.ownsRow w.heap.size 9 1 v (len (dgsL els (pre.map Subtype.val))) ((dgsL els (pre.map Subtype.val)).map Value.string) ∧ True) ∧ W.heap[ab]? = some (.cells #[.func (.func 60) #[.pointer (some ⟨b, 0, none⟩)] #[]] 108 (0, 0)) ∧ Below w.heap.size w W) (fun _ _ _ => False)
    (OwnFrom.and (Own.from (holdsRow_own w.heap.size o 22 9 1 (fun pre : List (PlX d) => len (dgsL els (pre.map Subtype.val))) (fun pre => (dgsL els (pre.map Subtype.val)).map Value.string) (fun _ _ => True)) _) (OwnFrom.and (own_one _ ab 108 (fun _ : List (PlX d) => .func (.func 60) #[.pointer (some ⟨b, 0, none⟩)] #[])) (ownFrom_below (Nat.le_refl _) ZB.out.size))) (fun _ _ _ _ _ h _ _ => h)
    ⟨⟨_, Z0.out, World.ownsRow_nil _ _ _ _, trivial⟩, Z1.out, ZB.out⟩ ?a1 ?assign ?body ?done ?stop
  case assign =>
    intro l9 x W K hK
    gi_wp2
    exact hK
  case body =>
    rintro l9 pre ⟨x, i, k, rfl, hi9, hk9⟩ W ⟨⟨v, hv, hrow, -⟩, hO, hB⟩ hlt
    have ca : W.cell? ⟨ab, 0, none⟩ = some (.func (.func 60) #[.pointer (some ⟨b, 0, none⟩)] #[]) := by rw [block_cell hO]; rfl
    have HV := Lib.hid hv
    have HRW := Lib.hid hrow
    have HO := Lib.hid hO
    have HB := Lib.hid hB
    have HAT := Lib.hid (tat_any els b i k W (HT.out.below hB) HN.out (by rw [HDD.out]; omega) (by rw [HDD.out]; exact hk9))
    rw [HDD.out] at HAT
    have HPB : Hid (len (dgsL els (pre.map Subtype.val)) ≤ 1600) := Lib.hid (by unfold dgsL; rw [len_eq, List.length_map, List.length_map]; have := HLB.out; omega)
    have HSN : Hid (dgsL els ((pre ++ [(⟨((i : Int), (k : Int)), i, k, rfl, hi9, hk9⟩ : PlX d)]).map Subtype.val) = dgsL els (pre.map Subtype.val) ++ [plD els d i k]) := Lib.hid (by
      rw [List.map_append]
      show dgsL els (pre.map Subtype.val ++ [((i : Int), (k : Int))]) = _
      rw [dgsL_snoc, HDD.out]
      simp)
    obtain ⟨P9, hP9⟩ : ∃ P9, dgsL els (pre.map Subtype.val) = P9 := ⟨_, rfl⟩
    rw [hP9] at HRW HPB HSN
    obtain ⟨X9, hX9⟩ : ∃ X9, plD els d i k = X9 := ⟨_, rfl⟩
    rw [hX9] at HAT HSN
    clear hv hrow hO hB hlt hP9 hX9
    dsimp only
    gi_wp2_with fail
    refine ⟨trivial, (CallsIn.inRound l9 (callsIn_wide.2 HAT.out)).mono ?_⟩
    rintro e W2 ⟨rfl, hb2⟩
    have HV2 : Hid (Boxed W2 o 22 v) := Lib.hid ((hb2.block _ HV.out.lt).trans HV.out)
    have HR2 : Hid (W2.ownsRow w.heap.size 9 1 v (len P9) (P9.map Value.string)) := Lib.hid (own_below HRW.out hb2)
    have HO2 : Hid (W2.heap[ab]? = some (.cells #[.func (.func 60) #[.pointer (some ⟨b, 0, none⟩)] #[]] 108 (0, 0))) := Lib.hid ((hb2.block _ (lt_of_block HO.out)).trans HO.out)
    have HB2 : Hid (Below w.heap.size w W2) := Lib.hid (bnext HB.out hb2)
    have HWW := Lib.hid hb2
    have hc := HV2.out.cell
    have hpb := HPB.out
    clear hb2 ca HAT
    gi_wp2_with (gi_at_builtin; refine wpListIn_append_own _ rfl _ _ 22 rfl w.heap.size 9 i0 (.string ⟨#[]⟩) 1 16 Tryz.underlying22 hi HZ.out hz1 hz2 rfl (by decide) _ _ _ rfl (HR2.out.alloc _) ⟨W2.heap.size, 0, none⟩ 1 1 [.string X9] rfl rfl (World.news_of_block (heap_alloc_new _ _)) (by intro u hu9; simp at hu9; subst hu9; rfl) (by unfold maxLen; omega) (by omega) (by have := HB2.out.size; simp; omega) ?_; intro v' w4 hown' hgrow _; obtain ⟨g', cap', rfl⟩ := ownsRow_succ hown'; obtain ⟨hv1, hv2, hr2, hk2, hb3⟩ := HV2.out.appended (by decide) HR2.out HB2.out.size (by have := VS.out; omega) hown' hgrow; have hc1 := hv1.cell; have hf1 := hv1.frozen; have HQ1 := Lib.hid hv2; have HQ2 := Lib.hid hr2; have HQ3 := Lib.hid hk2; have HQ4 := Lib.hid hb3; have HQ5 := Lib.hid (kpo_append (o := o) (v' := .slice (some ⟨g', 0, none⟩) (len P9 + 1) cap') HR2.out hgrow); clear hv2 hr2 hk2 hb3 hown' hgrow)
    have HKO : Hid (KeepsOthers W W2) := Lib.hid (KeepsOthers.of_grownBy (below_grown HWW.out) (fun j o h => by cases h))
    have HKP : Hid (KpO o W W2) := Lib.hid ⟨HWW.out.size, fun b9 cs t fr _ _ hc9 => (HWW.out.block _ (lt_of_block hc9)).trans hc9⟩
    refine ⟨HKO.out.trans HQ3.out, HKP.out.trans HQ5.out, ⟨_, HQ1.out, ?_, trivial⟩, ?_, HB2.out.trans HQ4.out⟩
    · have e9 : len (P9 ++ [X9]) = len P9 + 1 := by rw [len_eq, List.length_append]; rfl
      rw [HSN.out, List.map_append, e9]
      exact HQ2.out
    · exact HQ5.out.same _ _ _ _ (by have := VS.out; omega) (by decide) HO2.out
  case done =>
    rintro D ys W hD rfl ⟨⟨v, hv, hrow, -⟩, hO, hB⟩ hK
    have hc := hv.cell
    rw [HLL.out] at hrow
    have HR := Lib.hid (ownsRow_putObj hrow (.deferred none) hK rfl)
    have HB : Hid (Below w.heap.size w (W.putObj D (.deferred none))) := Lib.hid (hB.trans (belowK_b (w := w) (Nat.le_refl _) W D _ _ (Nat.le_trans ZB.out.size hD) hK rfl rfl))
    have HK := Lib.hid hK
    clear hO hB hrow
    gi_wp2
    refine ⟨by simp, .inl ⟨_, _, rfl, run_takeDeferred HK.out, ?_⟩⟩
    refine ⟨_, results_tmp2 rfl _ _ _, v, rfl, ?_, HB.out⟩
    rw [HPL.out]
    exact HR.out
  case stop =>
    intro D c pre W _ _ h _
    exact h.elim
end Go.Proofs.YtoafjbillcooiaaGreat
namespace Go.Proofs.YtoafjbillcooiaaGreat
open Go.RowKit
set_option linter.unusedSimpArgs false
set_option linter.unusedVariables false
theorem own_txts {w : World} {base n : Nat} {v : Value} {l : List ByteArray} (h : w.ownsRow base 9 1 v n (l.map Value.string)) : ∃ a cap, v = .slice a (len l) cap ∧ Txts w a l := by
  have hn : len l = n := by have := h.1; rw [len_eq]; simpa using this
  rcases h.2 with ⟨rfl, h2⟩ | ⟨g, cap, cur, rfl, hg, hh, hc1, hc2, hc3, hc4⟩
  · obtain rfl : l = [] := List.eq_nil_of_length_eq_zero (by rw [← len_eq]; omega)
    exact ⟨none, 0, rfl, Txts.nil _ _⟩
  · refine ⟨some ⟨g, 0, none⟩, cap, by rw [hn], fun i hi => ⟨g, 0, rfl, ?_⟩⟩
    have := h.cellAt i (by omega)
    have hi2 : i < l.length := hi
    rw [Nat.zero_add, this, List.getElem?_map, List.getElem?_eq_getElem hi2, tth_eq l i hi]; rfl
theorem str_beq (a b : ByteArray) : (a.toList == b.toList) = decide (a = b) := by
  rw [ByteArray.toList_eq, ByteArray.toList_eq]
  by_cases h : a = b
  · subst h; simp
  · rw [decide_eq_false h]
    rw [beq_eq_false_iff_ne]
    intro h2
    exact h (ByteArray.ext (Array.ext' h2))
theorem hash1_any (tag s : ByteArray) (w : World) (h1 : 1 ≤ tag.size) (h2 : tag.size ≤ 16) (hs : s.size ≤ 1000000) : Calls Tryz.prog 53 #[.string tag, .slice (some ⟨w.heap.size, 0, none⟩) 1 1] (w.alloc (.cells #[.string s] 9)) fun e w' => e = .returned (.string (hashP tag [s])) ∧ Below w.heap.size w w' := by
  have hw1 : Txts (w.alloc (.cells #[.string s] 9)) (some ⟨w.heap.size, 0, none⟩) [s] := txts_cells (heap_alloc_new _ _) [s] (fun i hi => by
    have : i = 0 := by have : i < 1 := hi; omega
    subst this; rfl)
  refine (hash_any tag [s] (some ⟨w.heap.size, 0, none⟩) 1 _ h1 h2 hw1 (by show ((partL s) ++ []).length ≤ _; rw [List.append_nil, partL_len]; omega)).mono ?_
  rintro e w2 ⟨rfl, hb2⟩
  exact ⟨rfl, bnext (balloc (Below.refl _ _) _) hb2⟩
theorem hash2_any (tag s t : ByteArray) (w : World) (h1 : 1 ≤ tag.size) (h2 : tag.size ≤ 16) (hs : s.size ≤ 1000000) (ht : t.size ≤ 1000000) : Calls Tryz.prog 53 #[.string tag, .slice (some ⟨w.heap.size, 0, none⟩) 2 2] (w.alloc (.cells #[.string s, .string t] 9)) fun e w' => e = .returned (.string (hashP tag [s, t])) ∧ Below w.heap.size w w' := by
  have hw1 : Txts (w.alloc (.cells #[.string s, .string t] 9)) (some ⟨w.heap.size, 0, none⟩) [s, t] := txts_cells (heap_alloc_new _ _) [s, t] (fun i hi => by
    have : i = 0 ∨ i = 1 := by have : i < 2 := hi; omega
    rcases this with rfl | rfl <;> rfl)
  refine (hash_any tag [s, t] (some ⟨w.heap.size, 0, none⟩) 2 _ h1 h2 hw1 (by show ((partL s) ++ ((partL t) ++ [])).length ≤ _; rw [List.append_nil, List.length_append, partL_len, partL_len]; omega)).mono ?_
  rintro e w2 ⟨rfl, hb2⟩
  exact ⟨rfl, bnext (balloc (Below.refl _ _) _) hb2⟩
end Go.Proofs.YtoafjbillcooiaaGreat
namespace Go.Proofs.YtoafjbillcooiaaGreat
open Go.RowKit
set_option linter.unusedSimpArgs false
set_option linter.unusedVariables false
set_option maxRecDepth 100000 in
set_option maxHeartbeats 4000000 in
theorem pmay_any (n : Int) (l : List Int) (a : Option Addr) (cap : Nat) (w : World) (h : U64s w a l) (hn : len l ≤ 1000000000) (h0 : -9223372036854775808 ≤ n) (h1 : n ≤ 9223372036854775807) : Calls Tryz.prog 124 #[.int .i64 n, .slice a (len l) cap] w fun e w' => e = .returned (.bool (decide (SizeOk n l))) ∧ Below w.heap.size w w' := by
  have H := Lib.hid h
  have HN := Lib.hid hn
  by_cases c1 : n < 0
  · have E : Hid (decide (SizeOk n l) = false) := Lib.hid (decide_eq_false (fun h9 => by have := h9.1; omega))
    clear h hn h0 h1
    go_enter Tryz.func124, Tryz.ntmps124
    go_wp2
    go_ret
    exact ⟨by (rw [E.out]; try rfl), Below.refl _ _⟩
  · by_cases c2 : 65536 < n
    · have E : Hid (decide (SizeOk n l) = false) := Lib.hid (decide_eq_false (fun h9 => by have := h9.2.1; omega))
      clear h hn h0 h1
      go_enter Tryz.func124, Tryz.ntmps124
      go_wp2
      go_ret
      exact ⟨by (rw [E.out]; try rfl), Below.refl _ _⟩
    · by_cases c3 : len l = 0
      · have E : Hid (decide (SizeOk n l) = false) := Lib.hid (decide_eq_false (fun h9 => by have := h9.2.2.1; omega))
        have z1 : ((len l : Nat) : Int) = 0 := by omega
        clear h hn h0 h1 c3
        go_enter Tryz.func124, Tryz.ntmps124
        go_wp2
        go_ret
        exact ⟨by (rw [E.out]; try rfl), Below.refl _ _⟩
      · have z1 : ¬ ((len l : Nat) : Int) = 0 := by omega
        have n1 : IntKind.u64.wrap n = n := IntWalk.u64_in _ (by omega)
        have HC := Lib.hid (And.intro c1 (And.intro c2 c3))
        clear h hn h0 h1 c3
        go_enter Tryz.func124, Tryz.ntmps124
        go_upto_region 4 with fail
        clear c1 c2 z1
        go_loopg [20] (len l) (fun g i wr => ∃ m : Nat, g + m = len l ∧ i = .int .i64 m ∧ Hid (MayT n l m) ∧ Hid (Below w.heap.size w wr))
        case atStart => exact ⟨0, rfl, rfl, Lib.hid (fun i hi => by omega), Lib.hid (Below.refl _ _)⟩
        case round =>
          obtain ⟨m, hm, rfl, HR, HW⟩ := hrel
          have HNN := HN.out
          by_cases hlt : m < len l
          · have b0 : (m : Int) < len l := by omega
            obtain ⟨b, off, hra, e1⟩ := (H.out.below HW.out) m hlt
            subst hra
            have l1 := lt_of_cell e1
            cases hge : decide (n ≤ nth l m) with
            | true =>
              have HGE := Lib.hid hge
              go_wp2
              go_ret
              refine ⟨?_, HW.out⟩
              have : ¬ SizeOk n l := fun h9 => by
                have h1 := (h9.2.2.2 m hlt).1
                have h2 := of_decide_eq_true HGE.out
                omega
              rw [decide_eq_false this]; try rfl
            | false =>
              have HGE := Lib.hid hge
              cases m with
              | zero =>
                have e1 : wr.cell? ⟨b, off, none⟩ = some (.int .u64 (nth l 0)) := e1
                have hge0 : decide (n ≤ nth l 0) = false := HGE.out
                go_wp2
                go_roundg (len l - 1)
                case rel => exact ⟨1, by omega, by go_num, Lib.hid (HR.out.next (by have := of_decide_eq_false HGE.out; omega) (fun h => by omega)), HW⟩
                case measure => omega
              | succ n3 =>
                obtain ⟨b6, off6, hpa6, e2⟩ := (H.out.below HW.out) n3 (by omega)
                cases hpa6
                cases hris : decide (nth l (n3 + 1) ≤ nth l n3) with
                | true =>
                  have HRIS := Lib.hid hris
                  have i1 : IntKind.i64.wrap (n3 : Int) = n3 := (IntWalk.i64_in _ (by omega)); have i2 : 0 ≤ (n3 : Int) + 1 := (by omega); have i3 : ((n3 : Int) + 1).toNat = n3 + 1 := (by omega)
                  go_wp2
                  clear i1 i2 i3
                  go_ret
                  refine ⟨?_, HW.out⟩
                  have : ¬ SizeOk n l := fun h9 => by
                    have h1 := (h9.2.2.2 (n3 + 1) hlt).2 (by omega)
                    have h2 := of_decide_eq_true HRIS.out
                    rw [Nat.add_sub_cancel] at h1
                    omega
                  rw [decide_eq_false this]; try rfl
                | false =>
                  have HRIS := Lib.hid hris
                  have i1 : IntKind.i64.wrap (n3 : Int) = n3 := (IntWalk.i64_in _ (by omega)); have i2 : 0 ≤ (n3 : Int) + 1 := (by omega); have i3 : ((n3 : Int) + 1).toNat = n3 + 1 := (by omega)
                  go_wp2
                  clear i1 i2 i3
                  go_roundg (len l - (n3 + 1 + 1))
                  case rel => exact ⟨n3 + 1 + 1, by omega, by go_num, Lib.hid (HR.out.next (by have := of_decide_eq_false HGE.out; omega) (fun _ => by
                    have h2 := of_decide_eq_false HRIS.out
                    rw [Nat.add_sub_cancel]
                    omega)), HW⟩
                  case measure => omega
          · obtain rfl : m = len l := by omega
            have b0 : ¬ ((len l : Nat) : Int) < len l := by omega
            have E : Hid (decide (SizeOk n l) = true) := Lib.hid (decide_eq_true ⟨by have := HC.out.1; omega, by have := HC.out.2.1; omega, by have := HC.out.2.2; omega, HR.out⟩)
            go_wp2
            go_ret
            exact ⟨by (rw [E.out]; try rfl), HW.out⟩
def badB (ds : List ByteArray) : Bool := decide (∃ d ∈ ds, d.size ≠ 32)
theorem len32_any (s : ByteArray) (w : World) : Calls Tryz.prog 125 #[.string s] w fun e w' => e = .returned (.bool (!decide ((s.size : Int) = 32))) ∧ w = w' := by
  go_enter Tryz.func125, Tryz.ntmps125
  go_wp2
  go_ret
  exact ⟨by first | rfl | simp, rfl⟩
def BadIs (ds : List ByteArray) (w : World) (e : Ending) (w' : World) : Prop := ∃ j : Int, e = .returned (.int .i64 j) ∧ (0 ≤ j ↔ ∃ d ∈ ds, d.size ≠ 32) ∧ w = w'
set_option maxRecDepth 100000 in
set_option maxHeartbeats 4000000 in
theorem badidx_any (f9 : FuncId) (eg : ∀ args w, (callFunc f9 args).run Tryz.prog w = .ok (.enter f9 args) w) (hf9 : ∀ (s : ByteArray) (w : World), Calls Tryz.prog f9 #[.string s] w fun e w' => e = .returned (.bool (!decide ((s.size : Int) = 32))) ∧ w = w') (a : Option Addr) (cap : Nat) (ds : List ByteArray) (w : World) (hl : Txts w a ds) (hlen : len ds ≤ 9223372036854775807) :
    Calls Tryz.prog 158 #[.slice a (len ds) cap, .func (.func f9) #[] #[]] w (BadIs ds w) := by
  have HL := Lib.hid hl
  have HF9 := Lib.hid hf9
  clear hl hf9
  go_enter Tryz.func158, Tryz.ntmps158
  go_wp2
  go_loop [8] (fun i => ∃ m : Nat, m ≤ len ds ∧ i = .int .i64 m ∧ Hid (∀ j, j < m → (tth ds j).size = 32)) (fun i => len ds - (intOf i).toNat)
  case atStart => exact ⟨0, Nat.zero_le _, rfl, fun j hj => by omega⟩
  case round =>
    obtain ⟨m, hm, rfl, hn⟩ := hrel
    by_cases hlt : m < len ds
    · obtain ⟨b, off, rfl, hcell⟩ := HL.out m hlt
      have b0 : (m : Int) < len ds := by omega
      obtain ⟨s, hs⟩ : ∃ s, tth ds m = s := ⟨_, rfl⟩
      rw [hs] at hcell
      have HS := Lib.hid hs
      have HM : Hid (s ∈ ds) := Lib.hid (by rw [← hs, tth_eq ds m hlt]; exact List.getElem_mem _)
      clear hs
      go_wp2_with fail
      refine (HF9.out s w).mono ?_
      rintro e w' ⟨rfl, rfl⟩
      by_cases hf : s.size = 32
      · have HF := Lib.hid hf
        rw [decide_eq_true (show ((s.size : Nat) : Int) = 32 by omega)]
        clear hf hcell
        go_wp2
        go_round
        case rel => exact ⟨m + 1, by omega, by go_num, fun j hj => by
          by_cases e : j = m
          · subst e; rw [HS.out]; exact HF.out
          · exact hn.out j (by omega)⟩
        case measure => simp [intOf]; omega
      · have HF := Lib.hid hf
        rw [decide_eq_false (show ¬ ((s.size : Nat) : Int) = 32 by omega)]
        clear hf hcell
        go_wp2
        go_ret
        exact ⟨m, rfl, ⟨fun _ => ⟨s, HM.out, HF.out⟩, fun _ => by omega⟩, rfl⟩
    · obtain rfl : m = len ds := by omega
      go_wp2
      go_ret
      refine ⟨-1, rfl, ⟨fun h => by omega, fun ⟨k, hk, hf⟩ => ?_⟩, rfl⟩
      obtain ⟨j, hj, rfl⟩ := List.getElem_of_mem hk
      have h1 := hn.out j hj
      rw [tth_eq ds j hj] at h1
      exact absurd h1 hf
theorem badF_any (f9 : FuncId) (eg : ∀ args w, (callFunc f9 args).run Tryz.prog w = .ok (.enter f9 args) w) (hf9 : ∀ (s : ByteArray) (w : World), Calls Tryz.prog f9 #[.string s] w fun e w' => e = .returned (.bool (!decide ((s.size : Int) = 32))) ∧ w = w') (a : Option Addr) (cap : Nat) (ds : List ByteArray) (w : World) (hl : Txts w a ds) (hlen : len ds ≤ 9223372036854775807) :
    Calls Tryz.prog 120 #[.slice a (len ds) cap, .func (.func f9) #[] #[]] w fun e w' => e = .returned (.bool (badB ds)) ∧ w = w' := by
  have HL := Lib.hid hl
  have HF9 := Lib.hid hf9
  clear hl hf9
  go_enter Tryz.func120, Tryz.ntmps120
  go_wp2_with fail
  refine (badidx_any f9 eg HF9.out a cap ds w HL.out hlen).mono ?_
  rintro e w' ⟨j, rfl, hj, rfl⟩
  have HJ := Lib.hid hj
  clear hj
  by_cases h : 0 ≤ j
  · have E : Hid (badB ds = true) := Lib.hid (decide_eq_true (HJ.out.1 h))
    go_wp2
    go_ret
    exact ⟨by (rw [E.out]; try rfl), rfl⟩
  · have E : Hid (badB ds = false) := Lib.hid (decide_eq_false (fun hh => h (HJ.out.2 hh)))
    go_wp2
    go_ret
    exact ⟨ret_bool (by rw [E.out]; simp; omega), rfl⟩
theorem bad_any (a : Option Addr) (cap : Nat) (ds : List ByteArray) (w : World) (hl : Txts w a ds) (hlen : len ds ≤ 9223372036854775807) :
    Calls Tryz.prog 120 #[.slice a (len ds) cap, .func (.func 125) #[] #[]] w fun e w' => e = .returned (.bool (badB ds)) ∧ w = w' :=
  badF_any _ (enters_of Tryz.func125 (by kernel_rfl) rfl) len32_any a cap ds w hl hlen
set_option maxRecDepth 100000 in
set_option maxHeartbeats 4000000 in
theorem rMay_any (n : Int) (l : List Int) (a : Option Addr) (cap : Nat) (w : World) (h : U64s w a l) (hn : len l ≤ 1000000000) (h0 : -9223372036854775808 ≤ n) (h1 : n ≤ 9223372036854775807) : Calls Tryz.prog 128 #[.int .i64 n, .slice a (len l) cap] w fun e w' => e = .returned (.bool (decide (SizeOk n l))) ∧ Below w.heap.size w w' := by
  have H := Lib.hid h
  have HN := Lib.hid hn
  by_cases c1 : n < 0
  · have E : Hid (decide (SizeOk n l) = false) := Lib.hid (decide_eq_false (fun h9 => by have := h9.1; omega))
    clear h hn h0 h1
    go_enter Tryz.func128, Tryz.ntmps128
    go_wp2
    go_ret
    exact ⟨by (rw [E.out]; try rfl), Below.refl _ _⟩
  · by_cases c2 : 65536 < n
    · have E : Hid (decide (SizeOk n l) = false) := Lib.hid (decide_eq_false (fun h9 => by have := h9.2.1; omega))
      clear h hn h0 h1
      go_enter Tryz.func128, Tryz.ntmps128
      go_wp2
      go_ret
      exact ⟨by (rw [E.out]; try rfl), Below.refl _ _⟩
    · have HC : Hid (0 ≤ n ∧ n ≤ 65536) := Lib.hid (by omega)
      have n1 : IntKind.u64.wrap n = n := IntWalk.u64_in _ (by omega)
      clear h hn h0 h1
      go_enter Tryz.func128, Tryz.ntmps128
      go_upto_region 4 with fail
      clear c1 c2
      go_loopg [5] (len l) (fun g i wr => ∃ m : Nat, g + m = len l ∧ i = .int .i64 m ∧ Hid (MayT n l m) ∧ Hid (Below w.heap.size w wr))
      case atStart => exact ⟨0, rfl, rfl, Lib.hid (fun i hi => by omega), Lib.hid (Below.refl _ _)⟩
      case round =>
        obtain ⟨m, hm, rfl, HR, HW⟩ := hrel
        have HNN := HN.out
        by_cases hlt : m < len l
        · have b0 : (m : Int) < len l := by omega
          obtain ⟨b, off, hra, e1⟩ := (H.out.below HW.out) m hlt
          subst hra
          have l1 := lt_of_cell e1
          cases hge : decide (n ≤ nth l m) with
          | true =>
            have HGE := Lib.hid hge
            go_wp2
            go_quiet (fail)
            go_wp2
            go_ret
            refine ⟨?_, bnext HW.out (by (repeat (first | exact Below.refl _ _ | assumption | (refine bdrew ?_) | (refine bdrewN ?_ _) | (refine balloc ?_ _) | (refine bset ?_ (by first | omega | (simp; done) | (simp; omega)) _) | (refine bnext ?_ (by assumption)))))⟩
            have : ¬ SizeOk n l := fun h8 => by
              have h9 := h8.2.2
              have h1 := (h9.2 m hlt).1
              have h2 := of_decide_eq_true HGE.out
              omega
            rw [decide_eq_false this]; try rfl
          | false =>
            have HGE := Lib.hid hge
            cases m with
            | zero =>
              have e1 : wr.cell? ⟨b, off, none⟩ = some (.int .u64 (nth l 0)) := e1
              have hge0 : decide (n ≤ nth l 0) = false := HGE.out
              go_wp2
              go_quiet (fail)
              go_wp2
              go_roundg (len l - 1)
              case rel => exact ⟨1, by omega, by go_num, Lib.hid (HR.out.next (by have := of_decide_eq_false HGE.out; omega) (fun h => by omega)), by (repeat (first | exact Below.refl _ _ | assumption | (refine bdrew ?_) | (refine bdrewN ?_ _) | (refine balloc ?_ _) | (refine bset ?_ (by first | omega | (simp; done) | (simp; omega)) _) | (refine bnext ?_ (by assumption))))⟩
              case measure => omega
            | succ n3 =>
              obtain ⟨b6, off6, hpa6, e2⟩ := (H.out.below HW.out) n3 (by omega)
              cases hpa6
              cases hris : decide (nth l (n3 + 1) ≤ nth l n3) with
              | true =>
                have HRIS := Lib.hid hris
                go_wp2
                have i1 : IntKind.i64.wrap (n3 : Int) = n3 := (IntWalk.i64_in _ (by omega)); have i2 : 0 ≤ (n3 : Int) + 1 := (by omega); have i3 : ((n3 : Int) + 1).toNat = n3 + 1 := (by omega)
                go_quiet (fail)
                clear i1 i2 i3
                go_wp2
                go_ret
                refine ⟨?_, bnext HW.out (by (repeat (first | exact Below.refl _ _ | assumption | (refine bdrew ?_) | (refine bdrewN ?_ _) | (refine balloc ?_ _) | (refine bset ?_ (by first | omega | (simp; done) | (simp; omega)) _) | (refine bnext ?_ (by assumption)))))⟩
                have : ¬ SizeOk n l := fun h8 => by
                  have h9 := h8.2.2
                  have h1 := (h9.2 (n3 + 1) hlt).2 (by omega)
                  have h2 := of_decide_eq_true HRIS.out
                  rw [Nat.add_sub_cancel] at h1
                  omega
                rw [decide_eq_false this]; try rfl
              | false =>
                have HRIS := Lib.hid hris
                go_wp2
                have i1 : IntKind.i64.wrap (n3 : Int) = n3 := (IntWalk.i64_in _ (by omega)); have i2 : 0 ≤ (n3 : Int) + 1 := (by omega); have i3 : ((n3 : Int) + 1).toNat = n3 + 1 := (by omega)
                go_quiet (fail)
                clear i1 i2 i3
                go_wp2
                go_roundg (len l - (n3 + 1 + 1))
                case rel => exact ⟨n3 + 1 + 1, by omega, by go_num, Lib.hid (HR.out.next (by have := of_decide_eq_false HGE.out; omega) (fun _ => by
                  have h2 := of_decide_eq_false HRIS.out
                  rw [Nat.add_sub_cancel]
                  omega)), by (repeat (first | exact Below.refl _ _ | assumption | (refine bdrew ?_) | (refine bdrewN ?_ _) | (refine balloc ?_ _) | (refine bset ?_ (by first | omega | (simp; done) | (simp; omega)) _) | (refine bnext ?_ (by assumption))))⟩
                case measure => omega
        · obtain rfl : m = len l := by omega
          have b0 : ¬ ((len l : Nat) : Int) < len l := by omega
          go_wp2
          go_ret
          refine ⟨?_, HW.out⟩
          rw [show decide (SizeOk n l) = decide (0 < len l) from decide_eq_decide.2 ⟨fun h => h.2.2.1, fun h => ⟨HC.out.1, HC.out.2, h, HR.out⟩⟩]
          simp
end Go.Proofs.YtoafjbillcooiaaGreat
namespace Go.Proofs.YtoafjbillcooiaaGreat
open Go.RowKit
set_option linter.unusedSimpArgs false
set_option linter.unusedVariables false
theorem rowK_nodup (ks : List Int) : (rowK ks).Nodup := by
  unfold rowK srt
  exact (List.mergeSort_perm _ _).nodup_iff.2 (needK_nodup ks)
theorem rowK_mem (ks : List Int) (k : Int) : k ∈ rowK ks ↔ (∃ j ∈ ks, k = sib j) ∧ k ∉ ks := by
  unfold rowK
  rw [srt_mem, needK_mem]
theorem rowK_len (ks : List Int) : (rowK ks).length = (needK ks).length := by
  unfold rowK srt
  exact (List.mergeSort_perm _ _).length_eq
theorem sib_ne (y : Int) : sib y ≠ y := by unfold sib; split <;> omega
theorem rowK_single (y : Int) : (rowK [y]).length = 1 := by
  rw [rowK_len]
  unfold needK
  have h : ([y].map sib).filter (fun s => !decide (s ∈ [y])) = [sib y] := by
    simp [sib_ne y]
  rw [h]
  rfl
theorem rows_get (L : List Int) (d i : Nat) (hi : i < d) : rnth (rowsOf L d) i = rowK (insAll (L.map (· / 2 ^ i))) := by
  rw [rnth_eq _ i (by unfold rowsOf; simpa using hi)]
  unfold rowsOf
  simp only [List.getElem_map, List.getElem_range]
theorem rows_len (L : List Int) (d : Nat) : (rowsOf L d).length = d := by unfold rowsOf; simp
theorem needs_rows {l : List Int} {d : Nat} (hd : d ≤ 16) (h0 : 0 < len l) : needsL (leavesL l (d : Nat)) (d : Nat) = rowsOf (leavesL l (d : Nat)) d := by
  unfold needsL
  rw [Int.toNat_natCast, if_pos]
  refine ⟨by omega, by omega, by rw [leavesL_len]; exact h0, ?_⟩
  unfold farB
  rw [decide_eq_false]
  rintro ⟨k, hk, h9⟩
  have := (leaves_in hd k hk).2
  omega
theorem flat_len1 : ∀ (s : Nat) (c : List (List Int)), (∀ i, i < c.length → (rnth c i).length = 1) → (flatFrom s c).length = c.length
  | _, [], _ => rfl
  | s, z :: c, h => by
    have h1 := flat_len1 (s + 1) c (fun i hi => by
      have := h (i + 1) (by simp; omega)
      simpa [rnth] using this)
    have h2 := h 0 (by simp)
    simp only [rnth, List.getD_cons_zero] at h2
    simp only [flatFrom, List.length_append, List.length_map, List.length_cons]
    omega
theorem plcL_rows {n : Int} {l : List Int} {d : Nat} (hd : depthZ n = (d : Nat)) (hd16 : d ≤ 16) (h0 : 0 < len l) : plcL n l = flatLv (rowsOf (leavesL l (d : Nat)) d) := by
  unfold plcL
  rw [hd, needs_rows hd16 h0]
theorem plc_one {n : Int} {d : Nat} {x : Int} (hd : depthZ n = (d : Nat)) (hd16 : d ≤ 16) : (plcL n [x]).length = d := by
  rw [plcL_rows (l := [x]) hd hd16 (show 0 < len [x] from Nat.zero_lt_one)]
  have h := flat_len1 0 (rowsOf (leavesL [x] (d : Nat)) d) (fun i hi => by
    rw [rows_len] at hi
    rw [rows_get _ _ _ hi]
    exact rowK_single _)
  rw [rows_len] at h
  exact h
theorem dgs_len (els : List ByteArray) (L : List (Int × Int)) : len (dgsL els L) = L.length := by unfold dgsL; rw [len_eq, List.length_map]
end Go.Proofs.YtoafjbillcooiaaGreat
namespace Go.Proofs.YtoafjbillcooiaaGreat
open Go.RowKit
set_option linter.unusedSimpArgs false
set_option linter.unusedVariables false
theorem addF_some : ∀ (ks : List Int) (g : KnF) (ds : List ByteArray) (k : Int), (addF g ks ds k).isSome ↔ (g k).isSome ∨ k ∈ ks
  | [], g, ds, k => by simp [addF]
  | x :: ks, g, ds, k => by
    show (addF (putF g x (tth ds 0)) ks (ds.drop 1) k).isSome ↔ _
    rw [addF_some ks]
    by_cases e : k = x
    · subst e; rw [putF_same]; simp
    · rw [putF_other g _ e, List.mem_cons]; simp [e]
theorem overF_some (g : KnF) (p : Int) : (overF g p).isSome ↔ (g (2 * p)).isSome ∨ (g (2 * p + 1)).isSome := by
  unfold overF
  by_cases e : (g (2 * p)).isSome ∨ (g (2 * p + 1)).isSome
  · rw [if_pos e]; simp [e]
  · rw [if_neg e]; simp only [e]; simp
def SmF (g : KnF) : Prop := ∀ k d, g k = some d → d.size ≤ 1000
theorem SmF.no : SmF noF := fun k d h => by cases h
theorem SmF.put {g : KnF} (h : SmF g) (k : Int) (d : ByteArray) (hd : d.size ≤ 1000) : SmF (putF g k d) := fun j x hx => by
  by_cases e : j = k
  · subst e; rw [putF_same] at hx; cases hx; exact hd
  · rw [putF_other g d e] at hx; exact h j x hx
theorem SmF.over (g : KnF) : SmF (overF g) := fun k d hx => by
  by_cases e : (g (2 * k)).isSome ∨ (g (2 * k + 1)).isSome
  · have : overF g k = some (hashP nodeT [kidF g (2 * k), kidF g (2 * k + 1)]) := over_some e
    rw [this] at hx; cases hx
    rw [hashP_size]; omega
  · exact absurd ((overF_some g k).1 (by rw [hx]; rfl)) e
def leafD (es : List ByteArray) : List ByteArray := es.map fun s => hashP leafT [s]
theorem leafD_at (es : List ByteArray) (i : Nat) (h : i < len es) : tth (leafD es) i = hashP leafT [tth es i] := by
  have h2 : i < es.length := h
  rw [tth_eq es i h]
  unfold tth leafD
  rw [List.getD_eq_getElem?_getD, List.getElem?_map, List.getElem?_eq_getElem h2]
  rfl
def g0F (lv : List Int) (es : List ByteArray) : KnF := addF noF lv (leafD es)
theorem g0F_some (lv : List Int) (es : List ByteArray) (k : Int) : (g0F lv es k).isSome ↔ k ∈ lv := by
  unfold g0F
  rw [addF_some]
  simp [noF]
theorem rowsOf_at (lv : List Int) (d i : Nat) (h : i < d) : rnth (rowsOf lv d) i = rowK (insAll (lv.map (· / 2 ^ i))) := by
  rw [rnth_eq _ i (by unfold rowsOf; simpa using h)]
  unfold rowsOf
  simp
theorem rowsOf_len (lv : List Int) (d : Nat) : len (rowsOf lv d) = d := by unfold rowsOf; rw [len_eq]; simp
theorem row_mem (lv : List Int) (d i : Nat) (h : i < d) (k : Int) : k ∈ rnth (rowsOf lv d) i ↔ (∃ y ∈ lv, k = sib (y / 2 ^ i)) ∧ ¬ ∃ y ∈ lv, k = y / 2 ^ i := by
  rw [rowsOf_at lv d i h, rowK_mem]
  have e : ∀ j, j ∈ insAll (lv.map (· / 2 ^ i)) ↔ ∃ y ∈ lv, j = y / 2 ^ i := fun j => by
    rw [(insAll_all _).2.1, List.mem_map]
    constructor
    · rintro ⟨y, h1, rfl⟩; exact ⟨y, h1, rfl⟩
    · rintro ⟨y, h1, rfl⟩; exact ⟨y, h1, rfl⟩
  rw [e]
  constructor
  · rintro ⟨⟨j, hj, rfl⟩, h2⟩
    obtain ⟨y, hy, rfl⟩ := (e j).1 hj
    exact ⟨⟨y, hy, rfl⟩, h2⟩
  · rintro ⟨⟨y, hy, rfl⟩, h2⟩
    exact ⟨⟨_, (e _).2 ⟨y, hy, rfl⟩, rfl⟩, h2⟩
theorem sib_half (k : Int) : sib k / 2 = k / 2 := by unfold sib; split <;> omega
theorem root_keys (lv : List Int) (d : Nat) (g : KnF) (ds : List ByteArray) (hg : ∀ k, (g k).isSome ↔ k ∈ lv) : ∀ i, i ≤ d → ∀ k, (rootT g (rowsOf lv d) ds i k).isSome ↔ ∃ y ∈ lv, k = y / 2 ^ i
  | 0, _, k => by
    show (g k).isSome ↔ _
    rw [hg]
    constructor
    · intro h; exact ⟨k, h, by simp⟩
    · rintro ⟨y, h, rfl⟩; simpa using h
  | i + 1, hi, p => by
    have IH := root_keys lv d g ds hg i (by omega)
    rw [rootT_next _ _ _ _ (by rw [rowsOf_len]; omega), overF_some, addF_some, addF_some, IH, IH, row_mem lv d i (by omega), row_mem lv d i (by omega)]
    have half : ∀ y : Int, y / 2 ^ (i + 1) = y / 2 ^ i / 2 := fun y => by
      rw [Int.pow_succ, Int.ediv_ediv_of_nonneg (Int.le_of_lt (Int.pow_pos (by decide)))]
    constructor
    · rintro ((⟨y, hy, e⟩ | ⟨⟨y, hy, e⟩, _⟩) | (⟨y, hy, e⟩ | ⟨⟨y, hy, e⟩, _⟩))
      · exact ⟨y, hy, by rw [half]; omega⟩
      · exact ⟨y, hy, by rw [half, ← sib_half, ← e]; omega⟩
      · exact ⟨y, hy, by rw [half]; omega⟩
      · exact ⟨y, hy, by rw [half, ← sib_half, ← e]; omega⟩
    · rintro ⟨y, hy, rfl⟩
      rw [half]
      by_cases e : y / 2 ^ i % 2 = 0
      · exact .inl (.inl ⟨y, hy, by omega⟩)
      · exact .inr (.inl ⟨y, hy, by omega⟩)
theorem nth_take_not {l : List Int} (hn : l.Nodup) {m : Nat} (h : m < len l) : nth l m ∉ l.take m := fun hm => by
  have h2 : m < l.length := h
  rw [nth_eq l m h2] at hm
  obtain ⟨i, hi, e⟩ := List.getElem_of_mem hm
  rw [List.length_take] at hi
  rw [List.getElem_take] at e
  have := nodup_inj hn e
  omega
theorem none_of {o : Option ByteArray} (h : ¬ o.isSome) : o = none := by simpa using h
theorem fresh_row (lv : List Int) (d : Nat) (g : KnF) (ds ds2 : List ByteArray) (hg : ∀ k, (g k).isSome ↔ k ∈ lv) (i : Nat) (hi : i < d) (m : Nat) (hm : m < len (rnth (rowsOf lv d) i)) :
    addF (rootT g (rowsOf lv d) ds i) ((rnth (rowsOf lv d) i).take m) ds2 (nth (rnth (rowsOf lv d) i) m) = none := by
  apply none_of
  rw [addF_some, root_keys lv d g ds hg i (by omega)]
  have h1 := (row_mem lv d i hi _).1 (mem_nth hm)
  have hn : (rnth (rowsOf lv d) i).Nodup := by rw [rowsOf_at lv d i hi]; exact rowK_nodup _
  have h2 := nth_take_not hn hm
  rintro (h3 | h3)
  · exact h1.2 h3
  · exact h2 h3
theorem fresh_leaf {lv : List Int} (hn : lv.Nodup) (ds : List ByteArray) (m : Nat) (hm : m < len lv) : addF noF (lv.take m) ds (nth lv m) = none := by
  apply none_of
  rw [addF_some]
  rintro (h | h)
  · simp [noF] at h
  · exact nth_take_not hn hm h
theorem turnedP_rev {k : Int} {d n : Nat} (hd : d ≤ 16) (h0 : 0 ≤ k) (hk : k < n) (hn : n ≤ 2 ^ d) : turnedZ k d = ((revOf k.toNat d : Nat) : Int) := by
  unfold turnedZ
  rw [if_pos ⟨by omega, by omega, by rw [Int.toNat_natCast, pow_cast]; omega⟩, Int.toNat_natCast]
theorem leaves_nodup {ps : List Int} {d n : Nat} (hd : d ≤ 16) (hn : n ≤ 2 ^ d) (hu : ∀ k ∈ ps, U64 k) (h : MayOk n ps) : (leavesL ps (d : Nat)).Nodup := by
  have hb : ∀ i, i < len ps → 0 ≤ nth ps i ∧ nth ps i < n := fun i hi => ⟨(hu _ (mem_nth hi)).1, (h.2 i hi).1⟩
  have hr : Rises ps := fun i hi h0 => (h.2 i hi).2 h0
  unfold leavesL
  rw [List.Nodup, List.pairwise_map, List.pairwise_iff_getElem]
  intro i j hi hj hij e
  have hi2 := hb i hi
  have hj2 := hb j hj
  rw [nth_eq ps i hi] at hi2
  rw [nth_eq ps j hj] at hj2
  rw [turnedP_rev hd hi2.1 hi2.2 hn, turnedP_rev hd hj2.1 hj2.2 hn] at e
  have e2 : revOf ps[i].toNat d = revOf ps[j].toNat d := by exact_mod_cast e
  have hl : ∀ k : Int, 0 ≤ k → k < n → k.toNat < 2 ^ d := fun k h1 h2 => by omega
  have e3 : ps[i].toNat = ps[j].toNat := by rw [← revOf_revOf (hl _ hi2.1 hi2.2), ← revOf_revOf (hl _ hj2.1 hj2.2), e2]
  have hjl : j < len ps := hj
  have h3 := Rises.le hr (i + 1) j (by omega) hjl
  have h4 := hr (i + 1) (by omega) (by omega)
  rw [Nat.add_sub_cancel, nth_eq ps i hi] at h4
  rw [nth_eq ps j hj] at h3
  omega
theorem needsP_rows {ps : List Int} {d n : Nat} (hd : d ≤ 16) (h : MayOk n ps) : needsL (leavesL ps (d : Nat)) (d : Nat) = rowsOf (leavesL ps (d : Nat)) d := needs_rows hd h.1
def rowsP (n : Int) (ps : List Int) : List (List Int) := needsL (leavesL ps (depthZ n)) (depthZ n)
def neededP (n : Int) (ps : List Int) : Nat := usedR (rowsP n ps) (len (rowsP n ps))
def digP (n : Int) (ps : List Int) (es ds : List ByteArray) : ByteArray := kidF (rootG (g0F (leavesL ps (depthZ n)) es) (rowsP n ps) ds) 0
def ArgOk (n : Int) (ps : List Int) (es : List ByteArray) : Prop := SizeOk n ps ∧ len es = len ps
instance (n : Int) (ps : List Int) (es : List ByteArray) : Decidable (ArgOk n ps es) := by unfold ArgOk; exact inferInstance
def rootE (n : Int) (ps : List Int) (es ds : List ByteArray) : Int :=
  if ¬ ArgOk n ps es then 2 else if badB ds = true then 5 else if len ds < neededP n ps then 4 else if neededP n ps < len ds then 3 else 0
def rootS (n : Int) (ps : List Int) (es ds : List ByteArray) : ByteArray := if rootE n ps es ds = 0 then digP n ps es ds else ⟨#[]⟩
def RootIs (n : Int) (ps : List Int) (es ds : List ByteArray) (w : World) (e : Ending) (w' : World) : Prop := e = .returned (.tuple #[.string (rootS n ps es ds), .int .i64 (rootE n ps es ds)]) ∧ Below w.heap.size w w'
end Go.Proofs.YtoafjbillcooiaaGreat
namespace Go.Proofs.YtoafjbillcooiaaGreat
open Go.RowKit
set_option linter.unusedSimpArgs false
set_option linter.unusedVariables false
def memB (k : Int) (l : List Int) : Bool := decide (k ∈ l)
theorem memB_true {k : Int} {l : List Int} {n : Nat} (h : n < len l) (e : nth l n = k) : memB k l = true := by
  unfold memB; rw [nth_eq l n h] at e; simp only [← e, decide_eq_true_eq]; exact List.getElem_mem _
theorem memB_false {k : Int} {l : List Int} (h : ∀ j, j < len l → nth l j ≠ k) : memB k l = false := by
  unfold memB
  simp only [decide_eq_false_iff_not]
  intro hm
  obtain ⟨i, hi, e⟩ := List.getElem_of_mem hm
  exact h i hi (by rw [nth_eq l i hi]; exact e)
set_option maxHeartbeats 400000 in
theorem has_any (a : Option Addr) (cap : Nat) (k : Int) (l : List Int) (w : World) (hlen : len l ≤ 9223372036854775807) (hc : U64s w a l) :
    Calls Tryz.prog 146 #[.slice a (len l) cap, .int .u64 k] w fun e w' => e = .returned (.bool (memB k l)) ∧ w' = w := by
  have HC := Lib.hid hc
  clear hc
  go_enter Tryz.func146, Tryz.ntmps146
  go_wp2
  go_loop [5] (fun i => ∃ n : Nat, n ≤ len l ∧ i = .int .i64 n ∧ Hid (∀ j, j < n → nth l j ≠ k)) (fun i => len l - (intOf i).toNat)
  case atStart => exact ⟨0, Nat.zero_le _, rfl, fun j hj => by omega⟩
  case round =>
    obtain ⟨n, hn, rfl, hk⟩ := hrel
    by_cases hlt : n < len l
    · obtain ⟨b, off, rfl, hcell⟩ := HC.out n hlt
      by_cases hh : nth l n = k
      · have hh' : (nth l n == k) = true := by simpa using hh
        have HH := Lib.hid hh
        clear hh
        go_wp2
        go_ret
        exact ⟨ret_bool (memB_true hlt HH.out).symm, rfl⟩
      · have hh' : (nth l n == k) = false := by simpa using hh
        have HH := Lib.hid hh
        clear hh
        go_wp2
        go_round
        case rel => exact ⟨n + 1, by omega, by go_num, fun j hj => by
          by_cases e : j = n
          · subst e; exact HH.out
          · exact hk.out j (by omega)⟩
        case measure => simp [intOf]; omega
    · go_wp2
      go_ret
      exact ⟨ret_bool (memB_false (fun j hj => hk.out j (by omega))).symm, rfl⟩
abbrev Rising (l : List Int) : Prop := l.Pairwise (fun x y => x < y)
theorem put_rising {l : List Int} {k : Int} {m : Nat} (hr : Rising l) (h1 : ∀ j, j < m → nth l j < k) (hm : m ≤ len l) (h2 : m < len l → k < nth l m) : Rising (l.take m ++ [k] ++ l.drop m) := by
  have h3 : ∀ x ∈ l.take m, x < k := by
    intro x hx
    obtain ⟨i, hi, rfl⟩ := List.getElem_of_mem hx
    have hi' : i < m := by simp at hi; omega
    have := h1 i hi'
    rw [nth_eq l i (by rw [len_eq] at hm; omega)] at this
    simpa using this
  have h4 : ∀ x ∈ l.drop m, k < x := by
    intro x hx
    by_cases hlt : m < len l
    · have hlt' : m < l.length := hlt
      rw [List.drop_eq_getElem_cons hlt'] at hx
      have h5 := h2 hlt
      rw [nth_eq l m hlt'] at h5
      rcases List.mem_cons.1 hx with rfl | hx
      · exact h5
      · have h6 : (l.drop m).Pairwise (fun x y => x < y) := List.Pairwise.drop hr
        rw [List.drop_eq_getElem_cons hlt', List.pairwise_cons] at h6
        have := h6.1 x hx
        omega
    · rw [List.drop_eq_nil_of_le (by rw [← len_eq]; omega)] at hx; cases hx
  refine List.pairwise_append.2 ⟨List.pairwise_append.2 ⟨hr.take, List.pairwise_singleton .., fun x hx y hy => ?_⟩, hr.drop, fun x hx y hy => ?_⟩
  · rw [List.mem_singleton] at hy; subst hy; exact h3 x hx
  · rcases List.mem_append.1 hx with hx | hx
    · have := h3 x hx; have := h4 y hy; omega
    · rw [List.mem_singleton] at hx; subst hx; exact h4 y hy
theorem put_mem (l : List Int) (k : Int) (m : Nat) (x : Int) : x ∈ l.take m ++ [k] ++ l.drop m ↔ x ∈ l ∨ x = k := by
  have h : x ∈ l ↔ x ∈ l.take m ∨ x ∈ l.drop m := by
    rw [← List.mem_append, List.take_append_drop]
  rw [h, List.mem_append, List.mem_append, List.mem_singleton]
  constructor
  · rintro ((h | h) | h)
    · exact .inl (.inl h)
    · exact .inr h
    · exact .inl (.inr h)
  · rintro ((h | h) | h)
    · exact .inl (.inl h)
    · exact .inr h
    · exact .inl (.inr h)
theorem put_len (l : List Int) (k : Int) (m : Nat) : len (l.take m ++ [k] ++ l.drop m) = len l + 1 := by
  rw [len_eq, len_eq]; simp; omega
def PutIs (base : Nat) (l : List Int) (k : Int) (w : World) (e : Ending) (w' : World) : Prop :=
  ∃ (v : Value) (l' : List Int), e = .returned v ∧ Rising l' ∧ (∀ x, x ∈ l' ↔ x ∈ l ∨ x = k) ∧ len l' ≤ len l + 1 ∧ w'.ownsRow base 37 1 v (len l') (l'.map (Value.int .u64)) ∧ Below w.heap.size w w'
theorem own_lower {w : World} {base b' e size n : Nat} {v : Value} {xs : List Value} (h : w.ownsRow base e size v n xs) (hb : b' ≤ base) : w.ownsRow b' e size v n xs :=
  ownsRow_later h (Below.refl _ _) hb
theorem part_len (l : List Int) (a n : Nat) (h : a + n ≤ len l) : (((l.drop a).take n).map (Value.int .u64)).length = n := by
  have : l.length = len l := rfl
  simp; omega
theorem part_one (l : List Int) : ∀ u ∈ l.map (Value.int .u64), u.oneCell' = true := by
  intro u hu
  obtain ⟨x, _, rfl⟩ := List.mem_map.1 hu
  rfl
theorem part_news (w : World) (g : Nat) (l : List Int) (h : ∀ j, j < len l → w.cell? ⟨g, j, none⟩ = some (.int .u64 (nth l j))) (a n : Nat) (han : a + n ≤ len l) : ∀ j u, (((l.drop a).take n).map (Value.int .u64))[j]? = some u → w.cell? ((⟨g, a, none⟩ : Addr).add j) = some u := by
  intro j u hu
  have hj : j < n := by
    have h1 := (List.getElem?_eq_some_iff.1 hu).1
    rw [part_len l a n han] at h1; exact h1
  have hjl : a + j < l.length := by have : l.length = len l := rfl; omega
  rw [List.getElem?_map, List.getElem?_take_of_lt hj, List.getElem?_drop, List.getElem?_eq_getElem hjl] at hu
  cases hu
  have h2 := h (a + j) hjl
  rw [nth_eq l (a + j) hjl] at h2
  have h3 : (⟨g, a, none⟩ : Addr).add j = ⟨g, a + j, none⟩ := by
    by_cases hj0 : j = 0
    · subst hj0; rfl
    · simp [Addr.add, hj0]
  rw [h3]; exact h2
theorem one_news (w : World) (v : Value) (t : TypeId) : ∀ j u, [v][j]? = some u → (w.alloc (.cells #[v] t)).cell? ((⟨w.heap.size, 0, none⟩ : Addr).add j) = some u := by
  intro j u hu
  cases j with
  | zero => simp at hu; subst hu; exact block_cell (heap_alloc_new _ _) 0
  | succ j => simp at hu
theorem put_xs1 (l : List Int) (k : Int) (m : Nat) (h : len l - m = 0) : List.take m (l.map (Value.int .u64)) ++ [.int .u64 k] = (l.take m ++ [k] ++ l.drop m).map (Value.int .u64) := by
  rw [List.drop_eq_nil_of_le (by rw [← len_eq]; omega)]; simp
theorem put_xs2 (l : List Int) (k : Int) (m : Nat) : List.take m (l.map (Value.int .u64)) ++ .int .u64 k :: List.take (len l - m) (List.drop m (l.map (Value.int .u64))) = (l.take m ++ [k] ++ l.drop m).map (Value.int .u64) := by
  rw [List.take_of_length_le (l := List.drop m _) (by rw [List.length_drop, List.length_map]; exact Nat.le_refl _)]
  simp
theorem put_end {base : Nat} {l : List Int} {k : Int} {m n : Nat} {w w' : World} {v : Value} (hm : m ≤ len l) (hr : Rising l) (hk : ∀ j, j < m → nth l j < k) (h2 : m < len l → k < nth l m) (hbase : base ≤ w.heap.size)
    {xs : List Value} (hx : xs = (l.take m ++ [k] ++ l.drop m).map (Value.int .u64)) (hown : w'.ownsRow w.heap.size 37 1 v n xs) (hb : Below w.heap.size w w') : PutIs base l k w (.returned v) w' := by
  subst hx
  have hn : n = len (l.take m ++ [k] ++ l.drop m) := by
    have := hown.1
    rw [List.length_map, Nat.mul_one] at this
    rw [len_eq]; exact this.symm
  subst hn
  exact ⟨v, _, rfl, put_rising hr hk hm h2, put_mem l k m, by rw [put_len]; exact Nat.le_refl _, own_lower hown hbase, hb⟩
set_option maxRecDepth 100000 in
set_option maxHeartbeats 2000000 in
theorem put_any (base : Nat) (v0 : Value) (l : List Int) (k : Int) (w : World) (hown : w.ownsRow base 37 1 v0 (len l) (l.map (Value.int .u64))) (hr : Rising l) (hlen : len l ≤ 1000) (hbase : base ≤ w.heap.size) :
    Calls Tryz.prog 144 #[v0, .int .u64 k] w (PutIs base l k w) := by
  obtain ⟨i0, hi, hz0, hz1, hz2⟩ := info_parts info_u64
  have HR := Lib.hid hr
  have HOWN := Lib.hid hown
  clear hr
  rcases hown.2 with ⟨rfl, h2⟩ | ⟨g, cap, cur, rfl, hg, hh, hc1, hc2, hc3, hc4⟩
  · obtain rfl : l = [] := List.eq_nil_of_length_eq_zero (by rw [← len_eq]; omega)
    clear hown h2
    have W0 : w.ownsRow w.heap.size 37 1 (.slice none 0 0) 0 [] := World.ownsRow_nil _ _ _ _
    have HW0 := Lib.hid W0
    clear W0
    show Calls Tryz.prog 144 #[.slice none 0 0, .int .u64 k] w _
    have l0 : len ([] : List Int) = 0 := rfl
    go_enter Tryz.func144, Tryz.ntmps144
    go_wp2_with fail
    refine wp_loop_rounds 1 ?_
    rw [rounds_succ]
    go_wp2_with (first | (at_builtin; refine wpList_append_own_none rfl _ _ 23 rfl w.heap.size 37 i0 1 Tryz.underlying23 hi _ _ _ rfl HW0.out rfl ?_) | (at_builtin; refine wpList_append_own _ rfl _ _ 23 rfl w.heap.size 37 i0 (.int .u64 0) 1 8 Tryz.underlying23 hi hz0 hz1 hz2 rfl (by decide) _ _ _ rfl (HW0.out.alloc _) ⟨w.heap.size, 0, none⟩ 1 1 [.int .u64 k] rfl rfl ?c1 ?c2 ?c3 ?c4 ?c5 ?_))
    case c1 =>
      intro j u hu
      cases j with
      | zero => simp at hu; subst hu; exact block_cell (heap_alloc_new _ _) 0
      | succ j => simp at hu
    case c2 => intro u hu; simp at hu; subst hu; rfl
    case c3 => unfold maxLen; omega
    case c4 => omega
    case c5 => simp
    intro v' w2 hown' hgrow _
    have hb2 : Below w.heap.size w w2 := grownBy_below (balloc (Below.refl _ _) _) hgrow (fun k hk' => by simp [Value.ownBlock] at hk')
    obtain ⟨g', cap', rfl⟩ := ownsRow_succ hown'
    have HO2 := Lib.hid hown'
    clear hown' hgrow
    go_wp2_with (at_builtin; refine wpList_append_own_none rfl _ _ 23 rfl w.heap.size 37 i0 1 Tryz.underlying23 hi _ _ _ rfl HO2.out rfl ?_)
    go_wp2
    go_ret
    exact ⟨_, [k], rfl, List.pairwise_singleton .., fun x => by simp, Nat.le_refl _, own_lower HO2.out hbase, hb2⟩
  · have hlc : len l ≤ cap := by omega
    have HC : Hid (∀ j, j < len l → w.cell? ⟨g, j, none⟩ = some (.int .u64 (nth l j))) := Lib.hid (fun j hj => by
      have := hown.cellAt j (by omega)
      rw [this, List.getElem?_map, List.getElem?_eq_getElem (by simpa [len_eq] using hj), nth_eq l j (by simpa [len_eq] using hj)]; rfl)
    have hgl : g < w.heap.size := (Array.getElem?_eq_some_iff.1 hh).1
    clear hown hh hc3 hc4 hc1
    have W0 : w.ownsRow w.heap.size 37 1 (.slice none 0 0) 0 [] := World.ownsRow_nil _ _ _ _
    have HW0 := Lib.hid W0
    clear W0
    have HZ := Lib.hid hz0
    go_enter Tryz.func144, Tryz.ntmps144
    go_wp2
    go_loopg [5] (len l) (fun g i wr => ∃ m : Nat, g + m = len l ∧ i = .int .i64 m ∧ Hid (∀ j, j < m → nth l j < k) ∧ w = wr)
    case atStart => exact ⟨0, rfl, rfl, fun j hj => by omega, rfl⟩
    case round =>
      obtain ⟨m, hm, rfl, hk, rfl⟩ := hrel
      by_cases hlt : m < len l
      · have hcell := HC.out m hlt
        by_cases h1 : nth l m < k
        · go_wp2
          go_roundg (len l - (m + 1))
          case rel => exact ⟨m + 1, by omega, by go_num, Lib.hid (fun j hj => by
            by_cases e : j = m
            · subst e; exact h1
            · exact hk.out j (by omega)), rfl⟩
          case measure => omega
        · by_cases h3 : nth l m = k
          · have h3' : (nth l m == k) = true := by simpa using h3
            have H3 := Lib.hid h3
            clear h3
            go_wp2
            go_ret
            exact ⟨_, l, rfl, HR.out, fun x => ⟨.inl, fun h => by
              rcases h with h | h
              · exact h
              · rw [h, ← H3.out, nth_eq l m hlt]; exact List.getElem_mem _⟩, by omega, HOWN.out, Below.refl _ _⟩
          · have h3' : (nth l m == k) = false := by simpa using h3
            have H4 : Hid (m < len l → k < nth l m) := Lib.hid (fun _ => by omega)
            have HK := Lib.hid hk.out
            clear h3 hk
            have hmc : m ≤ cap := by omega
            have hml : m ≤ len l := by omega
            go_wp2_with (at_builtin; refine wpList_append_own _ rfl _ _ 23 rfl w.heap.size 37 i0 (.int .u64 0) 1 8 Tryz.underlying23 hi HZ.out hz1 hz2 rfl (by decide) _ _ _ rfl HW0.out ⟨g, 0, none⟩ _ _ (((l.drop 0).take m).map (Value.int .u64)) rfl (by rw [part_len l 0 m (by omega)]; simp) (part_news w g l HC.out 0 m (by omega)) (part_one _) (by unfold maxLen; omega) (by omega) (Nat.le_refl _) ?_)
            intro v1 w1 hown1 hgrow1 _
            have HB1 : Hid (Below w.heap.size w w1) := Lib.hid (grownBy_below (Below.refl _ _) hgrow1 (fun k hk' => by simp [Value.ownBlock] at hk'))
            have HO1 := Lib.hid hown1
            clear hown1 hgrow1
            go_wp2_with (at_builtin; refine wpList_append_own _ rfl _ _ 23 rfl w.heap.size 37 i0 (.int .u64 0) 1 8 Tryz.underlying23 hi HZ.out hz1 hz2 rfl (by decide) _ _ _ rfl (HO1.out.alloc _) ⟨w1.heap.size, 0, none⟩ 1 1 [.int .u64 k] rfl rfl (one_news _ _ _) (by intro u hu; simp at hu; subst hu; rfl) (by unfold maxLen; omega) (by omega) (by have := HB1.out.size; simp; omega) ?_)
            intro v2 w2 hown2 hgrow2 _
            have HB2 : Hid (Below w.heap.size w w2) := Lib.hid (grownBy_below (balloc HB1.out _) hgrow2 (fun k hk' => (HO1.out.lt k hk').1))
            have HO2 := Lib.hid hown2
            clear hown2 hgrow2
            have HC2 : Hid (∀ j, j < len l → w2.cell? ⟨g, j, none⟩ = some (.int .u64 (nth l j))) := Lib.hid (fun j hj => by rw [HB2.out.cell (p := ⟨g, j, none⟩) hgl]; exact HC.out j hj)
            have HE : Hid (PutIs base l k w = PutIs base l k w) := Lib.hid rfl
            by_cases hcm : cap = m
            · have hz : len l - m = 0 := by omega
              go_wp2_with (at_builtin; refine wpList_append_own _ rfl _ _ 23 rfl w.heap.size 37 i0 (.int .u64 0) 1 8 Tryz.underlying23 hi HZ.out hz1 hz2 rfl (by decide) _ _ _ rfl HO2.out _ _ _ (((l.drop m).take (len l - m)).map (Value.int .u64)) rfl (by rw [part_len l m (len l - m) (by omega)]; omega) (by intro j u hu; rw [hz] at hu; simp at hu) (part_one _) (by unfold maxLen; omega) (by omega) HB2.out.size ?_)
              intro v3 w3 hown3 hgrow3 _
              have HB3 : Hid (Below w.heap.size w w3) := Lib.hid (grownBy_below HB2.out hgrow3 (fun k hk' => (HO2.out.lt k hk').1))
              have HO3 := Lib.hid hown3
              clear hown3 hgrow3
              go_wp2
              go_ret
              exact put_end hml HR.out HK.out H4.out hbase (put_xs1 l k m hz) HO3.out HB3.out
            · have hcm2 : m < cap := by omega
              go_wp2_with (at_builtin; refine wpList_append_own _ rfl _ _ 23 rfl w.heap.size 37 i0 (.int .u64 0) 1 8 Tryz.underlying23 hi HZ.out hz1 hz2 rfl (by decide) _ _ _ rfl HO2.out ⟨g, m, none⟩ _ _ (((l.drop m).take (len l - m)).map (Value.int .u64)) rfl (by rw [part_len l m (len l - m) (by omega)]; omega) (part_news w2 g l HC2.out m (len l - m) (by omega)) (part_one _) (by unfold maxLen; omega) (by omega) HB2.out.size ?_)
              intro v3 w3 hown3 hgrow3 _
              have HB3 : Hid (Below w.heap.size w w3) := Lib.hid (grownBy_below HB2.out hgrow3 (fun k hk' => (HO2.out.lt k hk').1))
              have HO3 := Lib.hid hown3
              clear hown3 hgrow3
              go_wp2
              go_ret
              exact put_end hml HR.out HK.out H4.out hbase (put_xs2 l k m) HO3.out HB3.out
      · have H4 : Hid (m < len l → k < nth l m) := Lib.hid (fun h => absurd h hlt)
        have HK := Lib.hid hk.out
        clear hk
        have hmc : m ≤ cap := by omega
        have hml : m ≤ len l := by omega
        go_wp2_with (at_builtin; refine wpList_append_own _ rfl _ _ 23 rfl w.heap.size 37 i0 (.int .u64 0) 1 8 Tryz.underlying23 hi HZ.out hz1 hz2 rfl (by decide) _ _ _ rfl HW0.out ⟨g, 0, none⟩ _ _ (((l.drop 0).take m).map (Value.int .u64)) rfl (by rw [part_len l 0 m (by omega)]; simp) (part_news w g l HC.out 0 m (by omega)) (part_one _) (by unfold maxLen; omega) (by omega) (Nat.le_refl _) ?_)
        intro v1 w1 hown1 hgrow1 _
        have HB1 : Hid (Below w.heap.size w w1) := Lib.hid (grownBy_below (Below.refl _ _) hgrow1 (fun k hk' => by simp [Value.ownBlock] at hk'))
        have HO1 := Lib.hid hown1
        clear hown1 hgrow1
        go_wp2_with (at_builtin; refine wpList_append_own _ rfl _ _ 23 rfl w.heap.size 37 i0 (.int .u64 0) 1 8 Tryz.underlying23 hi HZ.out hz1 hz2 rfl (by decide) _ _ _ rfl (HO1.out.alloc _) ⟨w1.heap.size, 0, none⟩ 1 1 [.int .u64 k] rfl rfl (one_news _ _ _) (by intro u hu; simp at hu; subst hu; rfl) (by unfold maxLen; omega) (by omega) (by have := HB1.out.size; simp; omega) ?_)
        intro v2 w2 hown2 hgrow2 _
        have HB2 : Hid (Below w.heap.size w w2) := Lib.hid (grownBy_below (balloc HB1.out _) hgrow2 (fun k hk' => (HO1.out.lt k hk').1))
        have HO2 := Lib.hid hown2
        clear hown2 hgrow2
        have HC2 : Hid (∀ j, j < len l → w2.cell? ⟨g, j, none⟩ = some (.int .u64 (nth l j))) := Lib.hid (fun j hj => by rw [HB2.out.cell (p := ⟨g, j, none⟩) hgl]; exact HC.out j hj)
        have HE : Hid (PutIs base l k w = PutIs base l k w) := Lib.hid rfl
        by_cases hcm : cap = m
        · have hz : len l - m = 0 := by omega
          go_wp2_with (at_builtin; refine wpList_append_own _ rfl _ _ 23 rfl w.heap.size 37 i0 (.int .u64 0) 1 8 Tryz.underlying23 hi HZ.out hz1 hz2 rfl (by decide) _ _ _ rfl HO2.out _ _ _ (((l.drop m).take (len l - m)).map (Value.int .u64)) rfl (by rw [part_len l m (len l - m) (by omega)]; omega) (by intro j u hu; rw [hz] at hu; simp at hu) (part_one _) (by unfold maxLen; omega) (by omega) HB2.out.size ?_)
          intro v3 w3 hown3 hgrow3 _
          have HB3 : Hid (Below w.heap.size w w3) := Lib.hid (grownBy_below HB2.out hgrow3 (fun k hk' => (HO2.out.lt k hk').1))
          have HO3 := Lib.hid hown3
          clear hown3 hgrow3
          go_wp2
          go_ret
          exact put_end hml HR.out HK.out H4.out hbase (put_xs1 l k m hz) HO3.out HB3.out
        · have hcm2 : m < cap := by omega
          go_wp2_with (at_builtin; refine wpList_append_own _ rfl _ _ 23 rfl w.heap.size 37 i0 (.int .u64 0) 1 8 Tryz.underlying23 hi HZ.out hz1 hz2 rfl (by decide) _ _ _ rfl HO2.out ⟨g, m, none⟩ _ _ (((l.drop m).take (len l - m)).map (Value.int .u64)) rfl (by rw [part_len l m (len l - m) (by omega)]; omega) (part_news w2 g l HC2.out m (len l - m) (by omega)) (part_one _) (by unfold maxLen; omega) (by omega) HB2.out.size ?_)
          intro v3 w3 hown3 hgrow3 _
          have HB3 : Hid (Below w.heap.size w w3) := Lib.hid (grownBy_below HB2.out hgrow3 (fun k hk' => (HO2.out.lt k hk').1))
          have HO3 := Lib.hid hown3
          clear hown3 hgrow3
          go_wp2
          go_ret
          exact put_end hml HR.out HK.out H4.out hbase (put_xs2 l k m) HO3.out HB3.out
end Go.Proofs.YtoafjbillcooiaaGreat
