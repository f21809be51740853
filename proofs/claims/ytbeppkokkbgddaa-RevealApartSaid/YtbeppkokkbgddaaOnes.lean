/- Sets of numbers as maps of ones; slots' Total, Len, Sum; slices of rows. -/
import Derived.Test.YtbeppkokkbgddaaChs
namespace Go.Proofs.Ytbeppkokkbgddaa
open Go.RowKit Go.ChangeMaps
set_option linter.unusedSimpArgs false
set_option linter.unusedVariables false

/-- A set as a map of ones. -/
def kone (ks : List Int) : List (Int × Value) := ks.map fun k => (k, .int .i64 1)
theorem kone_put (ks : List Int) (k : Int) : mPut (kone ks) k (.int .i64 1) = kone (insK ks k) := by
  induction ks with
  | nil => rfl
  | cons x r ih =>
    have e : kone (x :: r) = (x, .int .i64 1) :: kone r := rfl
    rw [e, mPut]
    by_cases h : x = k
    · subst h; rw [if_pos rfl]; unfold insK; rw [if_pos (List.mem_cons_self ..)]; rfl
    · rw [if_neg h, ih]
      have h' : ¬ k = x := fun e => h e.symm
      by_cases h2 : k ∈ r
      · unfold insK; rw [if_pos h2, if_pos (List.mem_cons_of_mem _ h2)]; rfl
      · unfold insK; rw [if_neg h2, if_neg (by simp [h', h2])]; simp [kone]
theorem kone_look (ks : List Int) (k : Int) : (mGet (kone ks) k).getD (.int .i64 0) = .int .i64 (if k ∈ ks then 1 else 0) := by
  induction ks with
  | nil => simp [kone, mGet]
  | cons x r ih =>
    have e : kone (x :: r) = (x, .int .i64 1) :: kone r := rfl
    rw [e]
    unfold mGet
    rw [List.find?_cons]
    by_cases h : x = k
    · subst h; simp
    · have h1 : (x == k) = false := by simpa using h
      have h' : ¬ k = x := fun e => h e.symm
      simp only [h1]
      unfold mGet at ih
      rw [ih]
      simp [h']
/-- A set of numbers as it lies in the heap. -/
def SetO (w : World) (b : Nat) (ks : List Int) : Prop := w.heap[b]? = some (mObj .u64 0 (kone ks))
theorem SetO.keep {w w' : World} {b : Nat} {ks : List Int} (h : SetO w b ks) (hk : w'.heap[b]? = w.heap[b]?) : SetO w' b ks := hk.trans h
theorem SetO.below {w w' : World} {b : Nat} {ks : List Int} (h : SetO w b ks) (hk : Below w.heap.size w w') : SetO w' b ks := (hk.block _ (lt_of_block h)).trans h
theorem SetO.put {w : World} {b : Nat} {ks : List Int} (h : SetO w b ks) (k : Int) : SetO (setBlock w b (mObj .u64 0 (mPut (kone ks) k (.int .i64 1)))) b (insK ks k) := by
  unfold SetO; rw [← kone_put]; exact setBlock_same h
theorem SetO.new (w : World) : SetO (w.alloc (.map #[] 0)) w.heap.size [] := heap_alloc_new _ _
theorem SetO.look {w : World} {b : Nat} {ks : List Int} (h : SetO w b ks) {k : Int} (hk : k ∈ ks) : (Instr.lookup 58 (.map (some b)) (.int .u64 k) false).run Try.prog w = .ok (.int .i64 1) w := by
  have := run_lookup_m (P := Try.prog) (t := 58) (K := 22) (E := 3) Try.underlying58 Try.underlying22 (Try.zeroValue3 w) h k
  rw [this, kone_look, if_pos hk]
theorem SetO.size {w : World} {b : Nat} {ks : List Int} (h : SetO w b ks) : ∃ es c, w.heap[b]? = some (.map es c) ∧ es.size = ks.length :=
  ⟨_, _, h, by simp [ents_length, kone]⟩

set_option maxRecDepth 100000 in
theorem total_any (B : Nat) (E W S : List Int) (n : Nat) (w : World) (hl : LayB w B E W S) (hS : len S = n + 1) (hn : n ≤ 100000) :
    Calls Try.prog 36 #[.pointer (some ⟨B, 0, none⟩)] w fun e w' => e = .returned (.int .u64 (nth S n)) ∧ Drew w w' := by
  obtain ⟨ea, wa, sa, ec, wc, sc, h1, h2, h3, h4⟩ := hl
  obtain ⟨b, off, rfl, cs⟩ := h4 n (by omega)
  have c2 := block_cell h1 2
  simp only [layCells, List.getElem?_toArray, List.getElem?_cons_zero, List.getElem?_cons_succ, hS] at c2
  have e1 : ((n + 1 : Nat) : Int) - 1 = (n : Int) := by omega
  obtain ⟨m, hm⟩ : ∃ m, n + 1 = m := ⟨_, rfl⟩
  rw [hm] at c2 e1
  have hlt : (n : Int) < m := by omega
  clear h1 h2 h3 h4 hS
  go_enter Try.func36, Try.ntmps36
  go_wp2_with fail
  go_quiet (fail)
  go_wp2
  go_ret
  exact ⟨rfl, by first | exact Drew.refl w | exact (Drew.refl w).drewN _⟩
set_option maxRecDepth 100000 in
theorem len_any (B : Nat) (E W S : List Int) (n : Nat) (w : World) (hl : LayB w B E W S) (hS : len S = n + 1) (hn : n ≤ 100000) :
    Calls Try.prog 58 #[.pointer (some ⟨B, 0, none⟩)] w fun e w' => e = .returned (.int .i64 n) ∧ w = w' := by
  obtain ⟨ea, wa, sa, ec, wc, sc, h1, h2, h3, h4⟩ := hl
  have c2 := block_cell h1 2
  simp only [layCells, List.getElem?_toArray, List.getElem?_cons_zero, List.getElem?_cons_succ, hS] at c2
  have e1 : ((n + 1 : Nat) : Int) - 1 = (n : Int) := by omega
  obtain ⟨m, hm⟩ : ∃ m, n + 1 = m := ⟨_, rfl⟩
  rw [hm] at c2 e1
  clear h1 h2 h3 h4 hS
  go_enter Try.func58, Try.ntmps58
  go_wp2
  go_ret
  exact ⟨rfl, rfl⟩
set_option maxRecDepth 100000 in
theorem sum_any (B : Nat) (E W S : List Int) (n k : Nat) (w : World) (hl : LayB w B E W S) (hS : len S = n + 1) (hn : n ≤ 100000) (hk : k < n) :
    Calls Try.prog 37 #[.pointer (some ⟨B, 0, none⟩), .int .u64 k] w fun e w' => e = .returned (.tuple #[.int .u64 (nth S k), .bool true]) ∧ w = w' := by
  have HL := Lib.hid (len_any B E W S n w hl hS hn)
  obtain ⟨ea, wa, sa, ec, wc, sc, h1, h2, h3, h4⟩ := hl
  obtain ⟨b, off, rfl, cs⟩ := h4 k (by omega)
  have c2 := block_cell h1 2
  simp only [layCells, List.getElem?_toArray, List.getElem?_cons_zero, List.getElem?_cons_succ, hS] at c2
  obtain ⟨m, hm⟩ : ∃ m, n + 1 = m := ⟨_, rfl⟩
  rw [hm] at c2
  have i1 : (k : Int) < m := by omega
  have i2 : ¬ (n : Int) ≤ k := by omega
  have i3 : IntKind.u64.wrap (n : Int) = n := IntWalk.u64_in _ (by omega)
  clear h1 h2 h3 h4 hS hm
  go_enter Try.func37, Try.ntmps37
  go_wp2_with fail
  refine HL.out.mono ?_
  rintro e w' ⟨rfl, rfl⟩
  go_wp2
  go_ret2
  exact ⟨rfl, rfl⟩

theorem rows_take {w : World} {a : Option Addr} {l : List (Int × Bool)} (h : RowsB w a l) (k : Nat) : RowsB w a (l.take k) := fun i hi => by
  have hi2 : i < k ∧ i < l.length := by rw [len_eq, List.length_take] at hi; omega
  obtain ⟨b, off, e, hc, hd⟩ := h i hi2.2
  have hi3 : i < (l.take k).length := hi
  have e2 : rth (l.take k) i = rth l i := by rw [rth_eq _ i hi3, rth_eq l i hi2.2, List.getElem_take]
  exact ⟨b, off, e, by rw [e2]; exact hc, by rw [e2]; exact hd⟩
set_option maxRecDepth 100000 in
theorem slice_rows {n c k : Nat} (b0 : Option Addr) (hk : k ≤ c) (W : World) : (Instr.slice 39 (.slice b0 n c) none (some (.int .i64 (k : Int))) none).run Try.prog W = .ok (.slice b0 k c) W := by
  have hsz : (sizeOf (Try.prog.elem 39)).run Try.prog W = .ok 2 W := by kernel_rfl
  rw [run_slice_h (P := Try.prog) W 39 b0 n c Try.underlying39 .i64 (k : Int) (by omega) (by omega), hsz]
  simp only [Result.andThen, sliced, Int.toNat_natCast, Nat.sub_zero, Nat.zero_mul]
  have e : (b0.map (·.add 0)) = b0 := by cases b0 <;> simp [Addr.add]
  rw [e]
  split <;> rfl

/-- A number falls into a weight by its sum just where it falls. -/
theorem falls_law {Ws : List Int} (h : Wts Ws) {Ss : List Bool} {c : Int} {k : Nat} (h0 : 0 ≤ c) (h1 : c < smK Ws Ss (len Ws)) (hk : k < len Ws) (hs : sg Ss k = true) :
    fallsB c (smK Ws Ss k) (nth Ws k) = true ↔ fallN (endK Ws Ss (len Ws)) (whoK Ss (len Ws)) c = k := by
  obtain ⟨m, hm, hsm, a, b⟩ := fall_some h0 h1
  have hf := (fall_at h (Nat.le_refl _) hm hsm a b).2
  unfold fallsB
  rw [decide_eq_true_eq]
  constructor
  · rintro ⟨x, y⟩
    exact (fall_at h (Nat.le_refl _) hk hs x (by rw [smK_on hs]; omega)).2
  · intro e
    rw [hf] at e
    obtain rfl : m = k := by omega
    rw [smK_on hsm] at b
    exact ⟨a, by omega⟩
end Go.Proofs.Ytbeppkokkbgddaa
