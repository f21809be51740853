/- Package layout: the levels of a tree, handed over one by one. -/
import Derived.Test.YtbeppkokkbgddaaKeys
import Derived.Test.YtbeppkokkbgddaaOwn
namespace Go.Proofs.Ytbeppkokkbgddaa
open Go.RowKit Go.ChangeMaps
set_option linter.unusedSimpArgs false
set_option linter.unusedVariables false
attribute [local go_sem] Oper.semAt_some

theorem parent_any (k : Int) (w : World) (h0 : 0 ≤ k) (h1 : k ≤ 18446744073709551615) : Calls Try.prog 20 #[.int .u64 k] w fun e w' => e = .returned (.int .u64 (k / 2)) ∧ w' = w := by
  go_enter Try.func20, Try.ntmps20
  go_wp2
  go_ret
  refine ⟨ret_int ?_, rfl⟩
  obtain ⟨n, rfl⟩ := Int.eq_ofNat_of_zero_le h0
  rfl

/-- A set of all of a list. -/
def insAll (l : List Int) : List Int := l.foldl insK []
theorem insAll_snoc (l : List Int) (k : Int) : insAll (l ++ [k]) = insK (insAll l) k := by simp [insAll, List.foldl_append]
theorem insAll_all (l : List Int) : (insAll l).Nodup ∧ (∀ k, k ∈ insAll l ↔ k ∈ l) ∧ (insAll l).length ≤ l.length := by
  have gen : ∀ (l m : List Int), m.Nodup → (l.foldl insK m).Nodup ∧ (∀ k, k ∈ l.foldl insK m ↔ k ∈ m ∨ k ∈ l) ∧ (l.foldl insK m).length ≤ m.length + l.length := by
    intro l
    induction l with
    | nil => intro m hm; exact ⟨hm, fun k => by simp, by simp⟩
    | cons x r ih =>
      intro m hm
      obtain ⟨h1, h2, h3⟩ := ih (insK m x) (insK_nodup hm x)
      refine ⟨h1, fun k => ?_, ?_⟩
      · rw [List.foldl_cons, h2, insK_mem, List.mem_cons, or_assoc]
      · have := insK_len m x
        rw [List.foldl_cons, List.length_cons]; omega
  obtain ⟨h1, h2, h3⟩ := gen l [] List.nodup_nil
  exact ⟨h1, fun k => by simpa [insAll] using h2 k, by simpa [insAll] using h3⟩

/-- A level: a map's block and base, and its keys. -/
abbrev Lev := Nat × Nat × List Int
def U64 (k : Int) : Prop := 0 ≤ k ∧ k ≤ 18446744073709551615
/-- What is told of a level when it is handed over. -/
def LevIs (N : Nat) (x : Lev) (w : World) : Prop := w.heap[x.1]? = some (mObj .u64 x.2.1 (kv x.2.2)) ∧ x.2.2.Nodup ∧ x.2.2.length ≤ N ∧ ∀ k ∈ x.2.2, U64 k
/-- The keys of the level i over these leaves. -/
def LevOf (leaves : List Int) (i : Nat) (ks : List Int) : Prop := ∀ k, k ∈ ks ↔ ∃ j ∈ leaves, k = j / 2 ^ i
def LevsOf (leaves : List Int) (d : Nat) (xs : List Lev) : Prop := xs.length = d ∧ ∀ i, ∀ h : i < xs.length, LevOf leaves i xs[i].2.2

theorem LevIs.putObj {N : Nat} {x : Lev} {W : World} {l : Nat} {r : Loop} (o' : Obj) (h : LevIs N x W) (hl : W.heap[l]? = some (.loop r)) : LevIs N x (W.putObj l o') := by
  refine ⟨?_, h.2⟩
  rw [World.putObj_heap_other (fun e => by have := h.1; rw [e, hl] at this; unfold mObj at this; cases this)]
  exact h.1
theorem LevsOf.snoc {leaves : List Int} {d : Nat} {xs : List Lev} {x : Lev} (h : LevsOf leaves d xs) (hx : LevOf leaves d x.2.2) : LevsOf leaves (d + 1) (xs ++ [x]) := by
  refine ⟨by simp [h.1], fun i hi => ?_⟩
  by_cases hlt : i < xs.length
  · rw [List.getElem_append_left hlt]; exact h.2 i hlt
  · have e : i = xs.length := by simp at hi; omega
    subst e
    rw [List.getElem_append_right (Nat.le_refl _)]
    simpa [h.1] using hx
theorem LevOf.next {leaves ks nx : List Int} {i : Nat} (h : LevOf leaves i ks) (hn : ∀ k, k ∈ nx ↔ ∃ j ∈ ks, k = j / 2) : LevOf leaves (i + 1) nx := fun k => by
  have e : ∀ j : Int, j / 2 ^ (i + 1) = j / 2 ^ i / 2 := fun j => by
    rw [Int.pow_succ, Int.ediv_ediv_of_nonneg (by exact Int.le_of_lt (Int.pow_pos (by decide)))]
  rw [hn]
  constructor
  · rintro ⟨j, hj, rfl⟩
    obtain ⟨m, hm, rfl⟩ := (h j).1 hj
    exact ⟨m, hm, (e m).symm⟩
  · rintro ⟨m, hm, rfl⟩
    exact ⟨m / 2 ^ i, (h _).2 ⟨m, hm, rfl⟩, e m⟩

/-- The next level, as far as the keys have come. -/
def Halved (ks : List Int) (nb : Nat) (seen : Array Nat) (nx : List Int) : Prop := nx.Nodup ∧ ∀ k, k ∈ nx ↔ ∃ i, ∃ h : i < ks.length, nb + i ∈ seen ∧ k = ks[i] / 2
theorem Halved.start (ks : List Int) (nb : Nat) : Halved ks nb #[] [] := ⟨List.nodup_nil, fun k => by simp⟩
theorem Halved.step {ks : List Int} {nb : Nat} {seen : Array Nat} {nx : List Int} (h : Halved ks nb seen nx) {i : Nat} (hi : i < ks.length) : Halved ks nb (seen.push (nb + i)) (insK nx (ks[i] / 2)) := by
  refine ⟨insK_nodup h.1 _, fun k => ?_⟩
  rw [insK_mem, h.2]
  constructor
  · rintro (⟨j, hj, hs, e⟩ | rfl)
    · exact ⟨j, hj, Array.mem_push.2 (.inl hs), e⟩
    · exact ⟨i, hi, Array.mem_push.2 (.inr rfl), rfl⟩
  · rintro ⟨j, hj, hs, e⟩
    rcases Array.mem_push.1 hs with hs | he
    · exact .inl ⟨j, hj, hs, e⟩
    · have : j = i := by omega
      subst this; exact .inr e
theorem Halved.done {ks : List Int} {nb : Nat} {seen : Array Nat} {nx : List Int} (h : Halved ks nb seen nx) (ha : ∀ i, i < (kv ks).length → nb + i ∈ seen) : ∀ k, k ∈ nx ↔ ∃ j ∈ ks, k = j / 2 := fun k => by
  rw [h.2]
  constructor
  · rintro ⟨i, hi, _, e⟩; exact ⟨_, List.getElem_mem hi, e⟩
  · rintro ⟨j, hj, e⟩
    obtain ⟨i, hi, rfl⟩ := List.getElem_of_mem hj
    exact ⟨i, hi, ha i (by rw [kv_len]; exact hi), e⟩
theorem halved_len {ks nx : List Int} (hn : nx.Nodup) (h : ∀ k, k ∈ nx ↔ ∃ j ∈ ks, k = j / 2) : nx.length ≤ ks.length := by
  have := nodup_len nx (ks.map (· / 2)) hn (fun x hx => by obtain ⟨j, hj, e⟩ := (h x).1 hx; exact List.mem_map.2 ⟨j, hj, e.symm⟩)
  simpa using this
theorem halved_u64 {ks nx : List Int} (hu : ∀ k ∈ ks, U64 k) (h : ∀ k, k ∈ nx ↔ ∃ j ∈ ks, k = j / 2) : ∀ k ∈ nx, U64 k := fun k hk => by
  obtain ⟨j, hj, rfl⟩ := (h k).1 hk
  have := hu j hj
  unfold U64 at *; omega

theorem setBlock_other {w : World} {b c : Nat} {o : Obj} (h : c ≠ b) : (setBlock w b o).heap[c]? = w.heap[c]? := by
  show (w.heap.setIfInBounds b o)[c]? = _
  rw [Array.getElem?_setIfInBounds_ne (Ne.symm h)]
theorem setBlock_same {w : World} {b : Nat} {o o' : Obj} (h : w.heap[b]? = some o') : (setBlock w b o).heap[b]? = some o := by
  have := lt_of_block h
  show (w.heap.setIfInBounds b o)[b]? = _
  simp [this]
theorem setBlock_grown (w : World) (b : Nat) (o : Obj) : w.grownBy (setBlock w b o) (some b) :=
  ⟨rfl, rfl, rfl, by simp [setBlock], fun k _ hn => setBlock_other (fun e => hn (by rw [e]))⟩
theorem setBlock_size (w : World) (b : Nat) (o : Obj) : (setBlock w b o).heap.size = w.heap.size := by simp [setBlock]
theorem setBlock_below {w wr : World} {b : Nat} {o : Obj} (h : Below w.heap.size w wr) (hb : w.heap.size ≤ b) : Below w.heap.size w (setBlock wr b o) :=
  h.grown (setBlock_grown wr b o) h.size (fun k e => by cases e; exact hb)

/-- A step of the levels' own: a map of theirs is turned, or a map's walk. -/
theorem abides_set {β : Type} {B : Nat} {J : β → World → Prop} (hJ : AbidesFrom B J) {s : β} {w : World} {b : Nat} {o o' : Obj} (h : J s w) (hB : B ≤ b) (ho : w.heap[b]? = some o) (hw : o.isWalk = true) : J s (setBlock w b o') :=
  hJ _ _ _ (some b) h (setBlock_grown w b o') (fun r e => by cases e; exact ⟨hB, o, ho, hw⟩)
theorem abides_alloc {β : Type} {B : Nat} {J : β → World → Prop} (hJ : AbidesFrom B J) {s : β} {w : World} (o : Obj) (h : J s w) : J s (w.alloc o) := hJ _ _ _ none h (World.grownBy_alloc _ _ _) (fun r e => by cases e)
end Go.Proofs.Ytbeppkokkbgddaa
