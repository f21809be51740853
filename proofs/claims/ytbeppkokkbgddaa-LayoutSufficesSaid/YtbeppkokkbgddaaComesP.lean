/- The statement LayoutSuffices: the plain law. -/
import Derived.Test.YtbeppkokkbgddaaRefNB
namespace Go.Proofs.Ytbeppkokkbgddaa
set_option linter.unusedSimpArgs false
set_option linter.unusedVariables false

/-- How many needed places stand ahead of a level. -/
def cnt (rs : List (List Int)) : Nat → Nat
  | 0 => 0
  | i + 1 => cnt rs i + len (rnth rs i)
/-- A level's places: the known ones, and those that are handed over but one. -/
def AddP (K : Int → Prop) (rs : List (List Int)) (but : Int) (i : Nat) (y : Int) : Prop := K y ∨ ∃ j, j < len (rnth rs i) ∧ ((cnt rs i + j : Nat) : Int) ≠ but ∧ nth (rnth rs i) j = y
def KnP (leaves : List Int) (rs : List (List Int)) (d : Nat) (but : Int) : Nat → Int → Prop
  | 0, x => x ∈ leaves
  | i + 1, x => (0 ≤ x ∧ 2 * x < 2 ^ (d - i)) ∧ AddP (KnP leaves rs d but i) rs but i (2 * x) ∧ AddP (KnP leaves rs d but i) rs but i (2 * x + 1)
def LevP (leaves : List Int) (i : Nat) (x : Int) : Prop := ∃ j ∈ leaves, x = j / 2 ^ i

theorem half_pow (j : Int) (i : Nat) : j / 2 ^ i / 2 = j / 2 ^ (i + 1) := by
  rw [Int.pow_succ, Int.ediv_ediv_of_nonneg (Int.pow_nonneg (by decide))]
theorem lev_next (leaves : List Int) (i : Nat) (x : Int) : LevP leaves (i + 1) x ↔ LevP leaves i (2 * x) ∨ LevP leaves i (2 * x + 1) := by
  constructor
  · rintro ⟨j, hj, rfl⟩
    have h := half_pow j i
    rcases (show j / 2 ^ i % 2 = 0 ∨ j / 2 ^ i % 2 = 1 by omega) with h2 | h2
    · exact .inl ⟨j, hj, by omega⟩
    · exact .inr ⟨j, hj, by omega⟩
  · rintro (⟨j, hj, e⟩ | ⟨j, hj, e⟩)
    · exact ⟨j, hj, by have := half_pow j i; omega⟩
    · exact ⟨j, hj, by have := half_pow j i; omega⟩
theorem lev_half {leaves : List Int} {i : Nat} {z : Int} (h : LevP leaves i z) : LevP leaves (i + 1) (z / 2) := by
  obtain ⟨j, hj, rfl⟩ := h
  exact ⟨j, hj, half_pow j i⟩
theorem lev_nonneg {leaves : List Int} (h0 : ∀ k ∈ leaves, 0 ≤ k) {i : Nat} {x : Int} (h : LevP leaves i x) : 0 ≤ x := by
  obtain ⟨j, hj, rfl⟩ := h
  exact Int.ediv_nonneg (h0 j hj) (Int.pow_nonneg (by decide))

/-- What is needed of a level. -/
def RowP (leaves : List Int) (rs : List (List Int)) (d : Nat) : Prop := ∀ i, i < d → (∀ y, y ∈ rnth rs i ↔ (∃ z, LevP leaves i z ∧ y = sib z) ∧ ¬ LevP leaves i y) ∧ (rnth rs i).Nodup
theorem rowP_of (leaves : List Int) (d : Nat) : RowP leaves (rowsOf leaves d) d := by
  intro i hi
  have hlev : ∀ k, k ∈ insAll (leaves.map (· / 2 ^ i)) ↔ LevP leaves i k := fun k => by
    rw [(insAll_all _).2.1, List.mem_map]
    constructor
    · rintro ⟨j, hj, e⟩; exact ⟨j, hj, e.symm⟩
    · rintro ⟨j, hj, e⟩; exact ⟨j, hj, e.symm⟩
  have e : rnth (rowsOf leaves d) i = rowK (insAll (leaves.map (· / 2 ^ i))) := by
    rw [rnth_eq _ i (by simp [rowsOf, hi])]; simp [rowsOf]
  rw [e]
  refine ⟨fun y => ?_, srt_nodup (needK_nodup _)⟩
  unfold rowK
  rw [srt_mem, needK_mem, hlev]
  constructor
  · rintro ⟨⟨j, hj, e⟩, h⟩; exact ⟨⟨j, (hlev j).1 hj, e⟩, h⟩
  · rintro ⟨⟨j, hj, e⟩, h⟩; exact ⟨⟨j, (hlev j).2 hj, e⟩, h⟩

section
variable {leaves : List Int} {rs : List (List Int)} {d : Nat}
theorem sound (h0 : ∀ k ∈ leaves, 0 ≤ k) (hr : RowP leaves rs d) (but : Int) : ∀ i, i ≤ d → ∀ x, KnP leaves rs d but i x → LevP leaves i x
  | 0, _, x, h => ⟨x, h, by simp⟩
  | i + 1, hi, x, h => by
    obtain ⟨_, h1, _⟩ := h
    rw [lev_next]
    rcases h1 with h1 | ⟨j, hj, _, e⟩
    · exact .inl (sound h0 hr but i (by omega) _ h1)
    · have hm : 2 * x ∈ rnth rs i := by rw [← e, nth_eq _ j hj]; exact List.getElem_mem _
      obtain ⟨⟨z, hz, e2⟩, _⟩ := ((hr i (by omega)).1 _).1 hm
      have hz0 := lev_nonneg h0 hz
      have : z = 2 * x + 1 := by unfold sib at e2; split at e2 <;> omega
      subst this
      exact .inr hz
theorem whole_all (h0 : ∀ k ∈ leaves, 0 ≤ k) (hb : ∀ k ∈ leaves, k < 2 ^ d) (hr : RowP leaves rs d) : ∀ i, i ≤ d → ∀ x, LevP leaves i x → KnP leaves rs d (-1) i x
  | 0, _, x, h => by
    obtain ⟨j, hj, e⟩ := h
    have : x = j := by simpa using e
    subst this; exact hj
  | i + 1, hi, x, h => by
    have hx0 := lev_nonneg h0 h
    have hadd : ∀ y, 0 ≤ y → (LevP leaves i y ∨ LevP leaves i (sib y)) → AddP (KnP leaves rs d (-1) i) rs (-1) i y := by
      intro y hy hl
      by_cases hy2 : LevP leaves i y
      · exact .inl (whole_all h0 hb hr i (by omega) y hy2)
      · have hs := hl.resolve_left hy2
        have hm : y ∈ rnth rs i := ((hr i (by omega)).1 y).2 ⟨⟨sib y, hs, by unfold sib; repeat (first | omega | split)⟩, hy2⟩
        obtain ⟨j, hj, e⟩ := List.getElem_of_mem hm
        exact .inr ⟨j, hj, by omega, by rw [nth_eq _ j hj]; exact e⟩
    have hl := (lev_next leaves i x).1 h
    have s1 : sib (2 * x) = 2 * x + 1 := by unfold sib; split <;> omega
    have s2 : sib (2 * x + 1) = 2 * x := by unfold sib; split <;> omega
    refine ⟨⟨hx0, ?_⟩, hadd _ (by omega) (by rw [s1]; exact hl), hadd _ (by omega) (by rw [s2]; exact hl.symm)⟩
    have key : ∀ y, LevP leaves i y → y < 2 ^ (d - i) := by
      rintro y ⟨j, hj, rfl⟩
      refine Int.ediv_lt_of_lt_mul (Int.pow_pos (by decide)) ?_
      rw [← Int.pow_add, show d - i + i = d by omega]
      exact hb j hj
    rcases hl with h1 | h1
    · exact key _ h1
    · have := key _ h1; omega
theorem lev_top (h0 : ∀ k ∈ leaves, 0 ≤ k) (hb : ∀ k ∈ leaves, k < 2 ^ d) {z : Int} (h : LevP leaves d z) : z = 0 := by
  obtain ⟨j, hj, rfl⟩ := h
  exact Int.ediv_eq_zero_of_lt (h0 j hj) (hb j hj)
theorem comes_all (h0 : ∀ k ∈ leaves, 0 ≤ k) (hb : ∀ k ∈ leaves, k < 2 ^ d) (hr : RowP leaves rs d) (hne : 0 < len leaves) : KnP leaves rs d (-1) d 0 := by
  refine whole_all h0 hb hr d (Nat.le_refl _) 0 ⟨leaves[0], List.getElem_mem hne, ?_⟩
  exact (Int.ediv_eq_zero_of_lt (h0 _ (List.getElem_mem hne)) (hb _ (List.getElem_mem hne))).symm
theorem cnt_find (but : Nat) : ∀ d, but < cnt rs d → ∃ i j, i < d ∧ j < len (rnth rs i) ∧ but = cnt rs i + j
  | 0, h => by simp [cnt] at h
  | d + 1, h => by
    by_cases h2 : but < cnt rs d
    · obtain ⟨i, j, h3, h4, h5⟩ := cnt_find but d h2
      exact ⟨i, j, by omega, h4, h5⟩
    · exact ⟨d, but - cnt rs d, by omega, by simp only [cnt] at h; omega, by omega⟩
theorem not_next {but : Int} {i : Nat} {z : Int} (h : ¬ AddP (KnP leaves rs d but i) rs but i z) : ¬ KnP leaves rs d but (i + 1) (z / 2) := by
  rintro ⟨_, h1, h2⟩
  rcases (show z % 2 = 0 ∨ z % 2 = 1 by omega) with h3 | h3
  · exact h (by rw [show z = 2 * (z / 2) by omega]; exact h1)
  · exact h (by rw [show z = 2 * (z / 2) + 1 by omega]; exact h2)
theorem misses (h0 : ∀ k ∈ leaves, 0 ≤ k) (hr : RowP leaves rs d) (but : Int) : ∀ t i z, i + t = d → LevP leaves i z → ¬ KnP leaves rs d but i z → ∃ z', LevP leaves d z' ∧ ¬ KnP leaves rs d but d z'
  | 0, i, z, hi, h1, h2 => by
    obtain rfl : i = d := by omega
    exact ⟨z, h1, h2⟩
  | t + 1, i, z, hi, h1, h2 => by
    refine misses h0 hr but t (i + 1) (z / 2) (by omega) (lev_half h1) (not_next ?_)
    rintro (h | ⟨j, hj, _, e⟩)
    · exact h2 h
    · have hm : z ∈ rnth rs i := by rw [← e, nth_eq _ j hj]; exact List.getElem_mem _
      exact (((hr i (by omega)).1 _).1 hm).2 h1
theorem comes_not (h0 : ∀ k ∈ leaves, 0 ≤ k) (hb : ∀ k ∈ leaves, k < 2 ^ d) (hr : RowP leaves rs d) (but : Nat) (hbut : but < cnt rs d) : ¬ KnP leaves rs d (but : Int) d 0 := by
  obtain ⟨i, j, hi, hj, e⟩ := cnt_find but d hbut
  have hm : nth (rnth rs i) j ∈ rnth rs i := by rw [nth_eq _ j hj]; exact List.getElem_mem _
  obtain ⟨s, hs⟩ : ∃ s, nth (rnth rs i) j = s := ⟨_, rfl⟩
  rw [hs] at hm
  obtain ⟨⟨z, hz, e2⟩, hn⟩ := ((hr i hi).1 _).1 hm
  have hz0 := lev_nonneg h0 hz
  have h1 : ¬ AddP (KnP leaves rs d but i) rs but i s := by
    rintro (h | ⟨k, hk, hne, e3⟩)
    · exact hn (sound h0 hr but i (by omega) s h)
    · rw [nth_eq _ k hk] at e3
      rw [nth_eq _ j hj] at hs
      have := nodup_inj (hr i hi).2 (e3.trans hs.symm)
      subst this
      exact hne (by rw [e])
  have h2 : s / 2 = z / 2 := by unfold sib at e2; split at e2 <;> omega
  obtain ⟨z', h3, h4⟩ := misses h0 hr but (d - (i + 1)) (i + 1) (s / 2) (by omega) (by rw [h2]; exact lev_half hz) (not_next h1)
  rw [lev_top h0 hb h3] at h4
  exact h4
end
end Go.Proofs.Ytbeppkokkbgddaa
