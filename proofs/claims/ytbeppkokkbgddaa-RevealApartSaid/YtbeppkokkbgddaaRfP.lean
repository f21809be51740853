/- Plain law: into which position a number falls, told by the sums ahead. -/
import Derived.Test.YtbeppkokkbgddaaRvQ
namespace Go.Proofs.Ytbeppkokkbgddaa
open Go.RowKit
set_option linter.unusedSimpArgs false
set_option linter.unusedVariables false

/-- All weights are numbers from one on. -/
def Wts (Ws : List Int) : Prop := ∀ i, i < len Ws → 1 ≤ nth Ws i ∧ nth Ws i < 18446744073709551616
theorem smK_step {Ws : List Int} (h : Wts Ws) (Ss : List Bool) (k : Nat) (hk : k < len Ws) : smK Ws Ss k ≤ smK Ws Ss (k + 1) := by
  have := (h k hk).1
  simp only [smK]; split <;> omega
theorem smK_mono {Ws : List Int} (h : Wts Ws) (Ss : List Bool) {j : Nat} : ∀ {k : Nat}, j ≤ k → k ≤ len Ws → smK Ws Ss j ≤ smK Ws Ss k
  | 0, hj, _ => by obtain rfl : j = 0 := by omega
                   exact Int.le_refl _
  | k + 1, hj, hk => by
    by_cases e : j = k + 1
    · subst e; exact Int.le_refl _
    · have h1 := smK_mono h Ss (j := j) (k := k) (by omega) (by omega)
      have h2 := smK_step h Ss k (by omega)
      omega
theorem smK_on {Ws : List Int} {Ss : List Bool} {k : Nat} (h : sg Ss k = true) : smK Ws Ss (k + 1) = smK Ws Ss k + nth Ws k := by simp only [smK]; rw [if_pos h]
theorem smK_off {Ws : List Int} {Ss : List Bool} {k : Nat} (h : sg Ss k = false) : smK Ws Ss (k + 1) = smK Ws Ss k := by simp only [smK]; rw [if_neg (by rw [h]; decide)]; omega
theorem endK_le {Ws : List Int} (h : Wts Ws) (Ss : List Bool) : ∀ k, k ≤ len Ws → ∀ e ∈ endK Ws Ss k, e ≤ smK Ws Ss k
  | 0, _, e, he => by simp [endK] at he
  | k + 1, hk, e, he => by
    have h1 := endK_le h Ss k (by omega)
    have h2 := smK_step h Ss k (by omega)
    simp only [endK] at he
    split at he
    · rcases List.mem_append.1 he with he | he
      · have := h1 e he; omega
      · obtain rfl := List.mem_singleton.1 he; exact Int.le_refl _
    · have := h1 e he; omega
theorem end_at {Ws : List Int} {Ss : List Bool} {m : Nat} (hs : sg Ss m = true) : ∀ n, m < n → ∃ R R', endK Ws Ss n = endK Ws Ss m ++ smK Ws Ss (m + 1) :: R ∧ whoK Ss n = whoK Ss m ++ (m : Int) :: R'
  | 0, h => by omega
  | n + 1, h => by
    by_cases e : m = n
    · subst e
      exact ⟨[], [], by simp only [endK]; rw [if_pos hs], by simp only [whoK]; rw [if_pos hs]⟩
    · obtain ⟨R, R', h1, h2⟩ := end_at (Ws := Ws) hs n (by omega)
      simp only [endK, whoK]
      by_cases h3 : sg Ss n = true
      · rw [if_pos h3, if_pos h3, h1, h2]
        exact ⟨R ++ [smK Ws Ss (n + 1)], R' ++ [(n : Int)], by simp, by simp⟩
      · rw [if_neg h3, if_neg h3]; exact ⟨R, R', h1, h2⟩
theorem fall_at {Ws : List Int} (h : Wts Ws) {Ss : List Bool} {n m : Nat} {c : Int} (hn : n ≤ len Ws) (hm : m < n) (hs : sg Ss m = true) (h1 : smK Ws Ss m ≤ c) (h2 : c < smK Ws Ss (m + 1)) :
    cutN (endK Ws Ss n) c < len (endK Ws Ss n) ∧ fallN (endK Ws Ss n) (whoK Ss n) c = m := by
  obtain ⟨R, R', e1, e2⟩ := end_at (Ws := Ws) hs n hm
  have hle := endK_le h Ss m (by omega)
  have hc : cutN (endK Ws Ss n) c = len (endK Ws Ss m) := by
    unfold cutN
    rw [e1, List.takeWhile_append_of_pos (fun e he => by have := hle e he; simp; omega), List.takeWhile_cons, if_neg (by simp; omega), List.append_nil]; rfl
  have hw := who_end Ws Ss m
  refine ⟨?_, ?_⟩
  · rw [hc, e1, len_eq, len_eq]; simp
  · unfold fallN
    rw [hc, e2, ← hw]
    unfold nth
    rw [len_eq, List.getD_eq_getElem?_getD, List.getElem?_append_right (Nat.le_refl _)]; simp
theorem fall_none {Ws : List Int} (h : Wts Ws) {Ss : List Bool} {n : Nat} {c : Int} (hn : n ≤ len Ws) (h1 : smK Ws Ss n ≤ c) : ¬ cutN (endK Ws Ss n) c < len (endK Ws Ss n) := by
  have hle := endK_le h Ss n hn
  have e : (endK Ws Ss n).takeWhile (fun e => decide (e ≤ c)) = endK Ws Ss n := by
    have := List.takeWhile_append_of_pos (p := fun e => decide (e ≤ c)) (l₁ := endK Ws Ss n) (l₂ := []) (fun e he => by have := hle e he; simp; omega)
    simpa using this
  unfold cutN
  rw [e, len_eq]; omega
theorem fall_some {Ws : List Int} {Ss : List Bool} {c : Int} (h0 : 0 ≤ c) : ∀ {n : Nat}, c < smK Ws Ss n → ∃ m, m < n ∧ sg Ss m = true ∧ smK Ws Ss m ≤ c ∧ c < smK Ws Ss (m + 1)
  | 0, h => by simp [smK] at h; omega
  | n + 1, h => by
    by_cases h1 : c < smK Ws Ss n
    · obtain ⟨m, a, b⟩ := fall_some h0 h1; exact ⟨m, by omega, b⟩
    · by_cases hs : sg Ss n = true
      · exact ⟨n, by omega, hs, by omega, h⟩
      · rw [smK_off (by simpa using hs)] at h; omega
/-- The ends rise. -/
theorem ends_up {Ws : List Int} (h : Wts Ws) (Ss : List Bool) : ∀ k, k ≤ len Ws → (endK Ws Ss k).Pairwise (fun x y => x < y)
  | 0, _ => by simp [endK]
  | k + 1, hk => by
    have h1 := ends_up h Ss k (by omega)
    have h2 := endK_le h Ss k (by omega)
    have h3 := (h k (by omega)).1
    simp only [endK]
    split
    · rename_i hs
      refine List.pairwise_append.2 ⟨h1, List.pairwise_singleton .., fun x hx y hy => ?_⟩
      obtain rfl := List.mem_singleton.1 hy
      have := h2 x hx
      rw [smK_on hs]; omega
    · exact h1
/-- What the reference's Find says. -/
def rfindV (Ws : List Int) (Ss : List Bool) (c : Int) : Value := if cutN (endK Ws Ss (len Ws)) c < len (endK Ws Ss (len Ws)) then .tuple #[.int .u64 (fallN (endK Ws Ss (len Ws)) (whoK Ss (len Ws)) c), .bool true] else .tuple #[.int .u64 0, .bool false]
theorem rfind_at {Ws : List Int} (h : Wts Ws) {Ss : List Bool} {m : Nat} {c : Int} (hm : m < len Ws) (hs : sg Ss m = true) (h1 : smK Ws Ss m ≤ c) (h2 : c - smK Ws Ss m < nth Ws m) : rfindV Ws Ss c = .tuple #[.int .u64 m, .bool true] := by
  obtain ⟨a, b⟩ := fall_at h (Nat.le_refl _) hm hs h1 (by rw [smK_on hs]; omega)
  unfold rfindV; rw [if_pos a, b]
theorem rfind_none {Ws : List Int} (h : Wts Ws) {Ss : List Bool} {c : Int} (h1 : smK Ws Ss (len Ws) ≤ c) : rfindV Ws Ss c = .tuple #[.int .u64 0, .bool false] := by
  unfold rfindV; rw [if_neg (fall_none h (Nat.le_refl _) h1)]
/-- A number that falls lies below the length. -/
theorem fall_lt {Ws : List Int} (h : Wts Ws) {Ss : List Bool} {c : Int} (h0 : 0 ≤ c) (h1 : cutN (endK Ws Ss (len Ws)) c < len (endK Ws Ss (len Ws))) : ∃ m : Nat, m < len Ws ∧ sg Ss m = true ∧ smK Ws Ss m ≤ c ∧ c < smK Ws Ss (m + 1) ∧ fallN (endK Ws Ss (len Ws)) (whoK Ss (len Ws)) c = m := by
  by_cases h2 : c < smK Ws Ss (len Ws)
  · obtain ⟨m, a, b, d, e⟩ := fall_some h0 h2
    exact ⟨m, a, b, d, e, (fall_at h (Nat.le_refl _) a b d e).2⟩
  · exact absurd h1 (fall_none h (Nat.le_refl _) (by omega))
end Go.Proofs.Ytbeppkokkbgddaa
