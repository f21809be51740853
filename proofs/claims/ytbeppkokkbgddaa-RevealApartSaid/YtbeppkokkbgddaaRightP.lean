/- The statement RevealRight: plain facts of what Choose hands back. -/
import Derived.Test.YtbeppkokkbgddaaOnes
namespace Go.Proofs.Ytbeppkokkbgddaa
open Go.RowKit
set_option linter.unusedSimpArgs false
set_option linter.unusedVariables false

/-- No coin falls: nothing comes. -/
theorem chO_zero {E W coins : List Int} (h : ∀ c ∈ coins, ¬ cutN E c < len E) : ∃ err, ((err = 0 ∧ len coins = 0) ∨ (err = 9 ∧ 0 < len coins)) ∧ ∀ w e w', ChooseIs E W coins w e w' → ChO [] [] err w e w' := by
  cases coins with
  | nil =>
    refine ⟨0, .inl ⟨rfl, rfl⟩, fun w e w' hc => ?_⟩
    rcases hc with ⟨_, hc⟩ | ⟨⟨c, h1, _⟩, _⟩
    · have := chO_chosen hc
      have e1 : srt (insAll (List.map (fallN E W) [])) = [] := by simp [insAll, srt]
      rw [e1] at this; exact this
    · simp at h1
  | cons c coins =>
    refine ⟨9, .inr ⟨rfl, by simp [len]⟩, fun w e w' hc => ?_⟩
    rcases hc with ⟨hall, _⟩ | ⟨_, hc⟩
    · exact absurd (hall c (List.mem_cons_self ..)) (h c (List.mem_cons_self ..))
    · exact chO_none hc
/-- All coins fall. -/
theorem chO_all {E W coins : List Int} (h : ∀ c ∈ coins, cutN E c < len E) : ∀ w e w', ChooseIs E W coins w e w' → ChO (coins.map (fallN E W)) (srt (insAll (coins.map (fallN E W)))) 0 w e w' := fun w e w' hc => by
  rcases hc with ⟨_, hc⟩ | ⟨⟨c, h1, h2⟩, _⟩
  · exact chO_chosen hc
  · exact absurd (h c h1) h2
theorem mem_nth {l : List Int} {c : Int} (h : c ∈ l) : ∃ i, i < len l ∧ nth l i = c := by
  obtain ⟨i, hi, rfl⟩ := List.getElem_of_mem h
  exact ⟨i, hi, nth_eq l i hi⟩
theorem nth_mem {l : List Int} {i : Nat} (h : i < len l) : nth l i ∈ l := by
  have h' : i < l.length := h
  rw [nth_eq l i h']; exact List.getElem_mem _
theorem nth_map {f : Int → Int} {l : List Int} {i : Nat} (h : i < len l) : nth (l.map f) i = f (nth l i) := by
  have h' : i < l.length := h
  rw [nth_eq (l.map f) i (by simpa using h'), nth_eq l i h', List.getElem_map]
theorem len_map (f : Int → Int) (l : List Int) : len (l.map f) = len l := by simp [len]
theorem take_snoc_int {l : List Int} {n : Nat} (h : n < len l) : l.take (n + 1) = l.take n ++ [nth l n] := by
  have h' : n < l.length := h
  rw [List.take_succ_eq_append_getElem h', nth_eq l n h']
theorem srt_step {l : List Int} (h : l.Nodup) {i : Nat} (hi : i + 1 < len (srt l)) : nth (srt l) i < nth (srt l) (i + 1) := by
  have h1 := srt_rising h
  have h' : i + 1 < (srt l).length := hi
  rw [nth_eq _ i (by omega), nth_eq _ (i + 1) h']
  exact List.pairwise_iff_getElem.1 h1 i (i + 1) (by omega) h' (by omega)
theorem nth_set_lt {C : List Int} {m : Nat} {y T : Int} (hm : m < len C) (hy : y < T) (h : ∀ j, j < m → nth C j < T) (j : Nat) (hj : j < m + 1) : nth (C.set m y) j < T := by
  have hm' : m < C.length := hm
  by_cases e : j = m
  · subst e; rw [nth_eq _ j (by simpa using hm'), List.getElem_set_self]; exact hy
  · have h1 := h j (by omega)
    rw [nth_eq _ j (by simp; omega), List.getElem_set_ne (fun e2 => e e2.symm), ← nth_eq C j (by omega)]; exact h1
/-- With no signed weight nothing falls. -/
theorem none_falls {Ws : List Int} (h : Wts Ws) {Ss : List Bool} (h0 : smK Ws Ss (len Ws) = 0) {c : Int} (hc : 0 ≤ c) : ¬ cutN (endK Ws Ss (len Ws)) c < len (endK Ws Ss (len Ws)) :=
  fall_none h (Nat.le_refl _) (by omega)
/-- What is below the whole falls. -/
theorem all_falls {Ws : List Int} (h : Wts Ws) {Ss : List Bool} {c : Int} (hc : 0 ≤ c) (h1 : c < smK Ws Ss (len Ws)) : cutN (endK Ws Ss (len Ws)) c < len (endK Ws Ss (len Ws)) ∧ ∃ m : Nat, m < len Ws ∧ sg Ss m = true ∧ fallN (endK Ws Ss (len Ws)) (whoK Ss (len Ws)) c = m := by
  obtain ⟨m, hm, hs, a, b⟩ := fall_some hc h1
  obtain ⟨x, y⟩ := fall_at h (Nat.le_refl _) hm hs a b
  exact ⟨x, m, hm, hs, y⟩
theorem falls_same (coin sum wt : Int) {fb : Bool} (hf : fallsB coin sum wt = fb) (w : World) (h0 : 0 ≤ coin) (h1 : coin ≤ 18446744073709551615) (h2 : 0 ≤ sum) (h3 : sum ≤ 18446744073709551615) :
    Calls Try.prog 34 #[.int .u64 coin, .int .u64 sum, .int .u64 wt] w fun e w' => e = .returned (.bool fb) ∧ w' = w :=
  (falls_any coin sum wt w h0 h1 h2 h3).mono (fun e w' h => ⟨by rw [h.1, hf], h.2.symm⟩)
/-- What is known of the coins' positions, and of those revealed. -/
structure Chosen (Ws : List Int) (Ss : List Bool) (C ps rs ks : List Int) (K L : Nat) : Prop where
  lp : len ps = K
  lr : len rs = L
  le : L ≤ K
  ll : L = ks.length
  keys : ks = insAll ps
  at' : ∀ i, i < K → ∃ k0 : Nat, nth ps i = k0 ∧ k0 < len Ws ∧ sg Ss k0 = true
  fl : ∀ i, i < K → ∀ k, k < len Ws → sg Ss k = true → (fallsB (nth C i) (smK Ws Ss k) (nth Ws k) = true ↔ nth ps i = k)
  mem : ∀ i, i < L → nth rs i ∈ ks
  up : ∀ i, i + 1 < L → nth rs i < nth rs (i + 1)
theorem chosen_of {Ws : List Int} (h : Wts Ws) {Ss : List Bool} {C : List Int} {K : Nat} (hK : len C = K) (hr : ∀ i, 0 ≤ nth C i) (hT : ∀ i, i < K → nth C i < smK Ws Ss (len Ws)) :
    ∃ ps rs ks L, Chosen Ws Ss C ps rs ks K L ∧ ∀ w e w', ChooseIs (endK Ws Ss (len Ws)) (whoK Ss (len Ws)) C w e w' → ChO ps rs 0 w e w' := by
  obtain ⟨E, hE⟩ : ∃ E, endK Ws Ss (len Ws) = E := ⟨_, rfl⟩
  obtain ⟨W, hW⟩ : ∃ W, whoK Ss (len Ws) = W := ⟨_, rfl⟩
  have hp := (insAll_all (C.map (fallN E W)))
  refine ⟨C.map (fallN E W), srt (insAll (C.map (fallN E W))), insAll (C.map (fallN E W)), len (srt (insAll (C.map (fallN E W)))), ⟨?_, rfl, ?_, ?_, rfl, ?_, ?_, ?_, ?_⟩, ?_⟩
  · rw [len_map]; exact hK
  · rw [len_eq, srt_len, ← hK, len_eq]; refine Nat.le_trans hp.2.2 ?_; simp
  · rw [len_eq, srt_len]
  · intro i hi
    obtain ⟨_, m, hm, hs, e⟩ := all_falls h (hr i) (hT i hi)
    rw [hE, hW] at e
    exact ⟨m, by rw [nth_map (by omega)]; exact e, hm, hs⟩
  · intro i hi k hk hs
    rw [nth_map (by omega), ← hE, ← hW]
    exact falls_law h (hr i) (hT i hi) hk hs
  · intro i hi
    exact (srt_mem _ _).1 (nth_mem hi)
  · intro i hi
    exact srt_step hp.1 hi
  · rw [hE, hW]
    exact chO_all (fun c hc => by
      obtain ⟨i, hi, rfl⟩ := mem_nth hc
      rw [← hE]
      exact (all_falls h (hr i) (hT i (by omega))).1)
end Go.Proofs.Ytbeppkokkbgddaa
