/- CertLaid: what the laid reveals answer (plain). -/
import Derived.Test.YtmcmapcijncblaaCertL
namespace Go.Proofs.Ytmcmapcijncblaa
open Go.RowKit

structure Laid (L : List One) (s : Int) : Prop where
  n : len L ≤ 30
  pos : ∀ i, i < len L → 1001 * (i : Int) ≤ (onth L i).pos ∧ (onth L i).pos ≤ 1001 * i + 999
  wt : ∀ i, i < len L → 1 ≤ (onth L i).wt ∧ (onth L i).wt ≤ 1000
  L0 : ∀ i, i < len L → 0 ≤ (onth L i).L
  root : ∀ i, i < len L → (onth L i).root = 32
  apart : ∀ i, i + 1 < len L → (onth L i).L + (onth L i).wt ≤ (onth L (i + 1)).L
  last : ∀ i, i + 1 = len L → (onth L i).L + (onth L i).wt = s
  top : ∀ i, i < len L → (onth L i).L ≤ s
  s0 : 0 ≤ s
  s1 : s ≤ 2000 * (len L : Int)

theorem onth_snoc (L : List One) (x : One) (i : Nat) : onth (L ++ [x]) i = if i < len L then onth L i else if i = len L then x else One.zero := by
  unfold onth len
  rw [List.getD_eq_getElem?_getD, List.getD_eq_getElem?_getD]
  by_cases h : i < L.length
  · rw [if_pos h, List.getElem?_append_left h]
  · rw [if_neg h, List.getElem?_append_right (by omega)]
    by_cases h2 : i = L.length
    · rw [if_pos h2, h2]; simp
    · rw [if_neg h2, List.getElem?_eq_none (by simp; omega)]; rfl
theorem len_snoc {α : Type} (L : List α) (x : α) : len (L ++ [x]) = len L + 1 := by simp [len]

theorem Laid.nil : Laid [] 0 := ⟨by decide, fun i h => absurd h (by simp [len]), fun i h => absurd h (by simp [len]), fun i h => absurd h (by simp [len]), fun i h => absurd h (by simp [len]), fun i h => absurd h (by simp [len]), fun i h => absurd h (by simp [len]), fun i h => absurd h (by simp [len]), by decide, by decide⟩

theorem Laid.snoc {L : List One} {s : Int} (h : Laid L s) (hn : len L < 30) {g t : Int} (g0 : 0 ≤ g) (g1 : g ≤ 999) (t0 : 1 ≤ t) (t1 : t ≤ 1000) : Laid (L ++ [⟨(len L : Int) + g + 1000 * (len L : Int), s + g, t, 32⟩]) (s + g + t) := by
  obtain ⟨k1, k2, k3, k4, k5, k6, k7, k8, k9, k10⟩ := h
  refine ⟨by rw [len_snoc]; omega, fun i hi => ?_, fun i hi => ?_, fun i hi => ?_, fun i hi => ?_, fun i hi => ?_, fun i hi => ?_, fun i hi => ?_, by omega, by rw [len_snoc]; omega⟩ <;> rw [len_snoc] at hi
  all_goals simp only [onth_snoc]
  · by_cases e : i < len L
    · rw [if_pos e]; exact k2 i e
    · obtain rfl : i = len L := by omega
      rw [if_neg e, if_pos rfl]; show _ ≤ (_ : Int) ∧ _ ≤ (_ : Int); constructor <;> simp only [] <;> omega
  · by_cases e : i < len L
    · rw [if_pos e]; exact k3 i e
    · rw [if_neg e, if_pos (by omega)]; exact ⟨t0, t1⟩
  · by_cases e : i < len L
    · rw [if_pos e]; exact k4 i e
    · rw [if_neg e, if_pos (by omega)]; show 0 ≤ s + g; omega
  · by_cases e : i < len L
    · rw [if_pos e]; exact k5 i e
    · rw [if_neg e, if_pos (by omega)]
  · have e : i < len L := by omega
    rw [if_pos e]
    by_cases e2 : i + 1 < len L
    · rw [if_pos e2]; exact k6 i e2
    · rw [if_neg e2, if_pos (by omega)]; have := k7 i (by omega); show _ ≤ s + g; omega
  · rw [if_neg (by omega), if_pos (by omega)]
  · by_cases e : i < len L
    · rw [if_pos e]; have := k8 i e; omega
    · rw [if_neg e, if_pos (by omega)]; show s + g ≤ _; omega

theorem Laid.ok {L : List One} {s : Int} (h : Laid L s) : ∀ i, (onth L i).Ok := fun i => by
  rcases Nat.lt_or_ge i (len L) with hi | hi
  · have a := h.pos i hi
    have b := h.wt i hi
    have c := h.L0 i hi
    have d := h.top i hi
    have e := h.root i hi
    have f := h.n
    have g := h.s1
    exact ⟨by omega, by omega, c, by omega, by omega, by omega, by omega, by omega⟩
  · have : onth L i = One.zero := by unfold onth; rw [List.getD_eq_getElem?_getD, List.getElem?_eq_none hi]; rfl
    rw [this]; exact One.zero_ok

/-- The coins are just those of the reveals. -/
structure Just (L : List One) (C : List Int) : Prop where
  sub : ∀ x ∈ C, ∃ i, i < len L ∧ x = (onth L i).pos
  all : ∀ i, i < len L → (onth L i).pos ∈ C

theorem Just.nil : Just [] [] := ⟨fun x h => by simp at h, fun i h => absurd h (by simp [len])⟩
theorem Just.both {L : List One} {C : List Int} (h : Just L C) (x : One) : Just (L ++ [x]) (C ++ [x.pos]) := by
  refine ⟨fun y hy => ?_, fun i hi => ?_⟩
  · rcases List.mem_append.1 hy with hy | hy
    · obtain ⟨i, hi, e⟩ := h.sub y hy
      exact ⟨i, by rw [len_snoc]; omega, by rw [onth_snoc, if_pos hi]; exact e⟩
    · simp at hy; subst hy
      exact ⟨len L, by rw [len_snoc]; omega, by rw [onth_snoc, if_neg (by omega), if_pos rfl]⟩
  · rw [len_snoc] at hi
    rw [onth_snoc]
    by_cases e : i < len L
    · rw [if_pos e]; exact List.mem_append_left _ (h.all i e)
    · rw [if_neg e, if_pos (by omega)]; simp
theorem Just.more {L : List One} {C : List Int} (h : Just L C) {k : Nat} (hk : k < len C) : Just L (C ++ [nth C k]) := by
  refine ⟨fun y hy => ?_, fun i hi => List.mem_append_left _ (h.all i hi)⟩
  rcases List.mem_append.1 hy with hy | hy
  · exact h.sub y hy
  · simp at hy; subst hy
    exact h.sub _ ((mem_nth C _).2 ⟨k, hk, rfl⟩)
theorem Just.rev {L : List One} {C : List Int} (h : Just L C) : Just L C.reverse := ⟨fun y hy => h.sub y (by simpa using hy), fun i hi => by simpa using h.all i hi⟩

theorem sub_true {L : List One} {C : List Int} (h : Just L C) : subB (posOf (L.map revOf)) C = true ∧ subB C (posOf (L.map revOf)) = true := by
  unfold subB
  simp only [decide_eq_true_eq]
  refine ⟨fun x hx => ?_, fun x hx => (mem_posOf L x).2 (h.sub x hx)⟩
  obtain ⟨i, hi, rfl⟩ := (mem_posOf L x).1 hx
  exact h.all i hi

theorem drop_last (L : List One) (i : Nat) (hi : i + 1 = len L) : (L.map revOf).drop ((L.map revOf).length - 1) = [revOf (onth L i)] := by
  have h' : i + 1 = L.length := hi
  have e1 : (L.map revOf).length - 1 = i := by simp; omega
  rw [e1, List.drop_eq_getElem_cons (by simp; omega), List.drop_eq_nil_of_le (by simp; omega), List.getElem_map, onth_eq L i (by omega)]

theorem out_last {L : List One} {s n : Int} (h : Laid L s) : outB ((L.map revOf).drop ((L.map revOf).length - 1)) n = (decide (0 < len L) && decide (n < s)) := by
  rcases Nat.eq_zero_or_pos (len L) with e | e
  · obtain rfl : L = [] := List.eq_nil_of_length_eq_zero e
    rfl
  · rw [drop_last L (len L - 1) (by omega)]
    have hl := h.last (len L - 1) (by omega)
    have hw := h.wt (len L - 1) (by omega)
    have key : withinB (revOf (onth L (len L - 1))).L (revOf (onth L (len L - 1))).wt n = !decide (n < s) := by
      show withinB (onth L (len L - 1)).L (onth L (len L - 1)).wt n = _
      unfold withinB
      rw [Bool.eq_iff_iff]; simp; omega
    cases hd : decide (n < s)
    · rw [hd] at key
      unfold outB
      rw [outIdx_none (fun j hj => by
        obtain rfl : j = 0 := by have : j < 1 := hj; omega
        exact key)]
      simp
    · rw [hd] at key
      unfold outB
      rw [outIdx_hit (l := [revOf (onth L (len L - 1))]) (n := n) (i := 0) (by simp [len]) (fun j hj => absurd hj (by omega)) key]
      simp; omega

theorem shape_laid {L : List One} {C : List Int} {s n most : Int} (h : Laid L s) (hj : Just L C) (hC : len C ≤ 60) :
    shapeOf (madeC L C n) most = if ((max (len C) (len L) : Nat) : Int) > max most 0 then 7 else if 0 < len L ∧ n < s then 5 else 0 := by
  have e1 : L.take 30 = L := List.take_of_length_le h.n
  have e2 : C.take 60 = C := List.take_of_length_le hC
  have hr : riseB (posOf (L.map revOf)) = true := by
    unfold riseB
    simp only [decide_eq_true_eq]
    intro i hi
    have hi' : i + 1 < len L := by simp [posOf] at hi; rw [len_eq]; omega
    rw [nth_posM L i (by omega), nth_posM L (i + 1) hi']
    have := h.pos i (by omega)
    have := h.pos (i + 1) hi'
    omega
  have ha : apartB (L.map revOf) = true := by
    unfold apartB
    simp only [decide_eq_true_eq]
    intro i hi
    have hi' : i + 1 < len L := by simp at hi; rw [len_eq]; omega
    rw [rnth_map L i (by omega), rnth_map L (i + 1) hi']
    show withinB (onth L i).L (onth L i).wt (onth L (i + 1)).L = true
    unfold withinB
    simp only [decide_eq_true_eq]
    have := h.wt i (by omega)
    exact ⟨by omega, h.apart i hi'⟩
  obtain ⟨hs1, hs2⟩ := sub_true hj
  unfold shapeOf madeC mkC moreB lastB
  simp only [e1, e2, hr, ha, hs1, hs2, out_last h]
  have e3 : len (List.map revOf L) = len L := by simp [len]
  rw [e3]
  by_cases hm : ((max (len C) (len L) : Nat) : Int) > max most 0
  · simp [hm]
  · rw [if_neg hm]
    by_cases hq : 0 < len L ∧ n < s
    · rw [if_pos hq]; simp [hm, hq.1, hq.2]
    · rw [if_neg hq]
      have : (decide (0 < len L) && decide (n < s)) = false := by
        rw [Bool.and_eq_false_iff]; simp; omega
      simp [hm, this]

theorem shape_less {L : List One} {C : List Int} {s n most : Int} (h : Laid L s) (hj : Just L C) (hC : len C ≤ 60) (h0 : 0 < len L) (hm : ¬ ((max (len C) (len L) : Nat) : Int) > max most 0) :
    shapeOf (madeC (L.drop 1) C n) most = 8 := by
  have e1 : (L.drop 1).take 30 = L.drop 1 := List.take_of_length_le (by have := h.n; rw [len_eq] at this; simp; omega)
  have e2 : C.take 60 = C := List.take_of_length_le hC
  have hs : subB C (posOf ((L.drop 1).map revOf)) = false := by
    unfold subB
    simp only [decide_eq_false_iff_not]
    intro hx
    obtain ⟨i, hi, e⟩ := (mem_posOf (L.drop 1) _).1 (hx _ (hj.all 0 h0))
    have hi' : i + 1 < len L := by rw [len_eq] at hi ⊢; simp at hi; omega
    have e3 : onth (L.drop 1) i = onth L (i + 1) := by
      unfold onth; rw [List.getD_eq_getElem?_getD, List.getD_eq_getElem?_getD, List.getElem?_drop, Nat.add_comm]
    rw [e3] at e
    have := h.pos 0 h0
    have := h.pos (i + 1) hi'
    omega
  unfold shapeOf madeC mkC moreB
  simp only [e1, e2, hs]
  have e3 : len (List.map revOf (L.drop 1)) ≤ len L := by simp [len]
  have : ¬ ((max (len C) (len (List.map revOf (L.drop 1))) : Nat) : Int) > max most 0 := by omega
  rw [decide_eq_false this]; simp
end Go.Proofs.Ytmcmapcijncblaa
