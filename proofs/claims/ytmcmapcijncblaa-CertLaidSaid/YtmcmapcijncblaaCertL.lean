/- CertApart: the contract of falls, and what a shape that is OK says (plain). -/
import Derived.Test.YtmcmapcijncblaaCertK
import Derived.Deep.LoopGhost
import Derived.Deep.DeepCutAuto
namespace Go.Proofs.Ytmcmapcijncblaa
open Go.RowKit

/-- Does a number fall into a reveal? -/
def fallB (x : One) (n : Int) : Bool := decide (x.L ≤ n ∧ n < x.L + x.wt)
def One.val (r : One) : Value := .agg #[.int .u64 r.pos, .int .u64 r.L, .int .u64 r.wt, .int .u8 r.root]

theorem falls_any (x : One) (n : Int) (w : World) (hx : x.Ok) (h0 : 0 ≤ n) (h1 : n < 18446744073709551616) :
    Calls Try.prog 12 #[x.val, .int .u64 n] w fun e w' => e = .returned (.bool (fallB x n)) ∧ Below w.heap.size w w' := by
  obtain ⟨p0, p1, L0, L1, wt0, wt1, r0, r1⟩ := hx
  unfold One.val
  go_enter Try.func12, Try.ntmps12
  by_cases h : x.L ≤ n
  · have i1 : IntKind.u64.wrap (n - x.L) = n - x.L := IntWalk.u64_in _ (by omega)
    go_wp2
    go_ret
    refine ⟨ret_bool ?_, by (repeat (first | exact Below.refl _ _ | assumption | (refine bdrew ?_) | (refine bdrewN ?_ _) | (refine balloc ?_ _) | (refine bset ?_ (by first | omega | (simp; done) | (simp; omega)) _) | (refine bnext ?_ (by assumption))))⟩
    unfold fallB; rw [Bool.eq_iff_iff]; simp [i1]; omega
  · go_wp2
    go_ret
    refine ⟨ret_bool ?_, by (repeat (first | exact Below.refl _ _ | assumption | (refine bdrew ?_) | (refine bdrewN ?_ _) | (refine balloc ?_ _) | (refine bset ?_ (by first | omega | (simp; done) | (simp; omega)) _) | (refine bnext ?_ (by assumption))))⟩
    unfold fallB; rw [Bool.eq_iff_iff]; simp; omega

structure Apart (L : List One) (C : List Int) (n0 : Int) : Prop where
  rise : ∀ i, i + 1 < len L → (onth L i).pos < (onth L (i + 1)).pos
  apart : ∀ i, i + 1 < len L → (onth L i).L + (onth L i).wt ≤ (onth L (i + 1)).L
  last : ∀ i, i + 1 = len L → (onth L i).L + (onth L i).wt ≤ n0
  has : ∀ i, i < len L → ∃ j, j < len C ∧ nth C j = (onth L i).pos
  hit : ∀ j, j < len C → ∃ i, i < len L ∧ nth C j = (onth L i).pos

theorem rnth_map (L : List One) (i : Nat) (h : i < len L) : rnth (L.map revOf) i = revOf (onth L i) := by
  have h' : i < L.length := h
  rw [rnth_eq _ i (by simpa using h'), onth_eq L i h', List.getElem_map]

theorem nth_posM (L : List One) (i : Nat) (h : i < len L) : nth (posOf (L.map revOf)) i = (onth L i).pos := by
  have h' : i < L.length := h
  rw [nth_eq _ i (by simpa [posOf] using h'), onth_eq L i h']
  simp [posOf, revOf]

theorem mem_posOf (L : List One) (x : Int) : x ∈ posOf (L.map revOf) ↔ ∃ i, i < len L ∧ x = (onth L i).pos := by
  constructor
  · intro h
    obtain ⟨i, hi, e⟩ := List.getElem_of_mem h
    have hi' : i < len L := by simpa [posOf, len] using hi
    exact ⟨i, hi', by rw [← nth_posM L i hi', nth_eq _ i hi, e]⟩
  · rintro ⟨i, hi, rfl⟩
    rw [← nth_posM L i hi, nth_eq _ i (by simpa [posOf, len] using hi)]
    exact List.getElem_mem _

theorem mem_nth (C : List Int) (x : Int) : x ∈ C ↔ ∃ j, j < len C ∧ nth C j = x := by
  constructor
  · intro h
    obtain ⟨i, hi, e⟩ := List.getElem_of_mem h
    exact ⟨i, hi, by rw [nth_eq _ i hi, e]⟩
  · rintro ⟨i, hi, rfl⟩
    rw [nth_eq _ i hi]
    exact List.getElem_mem _

theorem apart_of {c : CertV} {L : List One} {C : List Int} {n0 m : Int} (h1 : c.revs = L.map revOf) (h2 : c.coins = C) (h3 : c.signed = n0) (h : shapeOf c m = 0) : Apart L C n0 := by
  unfold shapeOf at h
  cases hm : moreB c m
  · rw [hm] at h
    cases hs1 : subB (posOf c.revs) c.coins <;> cases hs2 : subB c.coins (posOf c.revs) <;> rw [hs1, hs2] at h <;> try (simp at h; done)
    cases hr : riseB (posOf c.revs) <;> cases ha : apartB c.revs <;> cases hl : lastB c <;> rw [hr, ha, hl] at h <;> try (simp at h; done)
    unfold subB at hs1 hs2
    unfold riseB at hr
    unfold apartB at ha
    unfold lastB at hl
    simp only [decide_eq_true_eq] at hs1 hs2 hr ha
    rw [h1] at hs1 hs2 hr ha hl
    rw [h2] at hs1 hs2
    rw [h3] at hl
    refine ⟨fun i hi => ?_, fun i hi => ?_, fun i hi => ?_, fun i hi => ?_, fun j hj => ?_⟩
    · have := hr i (by simp [posOf]; rw [len_eq] at hi; omega)
      rwa [nth_posM L i (by omega), nth_posM L (i + 1) hi] at this
    · have := ha i (by simp; rw [len_eq] at hi; omega)
      rw [rnth_map L i (by omega), rnth_map L (i + 1) hi] at this
      unfold withinB at this
      simp only [decide_eq_true_eq] at this
      exact this.2
    · have e : (L.map revOf).drop ((L.map revOf).length - 1) = [revOf (onth L i)] := by
        have h' : i + 1 = L.length := hi
        have e1 : (L.map revOf).length - 1 = i := by simp; omega
        rw [e1, List.drop_eq_getElem_cons (by simp; omega), List.drop_eq_nil_of_le (by simp; omega), List.getElem_map, onth_eq L i (by omega)]
      rw [e] at hl
      cases hw : withinB (revOf (onth L i)).L (revOf (onth L i)).wt n0
      · exfalso
        have := outIdx_hit (l := [revOf (onth L i)]) (n := n0) (i := 0) (by simp [len]) (fun j hj => absurd hj (by omega)) hw
        unfold outB at hl; rw [this] at hl; simp at hl
      · unfold withinB at hw
        simp only [decide_eq_true_eq] at hw
        exact hw.2
    · have := hs1 _ ((mem_posOf L _).2 ⟨i, hi, rfl⟩)
      exact (mem_nth _ _).1 this
    · exact (mem_posOf L _).1 (hs2 _ ((mem_nth _ _).2 ⟨j, hj, rfl⟩))
  · rw [hm] at h; simp at h

theorem Apart.chain {L : List One} {C : List Int} {n0 : Int} (h : Apart L C n0) (hok : ∀ i, (onth L i).Ok) : ∀ d i : Nat, i + (d + 1) < len L → (onth L i).L + (onth L i).wt ≤ (onth L (i + (d + 1))).L
  | 0, i, hi => h.apart i hi
  | d + 1, i, hi => by
    have a := h.chain hok d i (by omega)
    have b := h.apart (i + (d + 1)) (by omega)
    have := (hok (i + (d + 1))).wt0
    show _ ≤ (onth L (i + (d + 1) + 1)).L
    omega

theorem Apart.two {L : List One} {C : List Int} {n0 x : Int} (h : Apart L C n0) (hok : ∀ i, (onth L i).Ok) {i j : Nat} (hi : i < j) (hj : j < len L) (a : fallB (onth L i) x = true) (b : fallB (onth L j) x = true) : False := by
  have c := h.chain hok (j - i - 1) i (by omega)
  rw [show i + (j - i - 1 + 1) = j by omega] at c
  unfold fallB at a b
  simp only [decide_eq_true_eq] at a b
  omega

theorem Apart.under {L : List One} {C : List Int} {n0 x : Int} (h : Apart L C n0) (hok : ∀ i, (onth L i).Ok) {i : Nat} (hi : i < len L) (a : fallB (onth L i) x = true) : x < n0 := by
  unfold fallB at a
  simp only [decide_eq_true_eq] at a
  rcases Nat.lt_or_ge (i + 1) (len L) with h' | h'
  · have c := h.chain hok (len L - 1 - i - 1) i (by omega)
    rw [show i + (len L - 1 - i - 1 + 1) = len L - 1 by omega] at c
    have := h.last (len L - 1) (by omega)
    have := (hok (len L - 1)).wt0
    omega
  · have := h.last i (by omega)
    omega

/-- The numbers that are tried for the first m reveals. -/
def tries (a : List Int) (L : List One) : List Int := a ++ L.flatMap (fun x => [x.L, IntKind.u64.wrap (x.L + x.wt), IntKind.u64.wrap (IntKind.u64.wrap (x.L + x.wt) - 1)])

/-- How many of the first k reveals does x fall into: none, or one that is there. -/
def Fell (L : List One) (x : Int) (k : Nat) (m : Int) : Prop := m = 0 ∨ m = 1 ∧ ∃ j, j < k ∧ fallB (onth L j) x = true
theorem Fell.zero (L : List One) (x : Int) : Fell L x 0 0 := .inl rfl
theorem Fell.same {L : List One} {x : Int} {k : Nat} {m : Int} (h : Fell L x k m) : Fell L x (k + 1) m := h.imp id fun ⟨e, j, hj, hf⟩ => ⟨e, j, by omega, hf⟩
theorem Fell.more {L : List One} {C : List Int} {n0 x : Int} {k : Nat} {m : Int} (hA : Apart L C n0) (hok : ∀ i, (onth L i).Ok) (h : Fell L x k m) (hk : k < len L) (hf : fallB (onth L k) x = true) : m = 0 ∧ Fell L x (k + 1) 1 := by
  rcases h with rfl | ⟨rfl, j, hj, hf'⟩
  · exact ⟨rfl, .inr ⟨rfl, k, by omega, hf⟩⟩
  · exact (hA.two hok hj hk hf' hf).elim

/-- b says whether f holds of one of the first j. -/
def Hit (f : Nat → Prop) (j : Nat) (b : Bool) : Prop := b = true ↔ ∃ m, m < j ∧ f m
theorem Hit.zero (f : Nat → Prop) : Hit f 0 false := ⟨fun h => absurd h (by decide), fun ⟨m, h, _⟩ => absurd h (by omega)⟩
theorem Hit.yes {f : Nat → Prop} {j : Nat} (h : f j) : Hit f (j + 1) true := ⟨fun _ => ⟨j, by omega, h⟩, fun _ => rfl⟩
theorem Hit.was {f : Nat → Prop} {j : Nat} (h : Hit f j true) : Hit f (j + 1) true := ⟨fun _ => by obtain ⟨m, hm, hf⟩ := h.1 rfl; exact ⟨m, by omega, hf⟩, fun _ => rfl⟩
theorem Hit.no {f : Nat → Prop} {j : Nat} (h : Hit f j false) (hn : ¬ f j) : Hit f (j + 1) false := ⟨fun h => absurd h (by decide), fun ⟨m, hm, hf⟩ => by
  by_cases e : m = j
  · subst e; exact absurd hf hn
  · exact h.2 ⟨m, by omega, hf⟩⟩
theorem Hit.all {f : Nat → Prop} {n j : Nat} {b : Bool} (h : Hit f j b) (hj : n ≤ j) (hx : ∃ m, m < n ∧ f m) : b = true := by
  obtain ⟨m, hm, hf⟩ := hx
  exact h.2 ⟨m, by omega, hf⟩

theorem tries_succ (a : List Int) (L : List One) (k : Nat) (h : k < len L) : tries a (L.take (k + 1)) = tries a (L.take k) ++ [(onth L k).L, IntKind.u64.wrap ((onth L k).L + (onth L k).wt), IntKind.u64.wrap (IntKind.u64.wrap ((onth L k).L + (onth L k).wt) - 1)] := by
  rw [List.take_succ_eq_append_getElem h, onth_eq L k h]
  simp [tries]

theorem wrap_range (x : Int) : 0 ≤ IntKind.u64.wrap x ∧ IntKind.u64.wrap x < 18446744073709551616 := by
  rw [IntKind.wrap_u64]; omega

theorem tries_range (a : List Int) (ha : ∀ x ∈ a, 0 ≤ x ∧ x < 18446744073709551616) (L : List One) (hL : ∀ i, (onth L i).Ok) : ∀ i, 0 ≤ nth (tries a L) i ∧ nth (tries a L) i < 18446744073709551616 := fun i => by
  have key : ∀ x ∈ tries a L, 0 ≤ x ∧ x < 18446744073709551616 := by
    intro x hx
    unfold tries at hx
    rw [List.mem_append, List.mem_flatMap] at hx
    rcases hx with hx | ⟨r, hr, hx⟩
    · exact ha x hx
    · obtain ⟨j, hj, e⟩ := List.getElem_of_mem hr
      have o := hL j
      rw [onth_eq L j hj, e] at o
      simp at hx
      rcases hx with rfl | rfl | rfl
      · exact ⟨o.L0, o.L1⟩
      · exact wrap_range _
      · exact wrap_range _
  rcases Nat.lt_or_ge i (tries a L).length with h | h
  · rw [nth_eq _ i h]; exact key _ (List.getElem_mem _)
  · have : nth (tries a L) i = 0 := by unfold nth; rw [List.getD_eq_getElem?_getD, List.getElem?_eq_none h]; rfl
    rw [this]; decide
end Go.Proofs.Ytmcmapcijncblaa
