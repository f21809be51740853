/- A region that draws its order, inside a fence: the law of Region turned. -/
import Derived.Test.YtbeppkokkbgddaaRegion
import Derived.OrdersIn
import Derived.OwnWalkIn
import Derived.RangeFuncCalls
namespace Go.Proofs.Ytbeppkokkbgddaa
open Go.RowKit

section
variable {F : Fence} {m0 : Nat} {P : Program} {ops : List Oper} {a0 : Act} {w0 : World} {sp : Nat} {vo : Option Nat} {Φ : Nat → Value → World → Prop} {Q : Exit → Act → World → Prop}

def StepAtIn (F : Fence) (m0 : Nat) (P : Program) (ops : List Oper) (a0 : Act) (w0 : World) (sp : Nat) (vo : Option Nat) (Φ : Nat → Value → World → Prop) (Q : Exit → Act → World → Prop) (hd : Nat) (i : Nat) (o : Oper) : Prop := ∀ a w, ExtB vo w0 w → (i = sp → Ext w0 w) → Outer ops a0 hd a → Deps ops Φ a w o.after.toList →
  if Region.wanted o (yielded ops.toArray a.tmps) then o.wpIn F m0 P a w (fun a' w' => ∃ v, a' = a.put o.dst v ∧ Es sp vo i w w' ∧ Φ i (valOf o v) w') Q else Φ i undef w

theorem wpAnyIn_of_seq {md : Region.Mode} {ops : Array Oper} {Q' : Exit → Act → World → Prop} : ∀ (l : List Oper) (k : Nat) (listed : Array Bool) (a : Act) (w : World), (∀ j, l[j]? = ops[k + j]?) →
    Region.seqB md ops l.length k listed = true → wpListIn F m0 P ops Q' l a w → wpAnyIn F m0 P md ops Q' l.length listed a w
  | [], _, _, _, _, _, hB, h => ⟨by simpa [Region.seqB] using hB, h⟩
  | o :: l, k, listed, a, w, hl, hB, h => by
    have h0 : ops[k]? = some o := by simpa using (hl 0).symm
    simp only [List.length_cons, Region.seqB, Bool.and_eq_true, decide_eq_true_eq] at hB
    refine ⟨fun h1 => (by rw [hB.1] at h1; cases h1), fun i hi => ?_⟩
    rw [hB.1] at hi
    have hik : i = k := by simpa using hi
    subst hik
    have hw : wpOpIn F m0 P ops Q' i (wpListIn F m0 P ops Q' l) a w := by unfold wpOpIn; simp only [h0]; exact h
    exact wpOpIn_mono (fun a' w' h' => wpAnyIn_of_seq l (i + 1) _ a' w' (fun j => by have := hl (j + 1); simpa [Nat.add_assoc, Nat.add_comm 1 j] using this) hB.2 h') hw

theorem wpAnyIn_head (hF : ∀ f, F.fn f) {n g : Nat} (hB : regOk ops a0.tmps.size = true)
    (hmono : ∀ i j v w w', i ≠ j → ExtB vo w0 w → Es sp vo j w w' → Φ i v w → Φ i v w') (hnN : n ≤ ops.length)
    (hstep : ∀ (i : Nat) o, i < n → ops[i]? = some o → StepAtIn F m0 P ops a0 w0 sp vo Φ Q n i o)
    (hlate : ∀ listed, HeadInv .any ops.toArray n listed → (∃ i, i < n ∧ listed.getD i true = false) → Region.ready .any ops.toArray listed ≠ [] ∧ ∀ t ∈ Region.ready .any ops.toArray listed, t < n)
    (hend : ∀ listed a w, RInv ops a0 w0 sp vo Φ n listed a w → (∀ i, i < n → listed.getD i true = true) → wpAnyIn F m0 P .any ops.toArray Q g listed a w) :
    ∀ (fuel : Nat) (listed : Array Bool) (a : Act) (w : World), ((List.range n).filter (fun i => !listed.getD i true)).length = fuel → RInv ops a0 w0 sp vo Φ n listed a w →
      wpAnyIn F m0 P .any ops.toArray Q (fuel + g) listed a w := by
  intro fuel
  induction fuel with
  | zero =>
    intro listed a w hf inv
    rw [Nat.zero_add]
    refine hend listed a w inv fun i hi => ?_
    cases h : listed.getD i true with
    | true => rfl
    | false =>
      have : i ∈ (List.range n).filter (fun i => !listed.getD i true) := List.mem_filter.2 ⟨List.mem_range.2 hi, by rw [h]; rfl⟩
      rw [List.eq_nil_of_length_eq_zero hf] at this; cases this
  | succ fuel ih =>
    intro listed a w hf inv
    rw [show fuel + 1 + g = (fuel + g) + 1 by omega]
    have hex : ∃ i, i < n ∧ listed.getD i true = false := by
      cases hl : (List.range n).filter (fun i => !listed.getD i true) with
      | nil => rw [hl] at hf; cases hf
      | cons x L =>
        have : x ∈ (List.range n).filter (fun i => !listed.getD i true) := by rw [hl]; exact List.mem_cons_self ..
        obtain ⟨h1, h2⟩ := List.mem_filter.1 this
        exact ⟨x, List.mem_range.1 h1, by simpa using h2⟩
    obtain ⟨hne, hlt⟩ := hlate listed inv.head hex
    refine ⟨fun hr => absurd hr hne, fun i hi => ?_⟩
    have hin := hlt i hi
    obtain ⟨hun, o, ho, hall⟩ := mem_ready.1 hi
    have ho' : ops[i]? = some o := by simpa using ho
    have hls : listed.size = ops.length := by rw [inv.head.size]; simp
    have hdep : Deps ops Φ a w o.after.toList := deps_of fun e he hb oj hoj => by
      have h1 := hall e (by simpa using he) hb
      refine inv.done e.on oj hoj ?_
      have h2 : e.on < listed.size := by
        rcases Nat.lt_or_ge e.on listed.size with h | h
        · exact h
        · simp [Array.getElem?_eq_none h] at h1
      simp [h2] at h1 ⊢; exact h1
    have hst := hstep i o hin ho' a w inv.ext (fun e => inv.ext0 (by rw [← e]; exact hun)) inv.outer hdep
    have next : ∀ v w', Es sp vo i w w' → Φ i (valOf o v) w' → wpAnyIn F m0 P .any ops.toArray Q (fuel + g) (listed.setIfInBounds i true) (a.put o.dst v) w' := by
      intro v w' he hv
      refine ih _ _ _ ?_ (inv.next hB hmono hi hin ho' he hv)
      have := head_count (listed := listed) (i := i) (by omega) hun _ List.nodup_range (List.mem_range.2 hin)
      omega
    unfold wpOpIn
    rw [ho]
    dsimp only
    by_cases hw : Region.wanted o (yielded ops.toArray a.tmps) = true
    · rw [if_pos hw] at hst ⊢
      refine Oper.wpIn_mono (fun a' w' h => ?_) hst
      obtain ⟨v, rfl, he, hv⟩ := h
      exact next v w' he hv
    · rw [if_neg hw] at hst ⊢
      refine ⟨fun f _ => hF f, next undef w (es_of_ext (Ext_refl w)) ?_⟩
      have e : valOf o undef = undef := by unfold valOf; cases o.dst <;> rfl
      rw [e]; exact hst
end

section
variable {F : Fence} {m0 : Nat} {P : Program} {Q : Exit → Act → World → Prop} {a : Act} {w : World} {l : List Oper}

/-- THE FIRST n OPERATIONS in whatever order; those behind them come last, in their order. -/
theorem wpIn_region_tail (hF : ∀ f, F.fn f) {id : Nat} (n : Nat) (sp : Nat) (vo : Option Nat) (Φ : Nat → Value → World → Prop) (hm : P.follows .mixedOrders = true) (hB : regOk l a.tmps.size = true) (hT : regTail l n = true)
    (hmono : ∀ i j v w1 w', i ≠ j → ExtB vo w.drew w1 → Es sp vo j w1 w' → Φ i v w1 → Φ i v w')
    (hstep : ∀ (i : Nat) o, i < n → l[i]? = some o → StepAtIn F m0 P l a w.drew sp vo Φ Q n i o)
    (hend : ∀ a' w', ExtB vo w.drew w' → Outer l a n a' → AllDone l Φ a' w' 0 n → wpListIn F m0 P l.toArray Q (l.drop n) a' w') : (Code.region id l.toArray true).wpIn F m0 P Q a w := by
  unfold regTail at hT
  simp only [Bool.and_eq_true, decide_eq_true_eq] at hT
  obtain ⟨⟨⟨hn, hs⟩, hc⟩, hseq⟩ := hT
  refine wpIn_region_any hm ?_
  have H := wpAnyIn_head (F := F) (m0 := m0) hF (P := P) (ops := l) (a0 := a) (w0 := w.drew) (sp := sp) (vo := vo) (Φ := Φ) (Q := Q) (n := n) (g := l.length - n) hB hmono (by omega) hstep
    (fun listed inv ⟨i, hi, hun⟩ => ⟨fun hr => (by
        have := all_of_ready_nil (a0 := a) hB (by rw [inv.size]; simp) hr i (by omega)
        rw [hun] at this; cases this), fun t ht => (by
        rcases Nat.lt_or_ge t n with h | h
        · exact h
        · exact absurd ht (tail_waits hs hc (by simpa using hn) inv (n - i) i rfl hi hun t h))⟩)
    (fun listed a' w' inv hall => (by
        have e := headDone_of (n := n) (N := l.length) (by rw [inv.head.size]; simp) hall (fun i h1 h2 => inv.head.tail i h1 (by simpa using h2)) (by omega)
        have h := wpAnyIn_of_seq (F := F) (m0 := m0) (P := P) (md := .any) (Q' := Q) (ops := l.toArray) (l.drop n) n listed a' w' (fun j => by simp [List.getElem?_drop]) (by rw [List.length_drop, e]; exact hseq)
          (hend a' w' inv.ext inv.outer (allDone_of _ _ fun j _ h2 o ho => inv.done j o ho (hall j (by omega))))
        rwa [List.length_drop] at h))
    n (Array.replicate l.length false) a w.drew (start_count _ _ (by omega)) (rinv_start (by omega))
  rw [show n + (l.length - n) = l.length by omega] at H
  simpa using H
end

def StepsFromIn (F : Fence) (m0 : Nat) (P : Program) (ops : List Oper) (a0 : Act) (w0 : World) (sp : Nat) (vo : Option Nat) (Φ : Nat → Value → World → Prop) (Q : Exit → Act → World → Prop) (hd : Nat) : Nat → Nat → List Oper → Prop
  | _, 0, _ => True
  | _, _ + 1, [] => True
  | i, n + 1, o :: r => StepAtIn F m0 P ops a0 w0 sp vo Φ Q hd i o ∧ StepsFromIn F m0 P ops a0 w0 sp vo Φ Q hd (i + 1) n r
theorem stepsIn_from {F : Fence} {m0 : Nat} {P : Program} {ops : List Oper} {a0 : Act} {w0 : World} {sp : Nat} {vo : Option Nat} {Φ : Nat → Value → World → Prop} {Q : Exit → Act → World → Prop} {hd : Nat} :
    ∀ (n k : Nat) (r : List Oper), StepsFromIn F m0 P ops a0 w0 sp vo Φ Q hd k n r → ∀ (i : Nat) o, i < n → r[i]? = some o → StepAtIn F m0 P ops a0 w0 sp vo Φ Q hd (k + i) o
  | 0, _, _, _, _, _, h, _ => by omega
  | _ + 1, _, [], _, _, _, _, h => by simp at h
  | n + 1, k, x :: r, h, 0, o, _, ho => by simp at ho; subst ho; exact h.1
  | n + 1, k, x :: r, h, i + 1, o, hi, ho => by
    have := stepsIn_from n (k + 1) r h.2 i o (by omega) (by simpa using ho)
    rwa [Nat.add_assoc, Nat.add_comm 1 i] at this
theorem stepsIn_of {F : Fence} {m0 : Nat} {P : Program} {ops : List Oper} {a0 : Act} {w0 : World} {sp : Nat} {vo : Option Nat} {Φ : Nat → Value → World → Prop} {Q : Exit → Act → World → Prop} {hd : Nat} (n : Nat)
    (h : StepsFromIn F m0 P ops a0 w0 sp vo Φ Q hd 0 n ops) : ∀ (i : Nat) o, i < n → ops[i]? = some o → StepAtIn F m0 P ops a0 w0 sp vo Φ Q hd i o := fun i o hi ho => by
  have := stepsIn_from n 0 ops h i o hi ho
  rwa [Nat.zero_add] at this

section
variable {F : Fence} {m0 : Nat} {P : Program} {ops : List Oper} {a0 : Act} {w0 : World} {sp : Nat} {vo : Option Nat} {Φ : Nat → Value → World → Prop} {Q : Exit → Act → World → Prop} {hd : Nat} {i : Nat} {o : Oper}
theorem stepIn_wp (h : ∀ a w1, ExtB vo w0 w1 → (i = sp → Ext w0 w1) → Outer ops a0 hd a → Deps ops Φ a w1 o.after.toList →
    Region.wanted o (yielded ops.toArray a.tmps) = true ∧ o.wpIn F m0 P a w1 (fun a' w' => ∃ v, a' = a.put o.dst v ∧ Es sp vo i w1 w' ∧ Φ i (valOf o v) w') Q) : StepAtIn F m0 P ops a0 w0 sp vo Φ Q hd i o := fun a w1 hE hS hO hD => by
  obtain ⟨h1, h2⟩ := h a w1 hE hS hO hD
  rw [if_pos h1]; exact h2

theorem wpIn_of_run (hF : ∀ f, F.fn f) {a : Act} {w w' : World} {v : Value} {K : Act → World → Prop} (hp : ∀ c, o.op ≠ .defer c) (h : (execOp a.eval o).run P w = .ok (.value v) w') (hK : K (a.put o.dst v) w') : o.wpIn F m0 P a w K Q := by
  unfold Oper.wpIn
  refine ⟨fun f _ => hF f, ?_⟩
  rw [Oper.semAt_plain F _ _ hp, h]
  exact hK
theorem wpIn_of_call {l : Nat} {a : Act} {w : World} {f : FuncId} {args : Array Value} {R : Ending → World → Prop} {K : Act → World → Prop} (hp : ∀ c, o.op ≠ .defer c) (h : (execOp a.eval o).run P w = .ok (.enter f args) w) (hc : Calls P f args w R)
    (hK : ∀ e w', R e w' → ∃ v, e = .returned v ∧ K (a.put o.dst v) w') : o.wpIn (Fence.wide.inRound l) m0 P a w K Q := by
  unfold Oper.wpIn
  refine ⟨fun _ _ => trivial, ?_⟩
  rw [Oper.semAt_plain _ _ _ hp, h]
  refine ⟨fun h => (by cases h), (CallsIn.inRound l (callsIn_wide.2 hc)).mono ?_⟩
  intro e w' hr
  obtain ⟨v, rfl, hk⟩ := hK e w' hr
  exact hk
end
end Go.Proofs.Ytbeppkokkbgddaa
