/- A region that draws its order, walked once: of each operation one says what holds of its value, in a world that may go on growing; whatever order is drawn, at the end all of it holds. -/
import Derived.Test.YtihiaopilnjonaaGreatDoorLib
import Derived.StillTail
import Derived.NoCompiler
namespace Go.Proofs.YtihiaopilnjonaaGreatDoor
open Go.RowKit

/-- Nothing that was there has turned. -/
def Ext (w w' : World) : Prop := Below w.heap.size w w'
theorem Ext_refl : ∀ w, Ext w w := fun _ => Below.refl _ _
theorem Ext_trans : ∀ a b c, Ext a b → Ext b c → Ext a c := fun _ _ _ h k => bnext h k
theorem ext_cell {w w1 : World} (h : Ext w.drew w1) {b o : Nat} {v : Value} (hc : w.cell? ⟨b, o, none⟩ = some v) : w1.cell? ⟨b, o, none⟩ = some v := by
  have e : w1.cell? ⟨b, o, none⟩ = w.cell? ⟨b, o, none⟩ := Below.cell (p := ⟨b, o, none⟩) h (lt_of_cell hc)
  rw [e]; exact hc
theorem ext_block {w w1 : World} (h : Ext w w1) {b : Nat} {x : Obj} (hc : w.heap[b]? = some x) : w1.heap[b]? = some x := (h.block b (lt_of_block hc)).trans hc
theorem ext_alloc {w w1 : World} (h : Ext w w1) (o : Obj) : Ext w (w1.alloc o) := balloc h o

/-- Nothing that was there has turned, but for one block. -/
def ExtB (row : Option Nat) (w w' : World) : Prop := w.grownBy w' row
theorem ExtB_refl (row : Option Nat) : ∀ w, ExtB row w w := fun _ => ⟨rfl, rfl, rfl, Nat.le_refl _, fun _ _ _ => rfl⟩
theorem ExtB_trans (row : Option Nat) : ∀ a b c, ExtB row a b → ExtB row b c → ExtB row a c := fun _ _ _ h k =>
  ⟨k.os.trans h.os, k.tape.trans h.tape, k.output.trans h.output, Nat.le_trans h.size k.size, fun i hi hn => (k.block i (Nat.lt_of_lt_of_le hi h.size) hn).trans (h.block i hi hn)⟩
theorem extB_block {row : Option Nat} {w w1 : World} (h : ExtB row w w1) {b : Nat} (hn : some b ≠ row) {x : Obj} (hc : w.heap[b]? = some x) : w1.heap[b]? = some x := (h.block b (lt_of_block hc) hn).trans hc
theorem extB_cell {row : Option Nat} {w w1 : World} (h : ExtB row w.drew w1) {b o : Nat} (hn : some b ≠ row) {v : Value} (hc : w.cell? ⟨b, o, none⟩ = some v) : w1.cell? ⟨b, o, none⟩ = some v := by
  have e : w1.cell? ⟨b, o, none⟩ = w.cell? ⟨b, o, none⟩ := World.cell?_of_block (w := w) (h.block b (lt_of_cell hc) hn)
  rw [e]; exact hc
theorem extB_alloc (row : Option Nat) (w : World) (o : Obj) : ExtB row w (w.alloc o) := World.grownBy_alloc w o row
theorem wp_of_run {P : Program} {o : Oper} {a : Act} {w w' : World} {v : Value} {K : Act → World → Prop} {Q : Exit → Act → World → Prop} (h : (execOp a.eval o).run P w = .ok (.value v) w') (hK : K (a.put o.dst v) w') : o.wp P a w K Q := by
  unfold Oper.wp; rw [h]; exact hK

/-- What operation j may do to the world: the special one may write into one block. -/
def Es (sp : Nat) (vo : Option Nat) (j : Nat) (w w' : World) : Prop := if j = sp then ExtB vo w w' else Ext w w'
theorem ext_extB {vo : Option Nat} {w w' : World} (h : Ext w w') : ExtB vo w w' := ⟨h.os, h.tape, h.output, h.size, fun i hi _ => h.block i hi⟩
theorem es_extB {sp j : Nat} {vo : Option Nat} {w w' : World} (h : Es sp vo j w w') : ExtB vo w w' := by
  unfold Es at h; split at h
  · exact h
  · exact ext_extB h
theorem es_of_ext {sp j : Nat} {vo : Option Nat} {w w' : World} (h : Ext w w') : Es sp vo j w w' := by
  unfold Es; split
  · exact ext_extB h
  · exact h
theorem es_sp {sp : Nat} {vo : Option Nat} {w w' : World} (h : ExtB vo w w') : Es sp vo sp w w' := by unfold Es; rw [if_pos rfl]; exact h

/-- What lies in an operation's slot. -/
def slotOf (o : Oper) (a : Act) : Value := match o.dst with | some d => a.eval (.tmp d) | none => undef

/-- What counts of an operation's value: nothing, if it writes no slot. -/
def valOf (o : Oper) (v : Value) : Value := match o.dst with | some _ => v | none => undef

def dstsOf (ops : List Oper) : List Nat := ops.filterMap (·.dst)

/-- Closed facts of a region: edges go back, no slot is written twice. -/
def regOk (ops : List Oper) (n : Nat) : Bool :=
  (ops.zipIdx.all fun (o, i) => o.after.all fun e => !Region.binds .any e || decide (e.on < i)) && decide (dstsOf ops).Nodup && (dstsOf ops).all (fun d => decide (d < n))

section
variable (P : Program) (ops : List Oper) (a0 : Act) (w0 : World) (sp : Nat) (vo : Option Nat) (Φ : Nat → Value → World → Prop) (Q : Exit → Act → World → Prop)

/-- Where the operations write, anything may lie; all else is as it was. -/
def Outer (hd : Nat) (a : Act) : Prop := a.defers = a0.defers ∧ a.tmps.size = a0.tmps.size ∧ ∀ t, (dstsOf (ops.take hd)).contains t = false → a.eval (.tmp t) = a0.eval (.tmp t)

/-- What the operations that come before this one have left. -/
def Deps (a : Act) (w : World) : List Edge → Prop
  | [] => True
  | e :: r => (Region.binds .any e = true → ∀ o, ops[e.on]? = some o → Φ e.on (slotOf o a) w) ∧ Deps a w r

def StepAt (hd : Nat) (i : Nat) (o : Oper) : Prop := ∀ a w, ExtB vo w0 w → (i = sp → Ext w0 w) → Outer ops a0 hd a → Deps ops Φ a w o.after.toList →
  if Region.wanted o (yielded ops.toArray a.tmps) then o.wp P a w (fun a' w' => ∃ v, a' = a.put o.dst v ∧ Es sp vo i w w' ∧ Φ i (valOf o v) w') Q else Φ i undef w

structure RInv (n : Nat) (listed : Array Bool) (a : Act) (w : World) : Prop where
  head : HeadInv .any ops.toArray n listed
  ext : ExtB vo w0 w
  ext0 : listed.getD sp true = false → Ext w0 w
  outer : Outer ops a0 n a
  done : ∀ (i : Nat) o, ops[i]? = some o → listed.getD i true = true → Φ i (slotOf o a) w

variable {P ops a0 w0 sp vo Φ Q}

theorem deps_of {a : Act} {w : World} : ∀ {l : List Edge}, (∀ e ∈ l, Region.binds .any e = true → ∀ o, ops[e.on]? = some o → Φ e.on (slotOf o a) w) → Deps ops Φ a w l
  | [], _ => trivial
  | e :: r, h => ⟨h e (List.mem_cons_self ..), deps_of fun e' he' => h e' (List.mem_cons_of_mem _ he')⟩

theorem dst_two {ops : List Oper} (hn : (dstsOf ops).Nodup) {i j : Nat} (hij : i ≠ j) {oi oj : Oper} {d : Nat} (hi : ops[i]? = some oi) (hj : ops[j]? = some oj) (h1 : oi.dst = some d) (h2 : oj.dst = some d) : False := by
  induction ops generalizing i j with
  | nil => simp at hi
  | cons o r ih =>
    unfold dstsOf at hn
    rw [List.filterMap_cons] at hn
    have hr : (dstsOf r).Nodup := by
      unfold dstsOf
      cases ho : o.dst with
      | none => rw [ho] at hn; exact hn
      | some d' => rw [ho] at hn; exact (List.nodup_cons.1 hn).2
    have head : ∀ (k : Nat) ok, r[k]? = some ok → o.dst = some d → ok.dst = some d → False := fun k ok hk ho hok => by
      rw [ho] at hn
      exact (List.nodup_cons.1 hn).1 (List.mem_filterMap.2 ⟨ok, List.mem_of_getElem? hk, hok⟩)
    cases i with
    | zero =>
      cases j with
      | zero => exact hij rfl
      | succ j =>
        simp at hi hj; subst hi
        exact head j oj hj h1 h2
    | succ i =>
      cases j with
      | zero =>
        simp at hi hj; subst hj
        exact head i oi hi h2 h1
      | succ j => exact ih hr (fun e => hij (congrArg (· + 1) e)) (by simpa using hi) (by simpa using hj)

theorem eval_put_ne {a : Act} {d t : Nat} {v : Value} (h : t ≠ d) : (a.put (some d) v).eval (.tmp t) = a.eval (.tmp t) := by
  show (a.tmps.setIfInBounds d v).getD t undef = a.tmps.getD t undef
  simp [Array.getD_eq_getD_getElem?, Array.getElem?_setIfInBounds_ne (Ne.symm h)]
theorem eval_put_same {a : Act} {d : Nat} {v : Value} (h : d < a.tmps.size) : (a.put (some d) v).eval (.tmp d) = v := by
  show (a.tmps.setIfInBounds d v).getD d undef = v
  simp [Array.getD_eq_getD_getElem?, h]

theorem all_of_ready_nil (hB : regOk ops a0.tmps.size = true) {listed : Array Bool} (hs : listed.size = ops.length) (hr : Region.ready .any ops.toArray listed = []) :
    ∀ i, i < ops.length → listed.getD i true = true := by
  intro i
  induction i using Nat.strongRecOn with
  | _ i ih =>
    intro hi
    cases h : listed.getD i true with
    | true => rfl
    | false =>
      exfalso
      have hm : i ∈ Region.ready .any ops.toArray listed := by
        refine mem_ready.2 ⟨h, ops[i], by simp [hi], fun e he hb => ?_⟩
        have h1 : (ops.zipIdx.all fun (o, i) => o.after.all fun e => !Region.binds .any e || decide (e.on < i)) = true := by
          unfold regOk at hB; simp only [Bool.and_eq_true] at hB; exact hB.1.1
        have h2 := List.all_eq_true.1 h1 (ops[i], i) (by rw [List.mem_zipIdx_iff_getElem?]; simp [hi])
        have h3 := Array.all_eq_true'.1 h2 e he
        simp only [hb, Bool.not_true, Bool.false_or, decide_eq_true_eq] at h3
        have h4 := ih e.on h3 (by omega)
        have h5 : e.on < listed.size := by omega
        simp [h5] at h4 ⊢; exact h4
      rw [hr] at hm; cases hm

/-- The head is through. -/
def AllDone (ops : List Oper) (Φ : Nat → Value → World → Prop) (a : Act) (w : World) : Nat → Nat → Prop
  | _, 0 => True
  | i, n + 1 => (∀ o, ops[i]? = some o → Φ i (slotOf o a) w) ∧ AllDone ops Φ a w (i + 1) n
theorem allDone_of {a : Act} {w : World} : ∀ (n i : Nat), (∀ j, i ≤ j → j < i + n → ∀ o, ops[j]? = some o → Φ j (slotOf o a) w) → AllDone ops Φ a w i n
  | 0, _, _ => trivial
  | n + 1, i, h => ⟨h i (Nat.le_refl _) (by omega), allDone_of n (i + 1) fun j h1 h2 => h j (by omega) (by omega)⟩

/-- One step of the head. -/
theorem RInv.next {n : Nat} (hB : regOk ops a0.tmps.size = true)
    (hmono : ∀ i j v w w', i ≠ j → ExtB vo w0 w → Es sp vo j w w' → Φ i v w → Φ i v w') {listed : Array Bool} {a : Act} {w : World} (inv : RInv ops a0 w0 sp vo Φ n listed a w)
    {i : Nat} {o : Oper} (hi : i ∈ Region.ready .any ops.toArray listed) (hin : i < n) (ho' : ops[i]? = some o) {v : Value} {w' : World} (he : Es sp vo i w w') (hv : Φ i (valOf o v) w') :
    RInv ops a0 w0 sp vo Φ n (listed.setIfInBounds i true) (a.put o.dst v) w' := by
  have hnd : (dstsOf ops).Nodup := by unfold regOk at hB; simp only [Bool.and_eq_true, decide_eq_true_eq] at hB; exact hB.1.2
  have hdl : ∀ d ∈ dstsOf ops, d < a0.tmps.size := by
    unfold regOk at hB; simp only [Bool.and_eq_true] at hB
    intro d hd; simpa using List.all_eq_true.1 hB.2 d hd
  refine ⟨inv.head.set hi hin, ExtB_trans _ _ _ _ inv.ext (es_extB he), fun hl => ?_, ?_, ?_⟩
  · by_cases his : i = sp
    · exfalso
      subst his
      obtain ⟨hun, o', ho, _⟩ := mem_ready.1 hi
      have hil : i < listed.size := by rw [inv.head.size]; exact (Array.getElem?_eq_some_iff.1 ho).1
      simp [hil] at hl
    · rw [getD_set_ne true his] at hl
      unfold Es at he; rw [if_neg his] at he
      exact Ext_trans _ _ _ (inv.ext0 hl) he
  · obtain ⟨h1, h2, h3⟩ := inv.outer
    cases hd : o.dst with
    | none => exact ⟨h1, h2, h3⟩
    | some d =>
      refine ⟨h1, by simp [Act.put, h2], fun t ht => ?_⟩
      have hmem : d ∈ dstsOf (ops.take n) := List.mem_filterMap.2 ⟨o, List.mem_of_getElem? (i := i) (by rw [List.getElem?_take, if_pos hin]; exact ho'), hd⟩
      rw [eval_put_ne (by rintro rfl; simp at ht; exact ht hmem)]; exact h3 t ht
  · intro j oj hoj hl
    by_cases hij : j = i
    · subst hij
      have : oj = o := Option.some.inj (hoj.symm.trans ho')
      subst this
      unfold slotOf
      unfold valOf at hv
      cases hd : oj.dst with
      | none => simpa [hd] using hv
      | some d =>
        simp only [hd] at hv
        have hmem : d ∈ dstsOf ops := List.mem_filterMap.2 ⟨oj, List.mem_of_getElem? ho', hd⟩
        simp only
        rw [eval_put_same (by rw [inv.outer.2.1]; exact hdl d hmem)]; exact hv
    · rw [getD_set_ne true (Ne.symm hij)] at hl
      have h1 := hmono j i _ w w' hij inv.ext he (inv.done j oj hoj hl)
      unfold slotOf at h1 ⊢
      cases hdj : oj.dst with
      | none => first | exact h1 | simpa [hdj] using h1
      | some d =>
        try simp only [hdj] at h1 ⊢
        cases hdo : o.dst with
        | none => exact h1
        | some d' =>
          have hne : d ≠ d' := by
            rintro rfl
            exact dst_two hnd (Ne.symm hij) ho' hoj hdo hdj
          rw [eval_put_ne hne]; exact h1

/-- How many of the head are still to come falls by one. -/
theorem head_count {listed : Array Bool} {i : Nat} (hil : i < listed.size) (hun : listed.getD i true = false) : ∀ L : List Nat, L.Nodup → i ∈ L →
    (L.filter (fun j => !(listed.setIfInBounds i true).getD j true)).length + 1 = (L.filter (fun j => !listed.getD j true)).length := by
  intro L
  induction L with
  | nil => intro _ h; cases h
  | cons x L ihL =>
    intro hnd hm
    rw [List.nodup_cons] at hnd
    simp only [List.filter_cons]
    by_cases hx : x = i
    · subst hx
      have e1 : (listed.setIfInBounds x true).getD x true = true := by simp [hil]
      have e2 : L.filter (fun j => !(listed.setIfInBounds x true).getD j true) = L.filter (fun j => !listed.getD j true) := by
        apply List.filter_congr
        intro y hy
        rw [getD_set_ne true (by rintro rfl; exact hnd.1 hy)]
      simp only [e1, hun, e2]; simp
    · have hm' : i ∈ L := by rcases List.mem_cons.1 hm with h | h
                             · exact absurd h.symm hx
                             · exact h
      have h2 := ihL hnd.2 hm'
      rw [getD_set_ne true (Ne.symm hx)]
      split <;> (try simp only [List.length_cons]) <;> omega

/-- What is listed when the head is through. -/
def headDone (n N : Nat) : Array Bool := ((List.range N).map (fun i => decide (i < n))).toArray

/-- Closed facts of a region whose operations from the n-th on come last, in their order. -/
def regTail (ops : List Oper) (n : Nat) : Bool :=
  decide (n < ops.length) && Region.sinkB .any ops.toArray n && Region.chainB .any ops.toArray n && Region.seqB .any ops.toArray (ops.length - n) n (headDone n ops.length)

theorem wpAny_head {n g : Nat} (hB : regOk ops a0.tmps.size = true)
    (hmono : ∀ i j v w w', i ≠ j → ExtB vo w0 w → Es sp vo j w w' → Φ i v w → Φ i v w') (hnN : n ≤ ops.length)
    (hstep : ∀ (i : Nat) o, i < n → ops[i]? = some o → StepAt P ops a0 w0 sp vo Φ Q n i o)
    (hlate : ∀ listed, HeadInv .any ops.toArray n listed → (∃ i, i < n ∧ listed.getD i true = false) → Region.ready .any ops.toArray listed ≠ [] ∧ ∀ t ∈ Region.ready .any ops.toArray listed, t < n)
    (hend : ∀ listed a w, RInv ops a0 w0 sp vo Φ n listed a w → (∀ i, i < n → listed.getD i true = true) → wpAny P .any ops.toArray Q g listed a w) :
    ∀ (fuel : Nat) (listed : Array Bool) (a : Act) (w : World), ((List.range n).filter (fun i => !listed.getD i true)).length = fuel → RInv ops a0 w0 sp vo Φ n listed a w →
      wpAny P .any ops.toArray Q (fuel + g) listed a w := by
  intro fuel
  induction fuel with
  | zero =>
    intro listed a w hf inv
    rw [Nat.zero_add]
    refine hend listed a w inv fun i hi => ?_
    cases h : listed.getD i true with
    | true => rfl
    | false =>
      have : i ∈ (List.range n).filter (fun i => !listed.getD i true) := List.mem_filter.2 ⟨List.mem_range.2 hi, by rw [h]; rfl⟩
      rw [List.eq_nil_of_length_eq_zero hf] at this; cases this
  | succ fuel ih =>
    intro listed a w hf inv
    rw [show fuel + 1 + g = (fuel + g) + 1 by omega]
    have hex : ∃ i, i < n ∧ listed.getD i true = false := by
      cases hl : (List.range n).filter (fun i => !listed.getD i true) with
      | nil => rw [hl] at hf; cases hf
      | cons x L =>
        have : x ∈ (List.range n).filter (fun i => !listed.getD i true) := by rw [hl]; exact List.mem_cons_self ..
        obtain ⟨h1, h2⟩ := List.mem_filter.1 this
        exact ⟨x, List.mem_range.1 h1, by simpa using h2⟩
    obtain ⟨hne, hlt⟩ := hlate listed inv.head hex
    refine ⟨fun hr => absurd hr hne, fun i hi => ?_⟩
    have hin := hlt i hi
    obtain ⟨hun, o, ho, hall⟩ := mem_ready.1 hi
    have ho' : ops[i]? = some o := by simpa using ho
    have hls : listed.size = ops.length := by rw [inv.head.size]; simp
    have hdep : Deps ops Φ a w o.after.toList := deps_of fun e he hb oj hoj => by
      have h1 := hall e (by simpa using he) hb
      refine inv.done e.on oj hoj ?_
      have h2 : e.on < listed.size := by
        rcases Nat.lt_or_ge e.on listed.size with h | h
        · exact h
        · simp [Array.getElem?_eq_none h] at h1
      simp [h2] at h1 ⊢; exact h1
    have hst := hstep i o hin ho' a w inv.ext (fun e => inv.ext0 (by rw [← e]; exact hun)) inv.outer hdep
    have next : ∀ v w', Es sp vo i w w' → Φ i (valOf o v) w' → wpAny P .any ops.toArray Q (fuel + g) (listed.setIfInBounds i true) (a.put o.dst v) w' := by
      intro v w' he hv
      refine ih _ _ _ ?_ (inv.next hB hmono hi hin ho' he hv)
      have := head_count (listed := listed) (i := i) (by omega) hun _ List.nodup_range (List.mem_range.2 hin)
      omega
    unfold wpOp
    rw [ho]
    dsimp only
    by_cases hw : Region.wanted o (yielded ops.toArray a.tmps) = true
    · rw [if_pos hw] at hst ⊢
      left
      refine Oper.wp_mono (fun a' w' h => ?_) hst
      obtain ⟨v, rfl, he, hv⟩ := h
      exact next v w' he hv
    · rw [if_neg hw] at hst ⊢
      refine next undef w (es_of_ext (Ext_refl w)) ?_
      have e : valOf o undef = undef := by unfold valOf; cases o.dst <;> rfl
      rw [e]; exact hst
end

section
variable {P : Program} {Q : Exit → Act → World → Prop} {a : Act} {w : World} {l : List Oper} {vo : Option Nat} {Φ : Nat → Value → World → Prop}

theorem rinv_start {n sp : Nat} (hn : n ≤ l.length) : RInv l a w.drew sp vo Φ n (Array.replicate l.length false) a w.drew :=
  ⟨⟨by simp, fun j oj _ hl => (by rw [getD_replicate_false] at hl; cases hl), fun t _ ht => getD_in (by simpa using ht) (getD_replicate_false _ _)⟩, ExtB_refl _ _, fun _ => Ext_refl _, ⟨rfl, rfl, fun _ _ => rfl⟩,
    fun i o ho hl => (by
      have hi := (List.getElem?_eq_some_iff.1 ho).1
      rw [getD_in (by simpa using hi) (getD_replicate_false _ _)] at hl; cases hl)⟩

theorem start_count (n N : Nat) (h : n ≤ N) : ((List.range n).filter (fun i => !(Array.replicate N false).getD i true)).length = n := by
  have e : (List.range n).filter (fun i => !(Array.replicate N false).getD i true) = List.range n := by
    rw [List.filter_eq_self]
    intro i hi
    have hi' := List.mem_range.1 hi
    rw [getD_in (by simp; omega) (getD_replicate_false _ _)]; rfl
  rw [e, List.length_range]

/-- ALL OPERATIONS, in whatever order. -/
theorem wp_region_all {id : Nat} (sp : Nat) (vo : Option Nat) (Φ : Nat → Value → World → Prop) (hm : P.follows .mixedOrders = true) (hB : regOk l a.tmps.size = true)
    (hmono : ∀ i j v w1 w', i ≠ j → ExtB vo w.drew w1 → Es sp vo j w1 w' → Φ i v w1 → Φ i v w')
    (hstep : ∀ (i : Nat) o, i < l.length → l[i]? = some o → StepAt P l a w.drew sp vo Φ Q l.length i o)
    (hend : ∀ a' w', ExtB vo w.drew w' → Outer l a l.length a' → AllDone l Φ a' w' 0 l.length → Q .normal a' w') : (Code.region id l.toArray true).wp P Q a w := by
  refine wp_region_any hm ?_
  have H := wpAny_head (P := P) (ops := l) (a0 := a) (w0 := w.drew) (sp := sp) (vo := vo) (Φ := Φ) (Q := Q) (n := l.length) (g := 0) hB hmono (Nat.le_refl _) hstep
    (fun listed inv ⟨i, hi, hun⟩ => ⟨fun hr => (by
        have := all_of_ready_nil (a0 := a) hB (by rw [inv.size]; simp) hr i hi
        rw [hun] at this; cases this), fun t ht => (by
        obtain ⟨_, o, ho, _⟩ := mem_ready.1 ht
        have := (Array.getElem?_eq_some_iff.1 ho).1; simpa using this)⟩)
    (fun listed a' w' inv hall => ⟨(by
        rw [List.eq_nil_iff_forall_not_mem]
        intro i hi
        obtain ⟨h1, o, ho, _⟩ := mem_ready.1 hi
        have := hall i (by have := (Array.getElem?_eq_some_iff.1 ho).1; simpa using this)
        rw [h1] at this; cases this), hend a' w' inv.ext inv.outer (allDone_of _ _ fun j _ h2 o ho => inv.done j o ho (hall j (by omega)))⟩)
    l.length (Array.replicate l.length false) a w.drew (start_count _ _ (Nat.le_refl _)) (rinv_start (Nat.le_refl _))
  simpa using H

theorem headDone_of {n N : Nat} {listed : Array Bool} (hs : listed.size = N) (h1 : ∀ i, i < n → listed.getD i true = true) (h2 : ∀ i, n ≤ i → i < N → listed.getD i true = false) (hn : n ≤ N) : listed = headDone n N := by
  apply Array.ext
  · simp [headDone, hs]
  · intro i h3 h4
    have h5 : listed.getD i true = listed[i] := by simp [h3]
    have e : (headDone n N)[i] = decide (i < n) := by simp [headDone]
    rw [e, ← h5]
    rcases Nat.lt_or_ge i n with h | h
    · rw [h1 i h]; simp [h]
    · rw [h2 i h (by omega)]; simp; omega

/-- THE FIRST n OPERATIONS in whatever order; those behind them come last, in their order. -/
theorem wp_region_tail {id : Nat} (n : Nat) (sp : Nat) (vo : Option Nat) (Φ : Nat → Value → World → Prop) (hm : P.follows .mixedOrders = true) (hB : regOk l a.tmps.size = true) (hT : regTail l n = true)
    (hmono : ∀ i j v w1 w', i ≠ j → ExtB vo w.drew w1 → Es sp vo j w1 w' → Φ i v w1 → Φ i v w')
    (hstep : ∀ (i : Nat) o, i < n → l[i]? = some o → StepAt P l a w.drew sp vo Φ Q n i o)
    (hend : ∀ a' w', ExtB vo w.drew w' → Outer l a n a' → AllDone l Φ a' w' 0 n → wpList P l.toArray Q (l.drop n) a' w') : (Code.region id l.toArray true).wp P Q a w := by
  unfold regTail at hT
  simp only [Bool.and_eq_true, decide_eq_true_eq] at hT
  obtain ⟨⟨⟨hn, hs⟩, hc⟩, hseq⟩ := hT
  refine wp_region_any hm ?_
  have H := wpAny_head (P := P) (ops := l) (a0 := a) (w0 := w.drew) (sp := sp) (vo := vo) (Φ := Φ) (Q := Q) (n := n) (g := l.length - n) hB hmono (by omega) hstep
    (fun listed inv ⟨i, hi, hun⟩ => ⟨fun hr => (by
        have := all_of_ready_nil (a0 := a) hB (by rw [inv.size]; simp) hr i (by omega)
        rw [hun] at this; cases this), fun t ht => (by
        rcases Nat.lt_or_ge t n with h | h
        · exact h
        · exact absurd ht (tail_waits hs hc (by simpa using hn) inv (n - i) i rfl hi hun t h))⟩)
    (fun listed a' w' inv hall => (by
        have e := headDone_of (n := n) (N := l.length) (by rw [inv.head.size]; simp) hall (fun i h1 h2 => inv.head.tail i h1 (by simpa using h2)) (by omega)
        have h := wpAny_of_seq (P := P) (md := .any) (Q' := Q) (ops := l.toArray) (l.drop n) n listed a' w' (fun j => by simp [List.getElem?_drop]) (by rw [List.length_drop, e]; exact hseq)
          (hend a' w' inv.ext inv.outer (allDone_of _ _ fun j _ h2 o ho => inv.done j o ho (hall j (by omega))))
        rwa [List.length_drop] at h))
    n (Array.replicate l.length false) a w.drew (start_count _ _ (by omega)) (rinv_start (by omega))
  rw [show n + (l.length - n) = l.length by omega] at H
  simpa using H
end

theorem ev_form (a : Act) (t : Nat) : a.eval (.tmp t) = a.tmps[t]?.getD undef := by show a.tmps.getD t undef = _; rw [Array.getD_eq_getD_getElem?]

/-! ### For use, by the lines that a program prints -/
theorem wp_of_call {P : Program} {o : Oper} {a : Act} {w : World} {v : Value} {f : FuncId} {args : Array Value} {K : Act → World → Prop} {Q : Exit → Act → World → Prop} (h : (execOp a.eval o).run P w = .ok (.enter f args) w)
    (hc : Calls P f args w (fun e w' => e = .returned v ∧ Below w.heap.size w w')) (hK : ∀ w', Below w.heap.size w w' → K (a.put o.dst v) w') : o.wp P a w K Q := by
  unfold Oper.wp; rw [h]
  exact hc.mono fun e w' ⟨he, hb⟩ => by subst he; exact hK w' hb
theorem wp_of_panic {P : Program} {o : Oper} {a : Act} {w : World} {chain : List PanicEntry} {f : FuncId} {args : Array Value} {K : Act → World → Prop} {Q : Exit → Act → World → Prop} (h : (execOp a.eval o).run P w = .ok (.enter f args) w)
    (hc : Calls P f args w (fun e w' => e = .panicked chain ∧ Below w.heap.size w w')) (hK : ∀ w', Below w.heap.size w w' → Q (.panic chain) a w') : o.wp P a w K Q := by
  unfold Oper.wp; rw [h]
  exact hc.mono fun e w' ⟨he, hb⟩ => by subst he; exact hK w' hb
theorem extB_none {w w' : World} (h : ExtB none w w') : Below w.heap.size w w' := ⟨h.os, h.tape, h.output, h.size, fun i hi => h.block i hi (by simp)⟩

theorem of_drew {w w1 : World} (h : ExtB none w.drew w1) : Below w.heap.size w w1 := bnext (bdrew (Below.refl _ _)) (extB_none h)

def phis (L : List (Value → World → Prop)) (i : Nat) : Value → World → Prop := L.getD i (fun _ _ => True)
/-- Each predicate lasts: whatever is made; and, but for the special operation's own, while that block is written. -/
def MonoAll (sp : Nat) (vo : Option Nat) : Nat → List (Value → World → Prop) → Prop
  | _, [] => True
  | i, φ :: r => ((∀ v w1 w', Ext w1 w' → φ v w1 → φ v w') ∧ (i ≠ sp → ∀ v w1 w', ExtB vo w1 w' → φ v w1 → φ v w')) ∧ MonoAll sp vo (i + 1) r
theorem mono_at {sp : Nat} {vo : Option Nat} : ∀ {L : List (Value → World → Prop)} {k : Nat}, MonoAll sp vo k L → ∀ i v w1 w',
    (Ext w1 w' → L.getD i (fun _ _ => True) v w1 → L.getD i (fun _ _ => True) v w') ∧ (k + i ≠ sp → ExtB vo w1 w' → L.getD i (fun _ _ => True) v w1 → L.getD i (fun _ _ => True) v w')
  | [], _, _, _, _, _, _ => by simp
  | φ :: r, k, h, 0, v, w1, w' => ⟨h.1.1 v w1 w', fun hn => h.1.2 hn v w1 w'⟩
  | φ :: r, k, h, i + 1, v, w1, w' => by
    have := mono_at (L := r) h.2 i v w1 w'
    rw [Nat.add_assoc, Nat.add_comm 1 i] at this
    exact this
theorem mono_of {sp : Nat} {vo : Option Nat} {w0 : World} {L : List (Value → World → Prop)} (h : MonoAll sp vo 0 L) : ∀ i j v w1 w', i ≠ j → ExtB vo w0 w1 → Es sp vo j w1 w' → phis L i v w1 → phis L i v w' := by
  intro i j v w1 w' hij _ he hp
  have hh := mono_at h i v w1 w'
  rw [Nat.zero_add] at hh
  unfold Es at he
  split at he
  · rename_i hj; exact hh.2 (by rw [← hj]; exact hij) he hp
  · exact hh.1 he hp
/-- For a predicate that does not speak of the world. -/
theorem mono_eq {sp : Nat} {vo : Option Nat} {i : Nat} {f : Value → Prop} : (∀ v w1 w', Ext w1 w' → (fun v (_ : World) => f v) v w1 → (fun v (_ : World) => f v) v w') ∧ (i ≠ sp → ∀ v w1 w', ExtB vo w1 w' → (fun v (_ : World) => f v) v w1 → (fun v (_ : World) => f v) v w') :=
  ⟨fun _ _ _ _ h => h, fun _ _ _ _ _ h => h⟩

def StepsFrom (P : Program) (ops : List Oper) (a0 : Act) (w0 : World) (sp : Nat) (vo : Option Nat) (Φ : Nat → Value → World → Prop) (Q : Exit → Act → World → Prop) (hd : Nat) : Nat → Nat → List Oper → Prop
  | _, 0, _ => True
  | _, _ + 1, [] => True
  | i, n + 1, o :: r => StepAt P ops a0 w0 sp vo Φ Q hd i o ∧ StepsFrom P ops a0 w0 sp vo Φ Q hd (i + 1) n r
theorem steps_from {P : Program} {ops : List Oper} {a0 : Act} {w0 : World} {sp : Nat} {vo : Option Nat} {Φ : Nat → Value → World → Prop} {Q : Exit → Act → World → Prop} {hd : Nat} :
    ∀ (n k : Nat) (r : List Oper), StepsFrom P ops a0 w0 sp vo Φ Q hd k n r → ∀ (i : Nat) o, i < n → r[i]? = some o → StepAt P ops a0 w0 sp vo Φ Q hd (k + i) o
  | 0, _, _, _, _, _, h, _ => by omega
  | _ + 1, _, [], _, _, _, _, h => by simp at h
  | n + 1, k, x :: r, h, 0, o, _, ho => by simp at ho; subst ho; exact h.1
  | n + 1, k, x :: r, h, i + 1, o, hi, ho => by
    have := steps_from n (k + 1) r h.2 i o (by omega) (by simpa using ho)
    rwa [Nat.add_assoc, Nat.add_comm 1 i] at this
theorem steps_of {P : Program} {ops : List Oper} {a0 : Act} {w0 : World} {sp : Nat} {vo : Option Nat} {Φ : Nat → Value → World → Prop} {Q : Exit → Act → World → Prop} {hd : Nat} (n : Nat)
    (h : StepsFrom P ops a0 w0 sp vo Φ Q hd 0 n ops) : ∀ (i : Nat) o, i < n → ops[i]? = some o → StepAt P ops a0 w0 sp vo Φ Q hd i o := fun i o hi ho => by
  have := steps_from n 0 ops h i o hi ho
  rwa [Nat.zero_add] at this

section
variable {P : Program} {ops : List Oper} {a0 : Act} {w0 : World} {sp : Nat} {vo : Option Nat} {Φ : Nat → Value → World → Prop} {Q : Exit → Act → World → Prop} {hd : Nat} {i : Nat} {o : Oper}

theorem step_wp (h : ∀ a w1, ExtB vo w0 w1 → (i = sp → Ext w0 w1) → Outer ops a0 hd a → Deps ops Φ a w1 o.after.toList →
    Region.wanted o (yielded ops.toArray a.tmps) = true ∧ o.wp P a w1 (fun a' w' => ∃ v, a' = a.put o.dst v ∧ Es sp vo i w1 w' ∧ Φ i (valOf o v) w') Q) : StepAt P ops a0 w0 sp vo Φ Q hd i o := fun a w1 hE hS hO hD => by
  obtain ⟨h1, h2⟩ := h a w1 hE hS hO hD
  rw [if_pos h1]; exact h2

theorem step_val {v : Value} (h : ∀ a w1, ExtB vo w0 w1 → (i = sp → Ext w0 w1) → Outer ops a0 hd a → Deps ops Φ a w1 o.after.toList →
    Region.wanted o (yielded ops.toArray a.tmps) = true ∧ (execOp a.eval o).run P w1 = .ok (.value v) w1) (hφ : ∀ w1, Φ i (valOf o v) w1) : StepAt P ops a0 w0 sp vo Φ Q hd i o := fun a w1 hE hS hO hD => by
  obtain ⟨h1, h2⟩ := h a w1 hE hS hO hD
  rw [if_pos h1]
  unfold Oper.wp
  rw [h2]
  exact ⟨v, rfl, es_of_ext (Ext_refl w1), hφ w1⟩

theorem step_skip (h : ∀ a w1, ExtB vo w0 w1 → (i = sp → Ext w0 w1) → Outer ops a0 hd a → Deps ops Φ a w1 o.after.toList → Region.wanted o (yielded ops.toArray a.tmps) = false) (hφ : ∀ w1, Φ i undef w1) : StepAt P ops a0 w0 sp vo Φ Q hd i o := fun a w1 hE hS hO hD => by
  rw [if_neg (by rw [h a w1 hE hS hO hD]; exact Bool.false_ne_true)]; exact hφ w1

theorem yielded_of {ops : Array Oper} {j d : Nat} {oj : Oper} {a : Act} {b : Bool} (hj : ops[j]? = some oj) (hd : oj.dst = some d) (hv : a.eval (.tmp d) = .bool b) : yielded ops a.tmps j = some b := by
  have h : a.tmps.getD d undef = .bool b := hv
  unfold yielded
  rw [hj]
  simp only [Option.bind_some, hd]
  cases ht : a.tmps[d]? with
  | none =>
    rw [Array.getD_eq_getD_getElem?, ht] at h
    cases h
  | some x =>
    rw [Array.getD_eq_getD_getElem?, ht] at h
    simp at h; subst h; rfl

theorem wanted_of {l : List Oper} {o oj : Oper} {j d : Nat} {want b : Bool} {a : Act} (hg : o.guard = some (j, want)) (hj : l.toArray[j]? = some oj) (hd : oj.dst = some d) (hv : a.eval (.tmp d) = .bool b) :
    Region.wanted o (yielded l.toArray a.tmps) = (b == want) := by
  unfold Region.wanted
  rw [hg]
  simp only [yielded_of hj hd hv]
  cases b <;> cases want <;> rfl

theorem act_of_outer {a : Act} {ds : List Nat} (hds : dstsOf (ops.take hd) = ds) (h : Outer ops a0 hd a) (hB : regOk ops a0.tmps.size = true) : a = ds.foldl (fun b d => b.put (some d) (a.eval (.tmp d))) a0 := by
  subst hds
  have hdl : ∀ d ∈ dstsOf (ops.take hd), d < a0.tmps.size := by
    unfold regOk at hB; simp only [Bool.and_eq_true] at hB
    intro d hdd
    obtain ⟨o, ho, hd'⟩ := List.mem_filterMap.1 hdd
    simpa using List.all_eq_true.1 hB.2 d (List.mem_filterMap.2 ⟨o, List.mem_of_mem_take ho, hd'⟩)
  obtain ⟨h1, h2, h3⟩ := h
  have gen : ∀ (ds : List Nat) (b : Act), b.defers = a.defers → b.tmps.size = a.tmps.size → (∀ d ∈ ds, d < b.tmps.size) →
      (ds.foldl (fun b d => b.put (some d) (a.eval (.tmp d))) b).defers = a.defers ∧ (ds.foldl (fun b d => b.put (some d) (a.eval (.tmp d))) b).tmps.size = a.tmps.size ∧
      ∀ t, (ds.foldl (fun b d => b.put (some d) (a.eval (.tmp d))) b).eval (.tmp t) = if ds.contains t then a.eval (.tmp t) else b.eval (.tmp t) := by
    intro ds
    induction ds with
    | nil => intro b hb1 hb2 _; exact ⟨hb1, hb2, fun t => by simp⟩
    | cons d ds ih =>
      intro b hb1 hb2 hb3
      obtain ⟨i1, i2, i3⟩ := ih (b.put (some d) (a.eval (.tmp d))) hb1 (by simp [Act.put, hb2]) (fun d' hd' => by simp [Act.put]; exact hb3 d' (List.mem_cons_of_mem _ hd'))
      refine ⟨i1, i2, fun t => ?_⟩
      rw [List.foldl_cons, i3 t]
      by_cases ht : ds.contains t = true
      · simp at ht; simp [ht]
      · by_cases htd : t = d
        · subst htd
          rw [eval_put_same (hb3 t (List.mem_cons_self ..))]; simp
        · rw [eval_put_ne htd]
          simp at ht; simp [ht, htd]
  obtain ⟨g1, g2, g3⟩ := gen (dstsOf (ops.take hd)) a0 h1.symm h2.symm hdl
  have ext : ∀ (x y : Act), x.defers = y.defers → x.tmps.size = y.tmps.size → (∀ t, x.eval (.tmp t) = y.eval (.tmp t)) → x = y := by
    intro x y e1 e2 e3
    obtain ⟨xt, xd⟩ := x
    obtain ⟨yt, yd⟩ := y
    simp only at e1 e2
    subst e1
    have : xt = yt := by
      apply Array.ext e2
      intro k hk1 hk2
      have h : xt.getD k undef = yt.getD k undef := e3 k
      simpa [Array.getD_eq_getD_getElem?, hk1, hk2] using h
    rw [this]
  refine ext _ _ g1.symm g2.symm fun t => ?_
  rw [g3 t]
  cases hc : (dstsOf (ops.take hd)).contains t with
  | true => simp
  | false => simp only [Bool.false_eq_true, if_false]; exact h3 t hc
end
end Go.Proofs.YtihiaopilnjonaaGreatDoor
