/- Parts of the proof, one behind the other. -/
import Derived.Test.YtihiaopilnjonaaGreatDoorRows
import Derived.WalkKit
import Derived.WalkSpells
import Derived.WalkLawsBesides
import Derived.Lib.Hide
import Derived.Deep.Draws
import Derived.Shelf.Spec.BitsCarry
import Derived.Deep.QuietTactic
import Derived.BigQuiet
import Derived.StillTailTactics
import Derived.Deep.LoopGhost
import Derived.Deep.RegionWith
import Derived.Deep.DeepCutAuto
import Derived.Deep.AppendLies
import Derived.Laws.OwnMore
import Derived.Deep.CutBlock
import Derived.StillTail
import Derived.NoCompiler
import Derived.IntWalk
import Derived.WalkMore
import Derived.Lib.ConvBytes
import Derived.Lib.Strings
import Derived.Defers
import Derived.Recover
import Derived.LaidEql
import Derived.Stop.Asserts
import Derived.RowKitTokens
import Derived.ProofKit
import Derived.OpenShut
import Derived.ShutString
import Derived.ChangeOld
import Derived.Deep.Slices
import Derived.Deep.Fields
import Derived.LaidMore
import Derived.LaidHandle
import Derived.Stop.Joined
import Derived.ChangeVars
import Derived.JoinedOf
import Derived.Lib.AppendStr
namespace Go.Proofs.YtihiaopilnjonaaGreatDoor
set_option linter.unusedSimpArgs false
set_option linter.unusedVariables false
open Go.RowKit
def len {α : Type} (l : List α) : Nat := l.length
theorem len_eq {α : Type} (l : List α) : len l = l.length := rfl
theorem take_len {α : Type} (l : List α) : l.take (len l) = l := List.take_length
def nth (l : List Int) (i : Nat) : Int := l.getD i 0
theorem nth_eq (l : List Int) (i : Nat) (h : i < l.length) : nth l i = l[i] := by
  unfold nth; rw [List.getD_eq_getElem?_getD, List.getElem?_eq_getElem h]; rfl
theorem lt_of_cell {w : World} {b o : Nat} {v : Value} (h : w.cell? ⟨b, o, none⟩ = some v) : b < w.heap.size := by
  unfold World.cell? at h
  rcases Nat.lt_or_ge b w.heap.size with h' | h'
  · exact h'
  · simp [Array.getElem?_eq_none h'] at h
theorem ret_bool {a b : Bool} (h : a = b) : Ending.returned (.bool a) = .returned (.bool b) := by rw [h]
theorem below_drewN {B : Nat} {a w : World} (h : Below B a w) (n : Nat) : Below B a (w.drewN n) := ⟨h.os, h.tape, h.output, h.size, h.block⟩
theorem block_cell {w : World} {b : Nat} {cs : Array Value} {t : TypeId} {fr : Nat × Nat} (h : w.heap[b]? = some (.cells cs t fr)) (o : Nat) : w.cell? ⟨b, o, none⟩ = cs[o]? := by
  unfold World.cell?; rw [h]; rfl
theorem block_free {w : World} {b : Nat} {cs : Array Value} {t : TypeId} (h : w.heap[b]? = some (.cells cs t (0, 0))) (o : Nat) : w.frozen? ⟨b, o, none⟩ = false := by
  unfold World.frozen?; rw [h]; simp
theorem block_alloc {w : World} {b : Nat} {x : Obj} (h : w.heap[b]? = some x) (o : Obj) : (w.alloc o).heap[b]? = some x := by
  rw [Below.heap_alloc _ _ _ (lt_of_block h)]; exact h
theorem alloc_new_at {w : World} {n : Nat} (o : Obj) (h : w.heap.size = n) : (w.alloc o).heap[n]? = some o := by
  subst h; exact heap_alloc_new w o
theorem alloc_size {w : World} {n : Nat} (o : Obj) (h : w.heap.size = n) : (w.alloc o).heap.size = n + 1 := by simp; exact h
theorem block_setCell {w : World} {b o : Nat} {cs : Array Value} {t : TypeId} {fr : Nat × Nat} (h : w.heap[b]? = some (.cells cs t fr)) (v : Value) :
    (w.setCell ⟨b, o, none⟩ v).heap[b]? = some (.cells (cs.setIfInBounds o v) t fr) := by
  have hlt := lt_of_block h
  have h' : w.heap[b] = .cells cs t fr := by simpa [Array.getElem?_eq_getElem hlt] using h
  show (w.heap.modify b _)[b]? = _
  rw [Array.getElem?_eq_getElem (by simpa using hlt), Array.getElem_modify_self, h']
  rfl
theorem block_setCell_ne {w : World} {b : Nat} {x : Obj} (h : w.heap[b]? = some x) {p : Addr} (hp : b ≠ p.block) (v : Value) : (w.setCell p v).heap[b]? = some x := by
  rw [Below.heap_setCell _ _ _ _ hp]; exact h
theorem flat_get {α β : Type} (f : α → List β) (k : Nat) (hf : ∀ x, (f x).length = k) : ∀ (l : List α) (i r : Nat) (hi : i < l.length), r < k → (l.flatMap f)[i * k + r]? = (f l[i])[r]?
  | x :: l, 0, r, _, hr => by
    simp only [List.flatMap_cons, Nat.zero_mul, Nat.zero_add, List.getElem_cons_zero]
    rw [List.getElem?_append_left (by rw [hf]; exact hr)]
  | x :: l, i + 1, r, hi, hr => by
    simp only [List.flatMap_cons, List.getElem_cons_succ]
    rw [List.getElem?_append_right (by rw [hf, Nat.add_mul]; omega), hf, show (i + 1) * k + r - k = i * k + r by rw [Nat.add_mul]; omega]
    exact flat_get f k hf l i r (by simpa using hi) hr
theorem flat_length {α β : Type} (f : α → List β) (k : Nat) (hf : ∀ x, (f x).length = k) : ∀ (l : List α), (l.flatMap f).length = l.length * k
  | [] => by simp
  | x :: l => by rw [List.flatMap_cons, List.length_append, hf, flat_length f k hf l, List.length_cons, Nat.add_mul]; omega
def U64s (w : World) (a : Option Addr) (l : List Int) : Prop :=
  ∀ i, i < len l → ∃ b off, a = some ⟨b, off, none⟩ ∧ w.cell? ⟨b, off + i, none⟩ = some (.int .u64 (nth l i))
theorem U64s.nil (w : World) (a : Option Addr) : U64s w a [] := fun i h => by simp [len] at h
theorem U64s.below {w w' : World} {a : Option Addr} {l : List Int} (h : U64s w a l) (hb : Below w.heap.size w w') : U64s w' a l := fun i hi => by
  obtain ⟨b, off, rfl, hc⟩ := h i hi
  exact ⟨b, off, rfl, by rw [hb.cell (p := ⟨b, off + i, none⟩) (lt_of_cell hc)]; exact hc⟩
theorem bnext {w b c : World} (h : Below w.heap.size w b) (k : Below b.heap.size b c) : Below w.heap.size w c := h.trans (k.mono h.size)
theorem balloc {w b : World} (h : Below w.heap.size w b) (o : Obj) : Below w.heap.size w (b.alloc o) := h.alloc h.size o
theorem bdrew {w b : World} (h : Below w.heap.size w b) : Below w.heap.size w b.drew := h.drew
theorem bdrewN {w b : World} (h : Below w.heap.size w b) (n : Nat) : Below w.heap.size w (b.drewN n) := below_drewN h n
theorem bset {w b : World} (h : Below w.heap.size w b) {p : Addr} (hp : w.heap.size ≤ p.block) (u : Value) : Below w.heap.size w (b.setCell p u) := h.setCell hp u
def Drew (w w' : World) : Prop := ∃ n, w' = w.drewN n
theorem Drew.refl (w : World) : Drew w w := ⟨0, rfl⟩
theorem Drew.drewN {w w' : World} (h : Drew w w') (n : Nat) : Drew w (w'.drewN n) := by
  obtain ⟨m, rfl⟩ := h; exact ⟨m + n, by rw [World.drewN_drewN]⟩
theorem Drew.trans {a b c : World} (h : Drew a b) (k : Drew b c) : Drew a c := by obtain ⟨m, rfl⟩ := k; exact h.drewN m
theorem Drew.below {w w' : World} (h : Drew w w') (B : Nat) : Below B w w' := by obtain ⟨m, rfl⟩ := h; exact below_drewN (Below.refl _ _) m
theorem U64s.drew {w w' : World} {a : Option Addr} {l : List Int} (h : U64s w a l) (hb : Drew w w') : U64s w' a l := h.below (hb.below _)
end Go.Proofs.YtihiaopilnjonaaGreatDoor
namespace Go.Proofs.YtihiaopilnjonaaGreatDoor
set_option linter.unusedSimpArgs false
set_option linter.unusedVariables false
open Go.RowKit
theorem own_u64s {w : World} {base e n : Nat} {v : Value} {l : List Int} (h : w.ownsRow base e 1 v n (l.map (Value.int .u64))) : ∃ a cap, v = .slice a (len l) cap ∧ U64s w a l := by
  have hn : len l = n := by have := h.1; rw [len_eq]; simpa using this
  obtain ⟨h1, h2⟩ := h
  rcases h2 with ⟨rfl, h2⟩ | ⟨g, cap, cur, rfl, hg, hh, hc1, hc2, hc3, hc4⟩
  · obtain rfl : l = [] := List.eq_nil_of_length_eq_zero (by rw [← len_eq]; omega)
    exact ⟨none, 0, rfl, U64s.nil _ _⟩
  · refine ⟨some ⟨g, 0, none⟩, cap, by rw [hn], fun i hi => ⟨g, 0, rfl, ?_⟩⟩
    have hown : w.ownsRow base e 1 (.slice (some ⟨g, 0, none⟩) n cap) n (l.map (Value.int .u64)) := ⟨h1, .inr ⟨g, cap, cur, rfl, hg, hh, hc1, hc2, hc3, hc4⟩⟩
    have := hown.cellAt i (by omega)
    rw [Nat.zero_add, this, List.getElem?_map, List.getElem?_eq_getElem hi, nth_eq l i hi]; rfl
theorem info_u64 : (Tryz.prog.info? 23).map (fun i => (i.zero, i.size, i.bytes)) = some (some (.int .u64 0), 1, 8) := by kernel_rfl
theorem grownBy_below {w b c : World} {row : Option Nat} (h : Below w.heap.size w b) (hg : b.grownBy c row) (hr : ∀ k, row = some k → w.heap.size ≤ k) : Below w.heap.size w c :=
  h.grown hg h.size hr
theorem below_grown {w w' : World} (h : Below w.heap.size w w') : w.grownBy w' none := ⟨h.os, h.tape, h.output, h.size, fun i hi _ => h.block i hi⟩
theorem own_below {w w' : World} {base e size n : Nat} {v : Value} {xs : List Value} (h : w.ownsRow base e size v n xs) (hb : Below w.heap.size w w') : w'.ownsRow base e size v n xs :=
  h.kept (below_grown hb) (by cases v.ownBlock <;> simp)
def U8s (w : World) (a : Option Addr) (l : List Int) : Prop :=
  ∀ i, i < len l → ∃ b off, a = some ⟨b, off, none⟩ ∧ w.cell? ⟨b, off + i, none⟩ = some (.int .u8 (nth l i))
theorem U8s.below {w w' : World} {a : Option Addr} {l : List Int} (h : U8s w a l) (hb : Below w.heap.size w w') : U8s w' a l := fun i hi => by
  obtain ⟨b, off, rfl, hc⟩ := h i hi
  exact ⟨b, off, rfl, by rw [hb.cell (p := ⟨b, off + i, none⟩) (lt_of_cell hc)]; exact hc⟩
end Go.Proofs.YtihiaopilnjonaaGreatDoor
namespace Go.Proofs.YtihiaopilnjonaaGreatDoor
set_option linter.unusedSimpArgs false
set_option linter.unusedVariables false
open Go.RowKit
def Ext (w w' : World) : Prop := Below w.heap.size w w'
theorem Ext_refl : ∀ w, Ext w w := fun _ => Below.refl _ _
theorem Ext_trans : ∀ a b c, Ext a b → Ext b c → Ext a c := fun _ _ _ h k => bnext h k
theorem ext_block {w w1 : World} (h : Ext w w1) {b : Nat} {x : Obj} (hc : w.heap[b]? = some x) : w1.heap[b]? = some x := (h.block b (lt_of_block hc)).trans hc
def ExtB (row : Option Nat) (w w' : World) : Prop := w.grownBy w' row
theorem ExtB_refl (row : Option Nat) : ∀ w, ExtB row w w := fun _ => ⟨rfl, rfl, rfl, Nat.le_refl _, fun _ _ _ => rfl⟩
theorem ExtB_trans (row : Option Nat) : ∀ a b c, ExtB row a b → ExtB row b c → ExtB row a c := fun _ _ _ h k =>
  ⟨k.os.trans h.os, k.tape.trans h.tape, k.output.trans h.output, Nat.le_trans h.size k.size, fun i hi hn => (k.block i (Nat.lt_of_lt_of_le hi h.size) hn).trans (h.block i hi hn)⟩
theorem extB_block {row : Option Nat} {w w1 : World} (h : ExtB row w w1) {b : Nat} (hn : some b ≠ row) {x : Obj} (hc : w.heap[b]? = some x) : w1.heap[b]? = some x := (h.block b (lt_of_block hc) hn).trans hc
theorem extB_cell {row : Option Nat} {w w1 : World} (h : ExtB row w.drew w1) {b o : Nat} (hn : some b ≠ row) {v : Value} (hc : w.cell? ⟨b, o, none⟩ = some v) : w1.cell? ⟨b, o, none⟩ = some v := by
  have e : w1.cell? ⟨b, o, none⟩ = w.cell? ⟨b, o, none⟩ := World.cell?_of_block (w := w) (h.block b (lt_of_cell hc) hn)
  rw [e]; exact hc
theorem wp_of_run {P : Program} {o : Oper} {a : Act} {w w' : World} {v : Value} {K : Act → World → Prop} {Q : Exit → Act → World → Prop} (h : (execOp a.eval o).run P w = .ok (.value v) w') (hK : K (a.put o.dst v) w') : o.wp P a w K Q := by
  unfold Oper.wp; rw [h]; exact hK
def Es (sp : Nat) (vo : Option Nat) (j : Nat) (w w' : World) : Prop := if j = sp then ExtB vo w w' else Ext w w'
theorem ext_extB {vo : Option Nat} {w w' : World} (h : Ext w w') : ExtB vo w w' := ⟨h.os, h.tape, h.output, h.size, fun i hi _ => h.block i hi⟩
theorem es_extB {sp j : Nat} {vo : Option Nat} {w w' : World} (h : Es sp vo j w w') : ExtB vo w w' := by
  unfold Es at h; split at h
  · exact h
  · exact ext_extB h
theorem es_of_ext {sp j : Nat} {vo : Option Nat} {w w' : World} (h : Ext w w') : Es sp vo j w w' := by
  unfold Es; split
  · exact ext_extB h
  · exact h
theorem es_sp {sp : Nat} {vo : Option Nat} {w w' : World} (h : ExtB vo w w') : Es sp vo sp w w' := by unfold Es; rw [if_pos rfl]; exact h
def slotOf (o : Oper) (a : Act) : Value := match o.dst with | some d => a.eval (.tmp d) | none => undef
def valOf (o : Oper) (v : Value) : Value := match o.dst with | some _ => v | none => undef
def dstsOf (ops : List Oper) : List Nat := ops.filterMap (·.dst)
def regOk (ops : List Oper) (n : Nat) : Bool :=
  (ops.zipIdx.all fun (o, i) => o.after.all fun e => !Region.binds .any e || decide (e.on < i)) && decide (dstsOf ops).Nodup && (dstsOf ops).all (fun d => decide (d < n))
section
variable (P : Program) (ops : List Oper) (a0 : Act) (w0 : World) (sp : Nat) (vo : Option Nat) (Φ : Nat → Value → World → Prop) (Q : Exit → Act → World → Prop)
def Outer (hd : Nat) (a : Act) : Prop := a.defers = a0.defers ∧ a.tmps.size = a0.tmps.size ∧ ∀ t, (dstsOf (ops.take hd)).contains t = false → a.eval (.tmp t) = a0.eval (.tmp t)
def Deps (a : Act) (w : World) : List Edge → Prop
  | [] => True
  | e :: r => (Region.binds .any e = true → ∀ o, ops[e.on]? = some o → Φ e.on (slotOf o a) w) ∧ Deps a w r
def StepAt (hd : Nat) (i : Nat) (o : Oper) : Prop := ∀ a w, ExtB vo w0 w → (i = sp → Ext w0 w) → Outer ops a0 hd a → Deps ops Φ a w o.after.toList →
  if Region.wanted o (yielded ops.toArray a.tmps) then o.wp P a w (fun a' w' => ∃ v, a' = a.put o.dst v ∧ Es sp vo i w w' ∧ Φ i (valOf o v) w') Q else Φ i undef w
structure RInv (n : Nat) (listed : Array Bool) (a : Act) (w : World) : Prop where
  head : HeadInv .any ops.toArray n listed
  ext : ExtB vo w0 w
  ext0 : listed.getD sp true = false → Ext w0 w
  outer : Outer ops a0 n a
  done : ∀ (i : Nat) o, ops[i]? = some o → listed.getD i true = true → Φ i (slotOf o a) w
variable {P ops a0 w0 sp vo Φ Q}
theorem deps_of {a : Act} {w : World} : ∀ {l : List Edge}, (∀ e ∈ l, Region.binds .any e = true → ∀ o, ops[e.on]? = some o → Φ e.on (slotOf o a) w) → Deps ops Φ a w l
  | [], _ => trivial
  | e :: r, h => ⟨h e (List.mem_cons_self ..), deps_of fun e' he' => h e' (List.mem_cons_of_mem _ he')⟩
theorem dst_two {ops : List Oper} (hn : (dstsOf ops).Nodup) {i j : Nat} (hij : i ≠ j) {oi oj : Oper} {d : Nat} (hi : ops[i]? = some oi) (hj : ops[j]? = some oj) (h1 : oi.dst = some d) (h2 : oj.dst = some d) : False := by
  induction ops generalizing i j with
  | nil => simp at hi
  | cons o r ih =>
    unfold dstsOf at hn
    rw [List.filterMap_cons] at hn
    have hr : (dstsOf r).Nodup := by
      unfold dstsOf
      cases ho : o.dst with
      | none => rw [ho] at hn; exact hn
      | some d' => rw [ho] at hn; exact (List.nodup_cons.1 hn).2
    have head : ∀ (k : Nat) ok, r[k]? = some ok → o.dst = some d → ok.dst = some d → False := fun k ok hk ho hok => by
      rw [ho] at hn
      exact (List.nodup_cons.1 hn).1 (List.mem_filterMap.2 ⟨ok, List.mem_of_getElem? hk, hok⟩)
    cases i with
    | zero =>
      cases j with
      | zero => exact hij rfl
      | succ j =>
        simp at hi hj; subst hi
        exact head j oj hj h1 h2
    | succ i =>
      cases j with
      | zero =>
        simp at hi hj; subst hj
        exact head i oi hi h2 h1
      | succ j => exact ih hr (fun e => hij (congrArg (· + 1) e)) (by simpa using hi) (by simpa using hj)
theorem eval_put_ne {a : Act} {d t : Nat} {v : Value} (h : t ≠ d) : (a.put (some d) v).eval (.tmp t) = a.eval (.tmp t) := by
  show (a.tmps.setIfInBounds d v).getD t undef = a.tmps.getD t undef
  simp [Array.getD_eq_getD_getElem?, Array.getElem?_setIfInBounds_ne (Ne.symm h)]
theorem eval_put_same {a : Act} {d : Nat} {v : Value} (h : d < a.tmps.size) : (a.put (some d) v).eval (.tmp d) = v := by
  show (a.tmps.setIfInBounds d v).getD d undef = v
  simp [Array.getD_eq_getD_getElem?, h]
theorem all_of_ready_nil (hB : regOk ops a0.tmps.size = true) {listed : Array Bool} (hs : listed.size = ops.length) (hr : Region.ready .any ops.toArray listed = []) :
    ∀ i, i < ops.length → listed.getD i true = true := by
  intro i
  induction i using Nat.strongRecOn with
  | _ i ih =>
    intro hi
    cases h : listed.getD i true with
    | true => rfl
    | false =>
      exfalso
      have hm : i ∈ Region.ready .any ops.toArray listed := by
        refine mem_ready.2 ⟨h, ops[i], by simp [hi], fun e he hb => ?_⟩
        have h1 : (ops.zipIdx.all fun (o, i) => o.after.all fun e => !Region.binds .any e || decide (e.on < i)) = true := by
          unfold regOk at hB; simp only [Bool.and_eq_true] at hB; exact hB.1.1
        have h2 := List.all_eq_true.1 h1 (ops[i], i) (by rw [List.mem_zipIdx_iff_getElem?]; simp [hi])
        have h3 := Array.all_eq_true'.1 h2 e he
        simp only [hb, Bool.not_true, Bool.false_or, decide_eq_true_eq] at h3
        have h4 := ih e.on h3 (by omega)
        have h5 : e.on < listed.size := by omega
        simp [h5] at h4 ⊢; exact h4
      rw [hr] at hm; cases hm
def AllDone (ops : List Oper) (Φ : Nat → Value → World → Prop) (a : Act) (w : World) : Nat → Nat → Prop
  | _, 0 => True
  | i, n + 1 => (∀ o, ops[i]? = some o → Φ i (slotOf o a) w) ∧ AllDone ops Φ a w (i + 1) n
theorem allDone_of {a : Act} {w : World} : ∀ (n i : Nat), (∀ j, i ≤ j → j < i + n → ∀ o, ops[j]? = some o → Φ j (slotOf o a) w) → AllDone ops Φ a w i n
  | 0, _, _ => trivial
  | n + 1, i, h => ⟨h i (Nat.le_refl _) (by omega), allDone_of n (i + 1) fun j h1 h2 => h j (by omega) (by omega)⟩
theorem RInv.next {n : Nat} (hB : regOk ops a0.tmps.size = true)
    (hmono : ∀ i j v w w', i ≠ j → ExtB vo w0 w → Es sp vo j w w' → Φ i v w → Φ i v w') {listed : Array Bool} {a : Act} {w : World} (inv : RInv ops a0 w0 sp vo Φ n listed a w)
    {i : Nat} {o : Oper} (hi : i ∈ Region.ready .any ops.toArray listed) (hin : i < n) (ho' : ops[i]? = some o) {v : Value} {w' : World} (he : Es sp vo i w w') (hv : Φ i (valOf o v) w') :
    RInv ops a0 w0 sp vo Φ n (listed.setIfInBounds i true) (a.put o.dst v) w' := by
  have hnd : (dstsOf ops).Nodup := by unfold regOk at hB; simp only [Bool.and_eq_true, decide_eq_true_eq] at hB; exact hB.1.2
  have hdl : ∀ d ∈ dstsOf ops, d < a0.tmps.size := by
    unfold regOk at hB; simp only [Bool.and_eq_true] at hB
    intro d hd; simpa using List.all_eq_true.1 hB.2 d hd
  refine ⟨inv.head.set hi hin, ExtB_trans _ _ _ _ inv.ext (es_extB he), fun hl => ?_, ?_, ?_⟩
  · by_cases his : i = sp
    · exfalso
      subst his
      obtain ⟨hun, o', ho, _⟩ := mem_ready.1 hi
      have hil : i < listed.size := by rw [inv.head.size]; exact (Array.getElem?_eq_some_iff.1 ho).1
      simp [hil] at hl
    · rw [getD_set_ne true his] at hl
      unfold Es at he; rw [if_neg his] at he
      exact Ext_trans _ _ _ (inv.ext0 hl) he
  · obtain ⟨h1, h2, h3⟩ := inv.outer
    cases hd : o.dst with
    | none => exact ⟨h1, h2, h3⟩
    | some d =>
      refine ⟨h1, by simp [Act.put, h2], fun t ht => ?_⟩
      have hmem : d ∈ dstsOf (ops.take n) := List.mem_filterMap.2 ⟨o, List.mem_of_getElem? (i := i) (by rw [List.getElem?_take, if_pos hin]; exact ho'), hd⟩
      rw [eval_put_ne (by rintro rfl; simp at ht; exact ht hmem)]; exact h3 t ht
  · intro j oj hoj hl
    by_cases hij : j = i
    · subst hij
      have : oj = o := Option.some.inj (hoj.symm.trans ho')
      subst this
      unfold slotOf
      unfold valOf at hv
      cases hd : oj.dst with
      | none => simpa [hd] using hv
      | some d =>
        simp only [hd] at hv
        have hmem : d ∈ dstsOf ops := List.mem_filterMap.2 ⟨oj, List.mem_of_getElem? ho', hd⟩
        simp only
        rw [eval_put_same (by rw [inv.outer.2.1]; exact hdl d hmem)]; exact hv
    · rw [getD_set_ne true (Ne.symm hij)] at hl
      have h1 := hmono j i _ w w' hij inv.ext he (inv.done j oj hoj hl)
      unfold slotOf at h1 ⊢
      cases hdj : oj.dst with
      | none => first | exact h1 | simpa [hdj] using h1
      | some d =>
        try simp only [hdj] at h1 ⊢
        cases hdo : o.dst with
        | none => exact h1
        | some d' =>
          have hne : d ≠ d' := by
            rintro rfl
            exact dst_two hnd (Ne.symm hij) ho' hoj hdo hdj
          rw [eval_put_ne hne]; exact h1
theorem head_count {listed : Array Bool} {i : Nat} (hil : i < listed.size) (hun : listed.getD i true = false) : ∀ L : List Nat, L.Nodup → i ∈ L →
    (L.filter (fun j => !(listed.setIfInBounds i true).getD j true)).length + 1 = (L.filter (fun j => !listed.getD j true)).length := by
  intro L
  induction L with
  | nil => intro _ h; cases h
  | cons x L ihL =>
    intro hnd hm
    rw [List.nodup_cons] at hnd
    simp only [List.filter_cons]
    by_cases hx : x = i
    · subst hx
      have e1 : (listed.setIfInBounds x true).getD x true = true := by simp [hil]
      have e2 : L.filter (fun j => !(listed.setIfInBounds x true).getD j true) = L.filter (fun j => !listed.getD j true) := by
        apply List.filter_congr
        intro y hy
        rw [getD_set_ne true (by rintro rfl; exact hnd.1 hy)]
      simp only [e1, hun, e2]; simp
    · have hm' : i ∈ L := by rcases List.mem_cons.1 hm with h | h
                             · exact absurd h.symm hx
                             · exact h
      have h2 := ihL hnd.2 hm'
      rw [getD_set_ne true (Ne.symm hx)]
      split <;> (try simp only [List.length_cons]) <;> omega
def headDone (n N : Nat) : Array Bool := ((List.range N).map (fun i => decide (i < n))).toArray
def regTail (ops : List Oper) (n : Nat) : Bool :=
  decide (n < ops.length) && Region.sinkB .any ops.toArray n && Region.chainB .any ops.toArray n && Region.seqB .any ops.toArray (ops.length - n) n (headDone n ops.length)
theorem wpAny_head {n g : Nat} (hB : regOk ops a0.tmps.size = true)
    (hmono : ∀ i j v w w', i ≠ j → ExtB vo w0 w → Es sp vo j w w' → Φ i v w → Φ i v w') (hnN : n ≤ ops.length)
    (hstep : ∀ (i : Nat) o, i < n → ops[i]? = some o → StepAt P ops a0 w0 sp vo Φ Q n i o)
    (hlate : ∀ listed, HeadInv .any ops.toArray n listed → (∃ i, i < n ∧ listed.getD i true = false) → Region.ready .any ops.toArray listed ≠ [] ∧ ∀ t ∈ Region.ready .any ops.toArray listed, t < n)
    (hend : ∀ listed a w, RInv ops a0 w0 sp vo Φ n listed a w → (∀ i, i < n → listed.getD i true = true) → wpAny P .any ops.toArray Q g listed a w) :
    ∀ (fuel : Nat) (listed : Array Bool) (a : Act) (w : World), ((List.range n).filter (fun i => !listed.getD i true)).length = fuel → RInv ops a0 w0 sp vo Φ n listed a w →
      wpAny P .any ops.toArray Q (fuel + g) listed a w := by
  intro fuel
  induction fuel with
  | zero =>
    intro listed a w hf inv
    rw [Nat.zero_add]
    refine hend listed a w inv fun i hi => ?_
    cases h : listed.getD i true with
    | true => rfl
    | false =>
      have : i ∈ (List.range n).filter (fun i => !listed.getD i true) := List.mem_filter.2 ⟨List.mem_range.2 hi, by rw [h]; rfl⟩
      rw [List.eq_nil_of_length_eq_zero hf] at this; cases this
  | succ fuel ih =>
    intro listed a w hf inv
    rw [show fuel + 1 + g = (fuel + g) + 1 by omega]
    have hex : ∃ i, i < n ∧ listed.getD i true = false := by
      cases hl : (List.range n).filter (fun i => !listed.getD i true) with
      | nil => rw [hl] at hf; cases hf
      | cons x L =>
        have : x ∈ (List.range n).filter (fun i => !listed.getD i true) := by rw [hl]; exact List.mem_cons_self ..
        obtain ⟨h1, h2⟩ := List.mem_filter.1 this
        exact ⟨x, List.mem_range.1 h1, by simpa using h2⟩
    obtain ⟨hne, hlt⟩ := hlate listed inv.head hex
    refine ⟨fun hr => absurd hr hne, fun i hi => ?_⟩
    have hin := hlt i hi
    obtain ⟨hun, o, ho, hall⟩ := mem_ready.1 hi
    have ho' : ops[i]? = some o := by simpa using ho
    have hls : listed.size = ops.length := by rw [inv.head.size]; simp
    have hdep : Deps ops Φ a w o.after.toList := deps_of fun e he hb oj hoj => by
      have h1 := hall e (by simpa using he) hb
      refine inv.done e.on oj hoj ?_
      have h2 : e.on < listed.size := by
        rcases Nat.lt_or_ge e.on listed.size with h | h
        · exact h
        · simp [Array.getElem?_eq_none h] at h1
      simp [h2] at h1 ⊢; exact h1
    have hst := hstep i o hin ho' a w inv.ext (fun e => inv.ext0 (by rw [← e]; exact hun)) inv.outer hdep
    have next : ∀ v w', Es sp vo i w w' → Φ i (valOf o v) w' → wpAny P .any ops.toArray Q (fuel + g) (listed.setIfInBounds i true) (a.put o.dst v) w' := by
      intro v w' he hv
      refine ih _ _ _ ?_ (inv.next hB hmono hi hin ho' he hv)
      have := head_count (listed := listed) (i := i) (by omega) hun _ List.nodup_range (List.mem_range.2 hin)
      omega
    unfold wpOp
    rw [ho]
    dsimp only
    by_cases hw : Region.wanted o (yielded ops.toArray a.tmps) = true
    · rw [if_pos hw] at hst ⊢
      left
      refine Oper.wp_mono (fun a' w' h => ?_) hst
      obtain ⟨v, rfl, he, hv⟩ := h
      exact next v w' he hv
    · rw [if_neg hw] at hst ⊢
      refine next undef w (es_of_ext (Ext_refl w)) ?_
      have e : valOf o undef = undef := by unfold valOf; cases o.dst <;> rfl
      rw [e]; exact hst
end
section
variable {P : Program} {Q : Exit → Act → World → Prop} {a : Act} {w : World} {l : List Oper} {vo : Option Nat} {Φ : Nat → Value → World → Prop}
theorem rinv_start {n sp : Nat} (hn : n ≤ l.length) : RInv l a w.drew sp vo Φ n (Array.replicate l.length false) a w.drew :=
  ⟨⟨by simp, fun j oj _ hl => (by rw [getD_replicate_false] at hl; cases hl), fun t _ ht => getD_in (by simpa using ht) (getD_replicate_false _ _)⟩, ExtB_refl _ _, fun _ => Ext_refl _, ⟨rfl, rfl, fun _ _ => rfl⟩,
    fun i o ho hl => (by
      have hi := (List.getElem?_eq_some_iff.1 ho).1
      rw [getD_in (by simpa using hi) (getD_replicate_false _ _)] at hl; cases hl)⟩
theorem start_count (n N : Nat) (h : n ≤ N) : ((List.range n).filter (fun i => !(Array.replicate N false).getD i true)).length = n := by
  have e : (List.range n).filter (fun i => !(Array.replicate N false).getD i true) = List.range n := by
    rw [List.filter_eq_self]
    intro i hi
    have hi' := List.mem_range.1 hi
    rw [getD_in (by simp; omega) (getD_replicate_false _ _)]; rfl
  rw [e, List.length_range]
theorem wp_region_all {id : Nat} (sp : Nat) (vo : Option Nat) (Φ : Nat → Value → World → Prop) (hm : P.follows .mixedOrders = true) (hB : regOk l a.tmps.size = true)
    (hmono : ∀ i j v w1 w', i ≠ j → ExtB vo w.drew w1 → Es sp vo j w1 w' → Φ i v w1 → Φ i v w')
    (hstep : ∀ (i : Nat) o, i < l.length → l[i]? = some o → StepAt P l a w.drew sp vo Φ Q l.length i o)
    (hend : ∀ a' w', ExtB vo w.drew w' → Outer l a l.length a' → AllDone l Φ a' w' 0 l.length → Q .normal a' w') : (Code.region id l.toArray true).wp P Q a w := by
  refine wp_region_any hm ?_
  have H := wpAny_head (P := P) (ops := l) (a0 := a) (w0 := w.drew) (sp := sp) (vo := vo) (Φ := Φ) (Q := Q) (n := l.length) (g := 0) hB hmono (Nat.le_refl _) hstep
    (fun listed inv ⟨i, hi, hun⟩ => ⟨fun hr => (by
        have := all_of_ready_nil (a0 := a) hB (by rw [inv.size]; simp) hr i hi
        rw [hun] at this; cases this), fun t ht => (by
        obtain ⟨_, o, ho, _⟩ := mem_ready.1 ht
        have := (Array.getElem?_eq_some_iff.1 ho).1; simpa using this)⟩)
    (fun listed a' w' inv hall => ⟨(by
        rw [List.eq_nil_iff_forall_not_mem]
        intro i hi
        obtain ⟨h1, o, ho, _⟩ := mem_ready.1 hi
        have := hall i (by have := (Array.getElem?_eq_some_iff.1 ho).1; simpa using this)
        rw [h1] at this; cases this), hend a' w' inv.ext inv.outer (allDone_of _ _ fun j _ h2 o ho => inv.done j o ho (hall j (by omega)))⟩)
    l.length (Array.replicate l.length false) a w.drew (start_count _ _ (Nat.le_refl _)) (rinv_start (Nat.le_refl _))
  simpa using H
theorem headDone_of {n N : Nat} {listed : Array Bool} (hs : listed.size = N) (h1 : ∀ i, i < n → listed.getD i true = true) (h2 : ∀ i, n ≤ i → i < N → listed.getD i true = false) (hn : n ≤ N) : listed = headDone n N := by
  apply Array.ext
  · simp [headDone, hs]
  · intro i h3 h4
    have h5 : listed.getD i true = listed[i] := by simp [h3]
    have e : (headDone n N)[i] = decide (i < n) := by simp [headDone]
    rw [e, ← h5]
    rcases Nat.lt_or_ge i n with h | h
    · rw [h1 i h]; simp [h]
    · rw [h2 i h (by omega)]; simp; omega
theorem wp_region_tail {id : Nat} (n : Nat) (sp : Nat) (vo : Option Nat) (Φ : Nat → Value → World → Prop) (hm : P.follows .mixedOrders = true) (hB : regOk l a.tmps.size = true) (hT : regTail l n = true)
    (hmono : ∀ i j v w1 w', i ≠ j → ExtB vo w.drew w1 → Es sp vo j w1 w' → Φ i v w1 → Φ i v w')
    (hstep : ∀ (i : Nat) o, i < n → l[i]? = some o → StepAt P l a w.drew sp vo Φ Q n i o)
    (hend : ∀ a' w', ExtB vo w.drew w' → Outer l a n a' → AllDone l Φ a' w' 0 n → wpList P l.toArray Q (l.drop n) a' w') : (Code.region id l.toArray true).wp P Q a w := by
  unfold regTail at hT
  simp only [Bool.and_eq_true, decide_eq_true_eq] at hT
  obtain ⟨⟨⟨hn, hs⟩, hc⟩, hseq⟩ := hT
  refine wp_region_any hm ?_
  have H := wpAny_head (P := P) (ops := l) (a0 := a) (w0 := w.drew) (sp := sp) (vo := vo) (Φ := Φ) (Q := Q) (n := n) (g := l.length - n) hB hmono (by omega) hstep
    (fun listed inv ⟨i, hi, hun⟩ => ⟨fun hr => (by
        have := all_of_ready_nil (a0 := a) hB (by rw [inv.size]; simp) hr i (by omega)
        rw [hun] at this; cases this), fun t ht => (by
        rcases Nat.lt_or_ge t n with h | h
        · exact h
        · exact absurd ht (tail_waits hs hc (by simpa using hn) inv (n - i) i rfl hi hun t h))⟩)
    (fun listed a' w' inv hall => (by
        have e := headDone_of (n := n) (N := l.length) (by rw [inv.head.size]; simp) hall (fun i h1 h2 => inv.head.tail i h1 (by simpa using h2)) (by omega)
        have h := wpAny_of_seq (P := P) (md := .any) (Q' := Q) (ops := l.toArray) (l.drop n) n listed a' w' (fun j => by simp [List.getElem?_drop]) (by rw [List.length_drop, e]; exact hseq)
          (hend a' w' inv.ext inv.outer (allDone_of _ _ fun j _ h2 o ho => inv.done j o ho (hall j (by omega))))
        rwa [List.length_drop] at h))
    n (Array.replicate l.length false) a w.drew (start_count _ _ (by omega)) (rinv_start (by omega))
  rw [show n + (l.length - n) = l.length by omega] at H
  simpa using H
end
theorem ev_form (a : Act) (t : Nat) : a.eval (.tmp t) = a.tmps[t]?.getD undef := by show a.tmps.getD t undef = _; rw [Array.getD_eq_getD_getElem?]
theorem wp_of_call {P : Program} {o : Oper} {a : Act} {w : World} {v : Value} {f : FuncId} {args : Array Value} {K : Act → World → Prop} {Q : Exit → Act → World → Prop} (h : (execOp a.eval o).run P w = .ok (.enter f args) w)
    (hc : Calls P f args w (fun e w' => e = .returned v ∧ Below w.heap.size w w')) (hK : ∀ w', Below w.heap.size w w' → K (a.put o.dst v) w') : o.wp P a w K Q := by
  unfold Oper.wp; rw [h]
  exact hc.mono fun e w' ⟨he, hb⟩ => by subst he; exact hK w' hb
theorem wp_of_panic {P : Program} {o : Oper} {a : Act} {w : World} {chain : List PanicEntry} {f : FuncId} {args : Array Value} {K : Act → World → Prop} {Q : Exit → Act → World → Prop} (h : (execOp a.eval o).run P w = .ok (.enter f args) w)
    (hc : Calls P f args w (fun e w' => e = .panicked chain ∧ Below w.heap.size w w')) (hK : ∀ w', Below w.heap.size w w' → Q (.panic chain) a w') : o.wp P a w K Q := by
  unfold Oper.wp; rw [h]
  exact hc.mono fun e w' ⟨he, hb⟩ => by subst he; exact hK w' hb
theorem extB_none {w w' : World} (h : ExtB none w w') : Below w.heap.size w w' := ⟨h.os, h.tape, h.output, h.size, fun i hi => h.block i hi (by simp)⟩
theorem of_drew {w w1 : World} (h : ExtB none w.drew w1) : Below w.heap.size w w1 := bnext (bdrew (Below.refl _ _)) (extB_none h)
def phis (L : List (Value → World → Prop)) (i : Nat) : Value → World → Prop := L.getD i (fun _ _ => True)
def MonoAll (sp : Nat) (vo : Option Nat) : Nat → List (Value → World → Prop) → Prop
  | _, [] => True
  | i, φ :: r => ((∀ v w1 w', Ext w1 w' → φ v w1 → φ v w') ∧ (i ≠ sp → ∀ v w1 w', ExtB vo w1 w' → φ v w1 → φ v w')) ∧ MonoAll sp vo (i + 1) r
theorem mono_at {sp : Nat} {vo : Option Nat} : ∀ {L : List (Value → World → Prop)} {k : Nat}, MonoAll sp vo k L → ∀ i v w1 w',
    (Ext w1 w' → L.getD i (fun _ _ => True) v w1 → L.getD i (fun _ _ => True) v w') ∧ (k + i ≠ sp → ExtB vo w1 w' → L.getD i (fun _ _ => True) v w1 → L.getD i (fun _ _ => True) v w')
  | [], _, _, _, _, _, _ => by simp
  | φ :: r, k, h, 0, v, w1, w' => ⟨h.1.1 v w1 w', fun hn => h.1.2 hn v w1 w'⟩
  | φ :: r, k, h, i + 1, v, w1, w' => by
    have := mono_at (L := r) h.2 i v w1 w'
    rw [Nat.add_assoc, Nat.add_comm 1 i] at this
    exact this
theorem mono_of {sp : Nat} {vo : Option Nat} {w0 : World} {L : List (Value → World → Prop)} (h : MonoAll sp vo 0 L) : ∀ i j v w1 w', i ≠ j → ExtB vo w0 w1 → Es sp vo j w1 w' → phis L i v w1 → phis L i v w' := by
  intro i j v w1 w' hij _ he hp
  have hh := mono_at h i v w1 w'
  rw [Nat.zero_add] at hh
  unfold Es at he
  split at he
  · rename_i hj; exact hh.2 (by rw [← hj]; exact hij) he hp
  · exact hh.1 he hp
theorem mono_eq {sp : Nat} {vo : Option Nat} {i : Nat} {f : Value → Prop} : (∀ v w1 w', Ext w1 w' → (fun v (_ : World) => f v) v w1 → (fun v (_ : World) => f v) v w') ∧ (i ≠ sp → ∀ v w1 w', ExtB vo w1 w' → (fun v (_ : World) => f v) v w1 → (fun v (_ : World) => f v) v w') :=
  ⟨fun _ _ _ _ h => h, fun _ _ _ _ _ h => h⟩
def StepsFrom (P : Program) (ops : List Oper) (a0 : Act) (w0 : World) (sp : Nat) (vo : Option Nat) (Φ : Nat → Value → World → Prop) (Q : Exit → Act → World → Prop) (hd : Nat) : Nat → Nat → List Oper → Prop
  | _, 0, _ => True
  | _, _ + 1, [] => True
  | i, n + 1, o :: r => StepAt P ops a0 w0 sp vo Φ Q hd i o ∧ StepsFrom P ops a0 w0 sp vo Φ Q hd (i + 1) n r
theorem steps_from {P : Program} {ops : List Oper} {a0 : Act} {w0 : World} {sp : Nat} {vo : Option Nat} {Φ : Nat → Value → World → Prop} {Q : Exit → Act → World → Prop} {hd : Nat} :
    ∀ (n k : Nat) (r : List Oper), StepsFrom P ops a0 w0 sp vo Φ Q hd k n r → ∀ (i : Nat) o, i < n → r[i]? = some o → StepAt P ops a0 w0 sp vo Φ Q hd (k + i) o
  | 0, _, _, _, _, _, h, _ => by omega
  | _ + 1, _, [], _, _, _, _, h => by simp at h
  | n + 1, k, x :: r, h, 0, o, _, ho => by simp at ho; subst ho; exact h.1
  | n + 1, k, x :: r, h, i + 1, o, hi, ho => by
    have := steps_from n (k + 1) r h.2 i o (by omega) (by simpa using ho)
    rwa [Nat.add_assoc, Nat.add_comm 1 i] at this
theorem steps_of {P : Program} {ops : List Oper} {a0 : Act} {w0 : World} {sp : Nat} {vo : Option Nat} {Φ : Nat → Value → World → Prop} {Q : Exit → Act → World → Prop} {hd : Nat} (n : Nat)
    (h : StepsFrom P ops a0 w0 sp vo Φ Q hd 0 n ops) : ∀ (i : Nat) o, i < n → ops[i]? = some o → StepAt P ops a0 w0 sp vo Φ Q hd i o := fun i o hi ho => by
  have := steps_from n 0 ops h i o hi ho
  rwa [Nat.zero_add] at this
section
variable {P : Program} {ops : List Oper} {a0 : Act} {w0 : World} {sp : Nat} {vo : Option Nat} {Φ : Nat → Value → World → Prop} {Q : Exit → Act → World → Prop} {hd : Nat} {i : Nat} {o : Oper}
theorem step_wp (h : ∀ a w1, ExtB vo w0 w1 → (i = sp → Ext w0 w1) → Outer ops a0 hd a → Deps ops Φ a w1 o.after.toList →
    Region.wanted o (yielded ops.toArray a.tmps) = true ∧ o.wp P a w1 (fun a' w' => ∃ v, a' = a.put o.dst v ∧ Es sp vo i w1 w' ∧ Φ i (valOf o v) w') Q) : StepAt P ops a0 w0 sp vo Φ Q hd i o := fun a w1 hE hS hO hD => by
  obtain ⟨h1, h2⟩ := h a w1 hE hS hO hD
  rw [if_pos h1]; exact h2
theorem step_val {v : Value} (h : ∀ a w1, ExtB vo w0 w1 → (i = sp → Ext w0 w1) → Outer ops a0 hd a → Deps ops Φ a w1 o.after.toList →
    Region.wanted o (yielded ops.toArray a.tmps) = true ∧ (execOp a.eval o).run P w1 = .ok (.value v) w1) (hφ : ∀ w1, Φ i (valOf o v) w1) : StepAt P ops a0 w0 sp vo Φ Q hd i o := fun a w1 hE hS hO hD => by
  obtain ⟨h1, h2⟩ := h a w1 hE hS hO hD
  rw [if_pos h1]
  unfold Oper.wp
  rw [h2]
  exact ⟨v, rfl, es_of_ext (Ext_refl w1), hφ w1⟩
theorem step_skip (h : ∀ a w1, ExtB vo w0 w1 → (i = sp → Ext w0 w1) → Outer ops a0 hd a → Deps ops Φ a w1 o.after.toList → Region.wanted o (yielded ops.toArray a.tmps) = false) (hφ : ∀ w1, Φ i undef w1) : StepAt P ops a0 w0 sp vo Φ Q hd i o := fun a w1 hE hS hO hD => by
  rw [if_neg (by rw [h a w1 hE hS hO hD]; exact Bool.false_ne_true)]; exact hφ w1
theorem yielded_of {ops : Array Oper} {j d : Nat} {oj : Oper} {a : Act} {b : Bool} (hj : ops[j]? = some oj) (hd : oj.dst = some d) (hv : a.eval (.tmp d) = .bool b) : yielded ops a.tmps j = some b := by
  have h : a.tmps.getD d undef = .bool b := hv
  unfold yielded
  rw [hj]
  simp only [Option.bind_some, hd]
  cases ht : a.tmps[d]? with
  | none =>
    rw [Array.getD_eq_getD_getElem?, ht] at h
    cases h
  | some x =>
    rw [Array.getD_eq_getD_getElem?, ht] at h
    simp at h; subst h; rfl
theorem wanted_of {l : List Oper} {o oj : Oper} {j d : Nat} {want b : Bool} {a : Act} (hg : o.guard = some (j, want)) (hj : l.toArray[j]? = some oj) (hd : oj.dst = some d) (hv : a.eval (.tmp d) = .bool b) :
    Region.wanted o (yielded l.toArray a.tmps) = (b == want) := by
  unfold Region.wanted
  rw [hg]
  simp only [yielded_of hj hd hv]
  cases b <;> cases want <;> rfl
theorem act_of_outer {a : Act} {ds : List Nat} (hds : dstsOf (ops.take hd) = ds) (h : Outer ops a0 hd a) (hB : regOk ops a0.tmps.size = true) : a = ds.foldl (fun b d => b.put (some d) (a.eval (.tmp d))) a0 := by
  subst hds
  have hdl : ∀ d ∈ dstsOf (ops.take hd), d < a0.tmps.size := by
    unfold regOk at hB; simp only [Bool.and_eq_true] at hB
    intro d hdd
    obtain ⟨o, ho, hd'⟩ := List.mem_filterMap.1 hdd
    simpa using List.all_eq_true.1 hB.2 d (List.mem_filterMap.2 ⟨o, List.mem_of_mem_take ho, hd'⟩)
  obtain ⟨h1, h2, h3⟩ := h
  have gen : ∀ (ds : List Nat) (b : Act), b.defers = a.defers → b.tmps.size = a.tmps.size → (∀ d ∈ ds, d < b.tmps.size) →
      (ds.foldl (fun b d => b.put (some d) (a.eval (.tmp d))) b).defers = a.defers ∧ (ds.foldl (fun b d => b.put (some d) (a.eval (.tmp d))) b).tmps.size = a.tmps.size ∧
      ∀ t, (ds.foldl (fun b d => b.put (some d) (a.eval (.tmp d))) b).eval (.tmp t) = if ds.contains t then a.eval (.tmp t) else b.eval (.tmp t) := by
    intro ds
    induction ds with
    | nil => intro b hb1 hb2 _; exact ⟨hb1, hb2, fun t => by simp⟩
    | cons d ds ih =>
      intro b hb1 hb2 hb3
      obtain ⟨i1, i2, i3⟩ := ih (b.put (some d) (a.eval (.tmp d))) hb1 (by simp [Act.put, hb2]) (fun d' hd' => by simp [Act.put]; exact hb3 d' (List.mem_cons_of_mem _ hd'))
      refine ⟨i1, i2, fun t => ?_⟩
      rw [List.foldl_cons, i3 t]
      by_cases ht : ds.contains t = true
      · simp at ht; simp [ht]
      · by_cases htd : t = d
        · subst htd
          rw [eval_put_same (hb3 t (List.mem_cons_self ..))]; simp
        · rw [eval_put_ne htd]
          simp at ht; simp [ht, htd]
  obtain ⟨g1, g2, g3⟩ := gen (dstsOf (ops.take hd)) a0 h1.symm h2.symm hdl
  have ext : ∀ (x y : Act), x.defers = y.defers → x.tmps.size = y.tmps.size → (∀ t, x.eval (.tmp t) = y.eval (.tmp t)) → x = y := by
    intro x y e1 e2 e3
    obtain ⟨xt, xd⟩ := x
    obtain ⟨yt, yd⟩ := y
    simp only at e1 e2
    subst e1
    have : xt = yt := by
      apply Array.ext e2
      intro k hk1 hk2
      have h : xt.getD k undef = yt.getD k undef := e3 k
      simpa [Array.getD_eq_getD_getElem?, hk1, hk2] using h
    rw [this]
  refine ext _ _ g1.symm g2.symm fun t => ?_
  rw [g3 t]
  cases hc : (dstsOf (ops.take hd)).contains t with
  | true => simp
  | false => simp only [Bool.false_eq_true, if_false]; exact h3 t hc
end
end Go.Proofs.YtihiaopilnjonaaGreatDoor
namespace Go.Proofs.YtihiaopilnjonaaGreatDoor
set_option linter.unusedSimpArgs false
set_option linter.unusedVariables false
open Go.RowKit
theorem bits_or_nat (a b : Nat) (ha : a < 18446744073709551616) (hb : b < 18446744073709551616) : bits BinOp.or IntKind.u64 (a : Int) (b : Int) = ((a ||| b : Nat) : Int) := by
  have h : (a ||| b : Nat) < 2 ^ 64 := Nat.or_lt_two_pow (by omega) (by omega)
  unfold bits
  show IntKind.u64.wrap (((BitVec.ofInt 64 (a : Int) ||| BitVec.ofInt 64 (b : Int)).toNat : Nat) : Int) = _
  rw [BitVec.toNat_or, BitVec.toNat_ofInt, BitVec.toNat_ofInt]
  have e1 : ((a : Int) % ((2 ^ 64 : Nat) : Int)).toNat = a := by omega
  have e2 : ((b : Int) % ((2 ^ 64 : Nat) : Int)).toNat = b := by omega
  rw [e1, e2]
  exact IntWalk.u64_in _ ⟨by omega, by omega⟩
theorem shl_or (x c : Int) (h0 : 0 ≤ x) (h1 : x ≤ 72057594037927935) (c0 : 0 ≤ c) (c1 : c ≤ 255) : bits BinOp.or IntKind.u64 (x * 256) c = x * 256 + c := by
  obtain ⟨a, rfl⟩ := Int.eq_ofNat_of_zero_le h0
  obtain ⟨b, rfl⟩ := Int.eq_ofNat_of_zero_le c0
  have e : ((a : Int) * 256) = ((a * 256 : Nat) : Int) := by omega
  rw [e, bits_or_nat _ _ (by omega) (by omega)]
  have h : a * 256 ||| b = a * 256 + b := by
    have := Nat.shiftLeft_add_eq_or_of_lt (show b < 2 ^ 8 by omega) a
    rw [Nat.shiftLeft_eq] at this
    exact this.symm
  rw [h]; omega
end Go.Proofs.YtihiaopilnjonaaGreatDoor
namespace Go.Proofs.YtihiaopilnjonaaGreatDoor
set_option linter.unusedSimpArgs false
set_option linter.unusedVariables false
open Go.RowKit
structure URow where
  lo : Int
  hi : Int
  size : Int
  least : Int
abbrev URow.val (r : URow) : Value := .agg #[.int .u8 r.lo, .int .u8 r.hi, .int .i64 r.size, .int .u64 r.least]
def URow.cells (r : URow) : List Value := [.int .u8 r.lo, .int .u8 r.hi, .int .i64 r.size, .int .u64 r.least]
theorem URow.cells_len (r : URow) : r.cells.length = 4 := rfl
theorem URow.cells_one (r : URow) : ∀ u ∈ r.cells, u.oneCell' = true := by intro u hu; simp only [URow.cells, List.mem_cons, List.not_mem_nil, or_false] at hu; rcases hu with rfl | rfl | rfl | rfl <;> rfl
def URow.zero : URow := ⟨0, 0, 0, 0⟩
def unth (l : List URow) (i : Nat) : URow := l.getD i URow.zero
theorem unth_eq (l : List URow) (i : Nat) (h : i < l.length) : unth l i = l[i] := by unfold unth; rw [List.getD_eq_getElem?_getD, List.getElem?_eq_getElem h]; rfl
structure URowAt (w : World) (b o : Nat) (r : URow) : Prop where
  c0 : w.cell? ⟨b, o, none⟩ = some (.int .u8 r.lo)
  c1 : w.cell? ⟨b, o + 1, none⟩ = some (.int .u8 r.hi)
  c2 : w.cell? ⟨b, o + 2, none⟩ = some (.int .i64 r.size)
  c3 : w.cell? ⟨b, o + 3, none⟩ = some (.int .u64 r.least)
theorem URowAt.below {w w' : World} {b o : Nat} {r : URow} (h : URowAt w b o r) (hb : Below w.heap.size w w') : URowAt w' b o r := by
  have hl := lt_of_cell h.c0
  have e : ∀ q, w'.cell? ⟨b, q, none⟩ = w.cell? ⟨b, q, none⟩ := fun q => hb.cell (p := ⟨b, q, none⟩) hl
  obtain ⟨c0, c1, c2, c3⟩ := h
  constructor <;> (rw [e]; assumption)
def URows (w : World) (a : Option Addr) (l : List URow) : Prop := ∀ i, i < len l → ∃ b off, a = some ⟨b, off, none⟩ ∧ URowAt w b (off + i * 4) (unth l i)
theorem URows.nil (w : World) (a : Option Addr) : URows w a [] := fun i hi => absurd hi (by simp [len])
theorem URows.below {w w' : World} {a : Option Addr} {l : List URow} (h : URows w a l) (hb : Below w.heap.size w w') : URows w' a l := fun i hi => by
  obtain ⟨b, off, rfl, hc⟩ := h i hi
  exact ⟨b, off, rfl, hc.below hb⟩
theorem URows.drew {w w' : World} {a : Option Addr} {l : List URow} (h : URows w a l) (hb : Drew w w') : URows w' a l := h.below (hb.below _)
theorem URows.take {w : World} {a : Option Addr} {l : List URow} (h : URows w a l) (k : Nat) : URows w a (l.take k) := fun i hi => by
  have hi2 : i < l.length ∧ i < k := by simp only [len, List.length_take] at hi; omega
  have hi3 : i < (l.take k).length := hi
  have e : unth (l.take k) i = unth l i := by rw [unth_eq l i hi2.1, unth_eq _ i hi3, List.getElem_take]
  rw [e]; exact h i hi2.1
theorem URows.drop {w : World} {b off : Nat} {l : List URow} (h : URows w (some ⟨b, off, none⟩) l) (k : Nat) : URows w (some ⟨b, off + k * 4, none⟩) (l.drop k) := fun i hi => by
  have hi2 : k + i < l.length := by simp only [len, List.length_drop] at hi; omega
  have hi3 : i < (l.drop k).length := hi
  have e : unth (l.drop k) i = unth l (k + i) := by rw [unth_eq l _ hi2, unth_eq _ i hi3, List.getElem_drop]
  obtain ⟨b', off', e2, hc⟩ := h (k + i) hi2
  cases e2
  exact ⟨b, _, rfl, by rw [e, show off + k * 4 + i * 4 = off + (k + i) * 4 by omega]; exact hc⟩
theorem URows.own {w : World} {base e n : Nat} {v : Value} {l : List URow} (h : w.ownsRow base e 4 v n (l.flatMap URow.cells)) : ∃ a cap, v = .slice a (len l) cap ∧ URows w a l ∧ len l ≤ cap := by
  have hn : len l = n := by have := h.1; rw [flat_length URow.cells 4 URow.cells_len] at this; rw [len_eq]; omega
  obtain ⟨h1, h2⟩ := h
  rcases h2 with ⟨rfl, h2⟩ | ⟨g, cap, cur, rfl, hg, hh, hc1, hc2, hc3, hc4⟩
  · obtain rfl : l = [] := List.eq_nil_of_length_eq_zero (by rw [← len_eq]; omega)
    exact ⟨none, 0, rfl, URows.nil _ _, Nat.le_refl _⟩
  · refine ⟨some ⟨g, 0, none⟩, cap, by rw [hn], fun i hi => ⟨g, 0, rfl, ?_⟩, by omega⟩
    have hown : w.ownsRow base e 4 (.slice (some ⟨g, 0, none⟩) n cap) n (l.flatMap URow.cells) := ⟨h1, .inr ⟨g, cap, cur, rfl, hg, hh, hc1, hc2, hc3, hc4⟩⟩
    have key : ∀ r, r < 4 → w.cell? ⟨g, 0 + i * 4 + r, none⟩ = (unth l i).cells[r]? := fun r hr => by
      have := hown.cellAt (i * 4 + r) (by rw [← hn]; omega)
      rw [Nat.zero_add, this, flat_get URow.cells 4 URow.cells_len l i r hi hr, unth_eq l i hi]
    exact ⟨key 0 (by decide), key 1 (by decide), key 2 (by decide), key 3 (by decide)⟩
theorem URows.block {w : World} {g : Nat} {l : List URow} {t : TypeId} {fr : Nat × Nat} (h : w.heap[g]? = some (.cells (l.flatMap URow.cells).toArray t fr)) : URows w (some ⟨g, 0, none⟩) l := fun i hi => ⟨g, 0, rfl, by
  have key : ∀ r, r < 4 → w.cell? ⟨g, 0 + i * 4 + r, none⟩ = (unth l i).cells[r]? := fun r hr => by
    rw [Nat.zero_add, block_cell h, List.getElem?_toArray, flat_get URow.cells 4 URow.cells_len l i r hi hr, unth_eq l i hi]
  exact ⟨key 0 (by decide), key 1 (by decide), key 2 (by decide), key 3 (by decide)⟩⟩
def byte (s : ByteArray) (i : Nat) : Int := (s.data.toList.getD i 0).toNat
theorem byte_bd (s : ByteArray) (i : Nat) : 0 ≤ byte s i ∧ byte s i ≤ 255 := by unfold byte; have := UInt8.toNat_lt (s.data.toList.getD i 0); omega
theorem ext_size (s : ByteArray) {q : Nat} (h : 1 + q ≤ s.size) : (s.extract 1 (1 + q)).size = q := by simp [ByteArray.size_extract]; omega
theorem ext_byte (s : ByteArray) {q j : Nat} (h : 1 + q ≤ s.size) (hj : j < q) : byte (s.extract 1 (1 + q)) j = byte s (1 + j) := by
  unfold byte
  rw [Lib.extract_data, List.getD_eq_getElem?_getD, List.getD_eq_getElem?_getD, List.getElem?_take, if_pos (by omega), List.getElem?_drop]
theorem conv_bytes (w : World) (s : ByteArray) : ∃ cap w', (convert 9 106 (.string s)).run Tryz.prog w = .ok (.slice (some ⟨w.heap.size, 0, none⟩) s.size cap) w' ∧ Below w.heap.size w w' ∧ w'.heap.size = w.heap.size + 1 ∧ ∀ j, j < s.size → w'.cell? ⟨w.heap.size, j, none⟩ = some (.int .u8 (byte s j)) := by
  have h : Below w.heap.size w (w.drew.alloc (.cells (Lib.bytesCells w 5 s) 5)) := ((Below.refl _ _).drew).alloc (by simp) _
  exact ⟨_, _, Lib.run_convert_string_bytes w 9 106 5 s Tryz.underlying9 Tryz.underlying106 Tryz.underlying5, ⟨h.os, h.tape, h.output, by rw [Lib.bytesWorld_size]; omega, fun i hi => Lib.bytesWorld_at_old _ _ _ _ hi⟩, Lib.bytesWorld_size _ _ _, fun j hj => Lib.bytesWorld_cell w _ s j hj⟩
def chainOf (k : Int) : List PanicEntry := [{ v := .iface 30 (.int .i64 k), recovered := false }]
theorem stop_any (k : Int) (w : World) : Calls Tryz.prog 245 #[.int .i64 k] w fun e w' => e = .panicked (chainOf k) ∧ w' = w := by
  go_enter Tryz.func245, Tryz.ntmps245
  go_wp2
  exact ⟨rfl, rfl, rfl⟩
def be (s : ByteArray) : Nat → Int
  | 0 => 0
  | k + 1 => be s k * 256 + byte s (1 + k)
def headOf (s : ByteArray) (rows : List URow) : Except Int (Int × ByteArray) :=
  if s.size = 0 then .error 4
  else match rows.find? (fun r => decide (r.lo ≤ byte s 0) && decide (byte s 0 ≤ r.hi)) with
    | none => .error 5
    | some r =>
      if (s.size : Int) < 1 + r.size then .error 4
      else if (if r.size = 0 then byte s 0 - r.lo else be s r.size.toNat) < r.least then .error 5
      else .ok (if r.size = 0 then byte s 0 - r.lo else be s r.size.toNat, s.extract (1 + r.size.toNat) s.size)
structure URow.Ok (r : URow) : Prop where
  lo0 : 0 ≤ r.lo
  hi1 : r.hi ≤ 255
  sz0 : 0 ≤ r.size
  sz1 : r.size ≤ 8
  le0 : 0 ≤ r.least
  le1 : r.least ≤ 4294967296
def HeadIs (res : Except Int (Int × ByteArray)) (w : World) (e : Ending) (w' : World) : Prop :=
  Below w.heap.size w w' ∧ match res with
    | .ok x => e = .returned (.agg #[.int .u64 x.1, .string x.2])
    | .error k => e = .panicked (chainOf k)
theorem headIs_ok {n : Int} {rest : ByteArray} {w w' : World} {e : Ending} (h : HeadIs (.ok (n, rest)) w e w') : e = .returned (.agg #[.int .u64 n, .string rest]) ∧ Below w.heap.size w w' := ⟨h.2, h.1⟩
theorem headIs_err {k : Int} {w w' : World} {e : Ending} (h : HeadIs (.error k) w e w') : e = .panicked (chainOf k) ∧ Below w.heap.size w w' := ⟨h.2, h.1⟩
theorem byte0 (s : ByteArray) (h : 0 < s.size) : (s[0].toNat : Int) = byte s 0 := by
  unfold byte
  rw [List.getD_eq_getElem?_getD, List.getElem?_eq_getElem (by simpa using h)]; rfl
theorem head_find {s : ByteArray} {l : List URow} {k : Nat} (hk : k < len l) (hn : ∀ j, j < k → ¬ ((unth l j).lo ≤ byte s 0 ∧ byte s 0 ≤ (unth l j).hi)) (hy : (unth l k).lo ≤ byte s 0 ∧ byte s 0 ≤ (unth l k).hi) :
    l.find? (fun r => decide (r.lo ≤ byte s 0) && decide (byte s 0 ≤ r.hi)) = some (unth l k) := by
  rw [unth_eq l k hk] at hy ⊢
  rw [List.find?_eq_some_iff_getElem]
  refine ⟨by simp [hy], k, hk, rfl, fun j hj => ?_⟩
  have hjl : j < l.length := Nat.lt_trans hj hk
  have := hn j hj
  rw [unth_eq l j hjl] at this
  simp only [Bool.not_eq_true', Bool.and_eq_false_iff, decide_eq_false_iff_not]
  by_cases h : l[j].lo ≤ byte s 0
  · exact .inr fun h2 => this ⟨h, h2⟩
  · exact .inl h
theorem head_none {s : ByteArray} {l : List URow} (hs : 0 < s.size) (hn : ∀ j, j < len l → ¬ ((unth l j).lo ≤ byte s 0 ∧ byte s 0 ≤ (unth l j).hi)) : headOf s l = .error 5 := by
  unfold headOf
  rw [if_neg (by omega)]
  have : l.find? (fun r => decide (r.lo ≤ byte s 0) && decide (byte s 0 ≤ r.hi)) = none := by
    rw [List.find?_eq_none]
    intro x hx
    obtain ⟨j, hj, rfl⟩ := List.getElem_of_mem hx
    have := hn j hj
    rw [unth_eq l j hj] at this
    simp only [Bool.and_eq_true, decide_eq_true_eq, not_and]
    exact fun h h2 => this ⟨h, h2⟩
  rw [this]
theorem head_row {s : ByteArray} {l : List URow} {r : URow} (hs : 0 < s.size) (h : l.find? (fun r => decide (r.lo ≤ byte s 0) && decide (byte s 0 ≤ r.hi)) = some r) :
    headOf s l = if (s.size : Int) < 1 + r.size then .error 4
      else if (if r.size = 0 then byte s 0 - r.lo else be s r.size.toNat) < r.least then .error 5
      else .ok (if r.size = 0 then byte s 0 - r.lo else be s r.size.toNat, s.extract (1 + r.size.toNat) s.size) := by
  unfold headOf
  rw [if_neg (by omega), h]
def numAt (s : ByteArray) (r : URow) (j : Nat) : Int := if r.size = 0 then byte s 0 - r.lo else be s j
theorem be_bd (s : ByteArray) : ∀ j, 0 ≤ be s j ∧ be s j < 256 ^ j
  | 0 => ⟨by simp [be], by simp [be]⟩
  | j + 1 => by
    have := be_bd s j
    have := byte_bd s (1 + j)
    rw [be, Int.pow_succ]
    omega
theorem numAt_bd {s : ByteArray} {r : URow} {j : Nat} (hj : (j : Int) ≤ 8) (h : r.Ok) (hlo : r.lo ≤ byte s 0) : 0 ≤ numAt s r j ∧ numAt s r j ≤ 18446744073709551615 := by
  unfold numAt
  have hb := byte_bd s 0
  have hl := h.lo0
  split
  · omega
  · have h1 := be_bd s j
    have h2 : (256 : Int) ^ j ≤ 256 ^ 8 := by
      obtain ⟨d, hd⟩ : ∃ d, 8 = j + d := ⟨8 - j, by omega⟩
      rw [hd, Int.pow_add]
      have h3 : (0 : Int) < 256 ^ j := Int.pow_pos (by decide)
      have h4 : (0 : Int) < 256 ^ d := Int.pow_pos (by decide)
      have h5 := Int.mul_le_mul_of_nonneg_left (show (1 : Int) ≤ 256 ^ d by omega) (Int.le_of_lt h3)
      rw [Int.mul_one] at h5; exact h5
    have h5 : (256 : Int) ^ 8 = 18446744073709551616 := by decide
    omega
theorem numAt_lt {s : ByteArray} {r : URow} {j : Nat} (hj : j ≤ 7) (h : r.Ok) (hlo : r.lo ≤ byte s 0) : numAt s r j ≤ 72057594037927935 := by
  unfold numAt
  have hb := byte_bd s 0
  have hl := h.lo0
  split
  · omega
  · have h1 := be_bd s j
    have h2 : (256 : Int) ^ j ≤ 256 ^ 7 := by
      obtain ⟨d, hd⟩ : ∃ d, 7 = j + d := ⟨7 - j, by omega⟩
      rw [hd, Int.pow_add]
      have h3 : (0 : Int) < 256 ^ j := Int.pow_pos (by decide)
      have h4 : (0 : Int) < 256 ^ d := Int.pow_pos (by decide)
      have h5 := Int.mul_le_mul_of_nonneg_left (show (1 : Int) ≤ 256 ^ d by omega) (Int.le_of_lt h3)
      rw [Int.mul_one] at h5; exact h5
    have h5 : (256 : Int) ^ 7 = 72057594037927936 := by decide
    omega
theorem numAt_succ (s : ByteArray) (r : URow) (j : Nat) (h : r.size ≠ 0) : numAt s r (j + 1) = numAt s r j * 256 + byte s (1 + j) := by
  unfold numAt; rw [if_neg h, if_neg h]; rfl
set_option maxRecDepth 100000 in
set_option maxHeartbeats 2000000 in
theorem head_any (s : ByteArray) (a : Option Addr) (cap : Nat) (l : List URow) (w : World) (hs : s.size ≤ 9223372036854775807) (hl0 : 0 < len l) (hl : len l ≤ 100) (hc : URows w a l) (hok : ∀ i, (unth l i).Ok) :
    Calls Tryz.prog 224 #[.string s, .slice a (len l) cap] w (HeadIs (headOf s l) w) := by
  have HC := Lib.hid hc
  have HO := Lib.hid hok
  clear hc hok
  by_cases h0 : s.size = 0
  · have he : s.toList.isEmpty = true := by rw [ByteArray.toList_eq]; cases s with | mk d => simp_all [ByteArray.size]
    have E : Hid (headOf s l = .error 4) := Lib.hid (by unfold headOf; rw [if_pos h0])
    clear h0
    go_enter Tryz.func224, Tryz.ntmps224
    go_wp2
    go_step3
    go_wp2_with fail
    refine (stop_any 4 _).mono ?_
    rintro e w1 ⟨rfl, rfl⟩
    go_wp2
    rw [E.out]
    exact ⟨rfl, by (repeat (first | exact Below.refl _ _ | assumption | (refine bdrew ?_) | (refine bdrewN ?_ _) | (refine balloc ?_ _) | (refine bset ?_ (by first | omega | (simp; done) | (simp; omega)) _) | (refine bnext ?_ (by assumption)))), rfl⟩
  have he : s.toList.isEmpty = false := by rw [ByteArray.toList_eq]; cases s with | mk d => simp_all [ByteArray.size]
  have hs0 : 0 < s.size := by omega
  clear h0
  go_enter Tryz.func224, Tryz.ntmps224
  go_wp2
  go_step3
  go_wp2
  go_step3
  go_wp2
  go_loopw [16] (fun i wr => ∃ k : Nat, k < len l ∧ i = .int .i64 k ∧ Below w.heap.size w wr ∧ Hid (∀ j, j < k → ¬ ((unth l j).lo ≤ byte s 0 ∧ byte s 0 ≤ (unth l j).hi)) ∧
    Hid (wr.heap[w.heap.size]? = some (.cells #[.int .u64 0, .string ⟨#[]⟩] 311 (0, 0))) ∧ Hid (wr.heap[w.heap.size + 1]? = some (.cells #[.int .u8 0, .int .u8 0, .int .i64 0, .int .u64 0] 338 (0, 0)))) (fun i _ => len l - (intOf i).toNat)
  case atStart => exact ⟨0, hl0, rfl, (by (repeat (first | exact Below.refl _ _ | assumption | (refine bdrew ?_) | (refine bdrewN ?_ _) | (refine balloc ?_ _) | (refine bset ?_ (by first | omega | (simp; done) | (simp; omega)) _) | (refine bnext ?_ (by assumption))))), fun j hj => absurd hj (by omega), (by (repeat (first | exact alloc_new_at _ (by repeat (first | rfl | refine alloc_size _ ?_)) | refine block_alloc ?_ _))), (by (repeat (first | exact alloc_new_at _ (by repeat (first | rfl | refine alloc_size _ ?_)) | refine block_alloc ?_ _)))⟩
  case round =>
    obtain ⟨k, hk, rfl, hd, hn, hB0, hB1⟩ := hrel
    have hlt := hk
    obtain ⟨b, off, rfl, ⟨c0, c1, c2, c3⟩⟩ := HC.out.below hd k hlt
    have b0 : (k : Int) < len l := by omega
    have b1 : k < len l := by omega
    obtain ⟨z, hz⟩ : ∃ z, z = byte s 0 := ⟨_, rfl⟩
    have hz' : (s[0].toNat : Int) = z := by rw [hz]; exact byte0 s hs0
    have o1 := HO.out k
    have z0 : 0 ≤ z := by rw [hz]; unfold byte; omega
    have z1 : z ≤ 255 := by rw [hz]; unfold byte; have := UInt8.toNat_lt (s.data.toList.getD 0 0); omega
    have HZ := Lib.hid hz
    have sz : w.heap.size + 1 < wr.heap.size := lt_of_block hB1.out
    go_wp2_with fail
    obtain ⟨W, hW⟩ : ∃ W, wr.alloc (.cells #[.int .u8 (unth l k).lo, .int .u8 (unth l k).hi, .int .i64 (unth l k).size, .int .u64 (unth l k).least] 338) = W := ⟨_, rfl⟩
    have HB0 := Lib.hid (block_alloc hB0.out (.cells #[.int .u8 (unth l k).lo, .int .u8 (unth l k).hi, .int .i64 (unth l k).size, .int .u64 (unth l k).least] 338))
    have HB1 := Lib.hid (block_alloc hB1.out (.cells #[.int .u8 (unth l k).lo, .int .u8 (unth l k).hi, .int .i64 (unth l k).size, .int .u64 (unth l k).least] 338))
    have HBN := Lib.hid (heap_alloc_new wr (.cells #[.int .u8 (unth l k).lo, .int .u8 (unth l k).hi, .int .i64 (unth l k).size, .int .u64 (unth l k).least] 338))
    have HD := Lib.hid (balloc hd (.cells #[.int .u8 (unth l k).lo, .int .u8 (unth l k).hi, .int .i64 (unth l k).size, .int .u64 (unth l k).least] 338))
    rw [hW] at HB0 HB1 HBN HD ⊢
    have q0 : W.cell? ⟨wr.heap.size, 0, none⟩ = some (.int .u8 (unth l k).lo) := block_cell HBN.out 0
    have q1 : W.cell? ⟨wr.heap.size, 1, none⟩ = some (.int .u8 (unth l k).hi) := block_cell HBN.out 1
    clear hW hd hz hB0 hB1 c0 c1 c2 c3
    by_cases m1 : (unth l k).lo ≤ z
    · have M1 : decide ((unth l k).lo ≤ z) = true := by simpa using m1
      by_cases m2 : z ≤ (unth l k).hi
      · obtain ⟨x2, hx2⟩ : ∃ x2, x2 = true := ⟨_, rfl⟩
        have M2 : decide (z ≤ (unth l k).hi) = x2 := by rw [hx2]; simpa using m2
        refine wp_region_all 1000 (none) (phis [fun u _ => u = (.string s), fun u _ => u = (.int .u8 z), fun u _ => u = (.pointer (some ⟨wr.heap.size, 0, none⟩)), fun u _ => u = (.int .u8 (unth l k).lo), fun u _ => u = (.bool true), fun u _ => u = (.bool true), fun u _ => u = (.string s), fun u _ => u = (.int .u8 z), fun u _ => u = (.pointer (some ⟨wr.heap.size, 1, none⟩)), fun u _ => u = (.int .u8 (unth l k).hi), fun u _ => u = (.bool x2), fun u _ => u = (.bool x2), fun u _ => u = (.bool x2)]) rfl (by kernel_rfl) (mono_of ⟨mono_eq, mono_eq, mono_eq, mono_eq, mono_eq, mono_eq, mono_eq, mono_eq, mono_eq, mono_eq, mono_eq, mono_eq, mono_eq, trivial⟩) (steps_of 13 ⟨?s0, ?s1, ?s2, ?s3, ?s4, ?s5, ?s6, ?s7, ?s8, ?s9, ?s10, ?s11, ?s12, trivial⟩) ?_
        case s0 =>
          refine step_val (v := (.string s)) (fun av wv hE hS hO hD => ?_) (fun _ => rfl)
          have h0 : av.eval (.tmp 0) = (.string s) := hO.2.2 0 rfl
          have f0 := (ev_form av 0).symm.trans h0
          refine ⟨rfl, ?_⟩
          simp [go_sem, f0, hz', hs0, M1, M2]
        case s1 =>
          refine step_val (v := (.int .u8 z)) (fun av wv hE hS hO hD => ?_) (fun _ => rfl)
          have d22 : av.eval (.tmp 22) = (.string s) := hD.1 rfl _ rfl
          have f22 := (ev_form av 22).symm.trans d22
          refine ⟨rfl, ?_⟩
          simp [go_sem, f22, hz', hs0, M1, M2]
        case s2 =>
          refine step_val (v := (.pointer (some ⟨wr.heap.size, 0, none⟩))) (fun av wv hE hS hO hD => ?_) (fun _ => rfl)
          have h7 : av.eval (.tmp 7) = (.pointer (some ⟨wr.heap.size, 0, none⟩)) := hO.2.2 7 rfl
          have f7 := (ev_form av 7).symm.trans h7
          refine ⟨rfl, ?_⟩
          simp [go_sem, f7, hz', hs0, M1, M2]
        case s3 =>
          refine step_val (v := (.int .u8 (unth l k).lo)) (fun av wv hE hS hO hD => ?_) (fun _ => rfl)
          have d24 : av.eval (.tmp 24) = (.pointer (some ⟨wr.heap.size, 0, none⟩)) := hD.1 rfl _ rfl
          have f24 := (ev_form av 24).symm.trans d24
          have q0 := extB_cell hE (by simp) q0
          have q1 := extB_cell hE (by simp) q1
          refine ⟨rfl, ?_⟩
          simp [go_sem, f24, q0, q1, hz', hs0, M1, M2]
        case s4 =>
          refine step_val (v := (.bool true)) (fun av wv hE hS hO hD => ?_) (fun _ => rfl)
          have d23 : av.eval (.tmp 23) = (.int .u8 z) := hD.1 rfl _ rfl
          have f23 := (ev_form av 23).symm.trans d23
          have d25 : av.eval (.tmp 25) = (.int .u8 (unth l k).lo) := hD.2.1 rfl _ rfl
          have f25 := (ev_form av 25).symm.trans d25
          refine ⟨rfl, ?_⟩
          simp [go_sem, f23, f25, hz', hs0, M1, M2]
        case s5 =>
          refine step_val (v := (.bool true)) (fun av wv hE hS hO hD => ?_) (fun _ => rfl)
          have d26 : av.eval (.tmp 26) = (.bool true) := hD.1 rfl _ rfl
          have f26 := (ev_form av 26).symm.trans d26
          refine ⟨rfl, ?_⟩
          simp [go_sem, f26, hz', hs0, M1, M2]
        case s6 =>
          refine step_val (v := (.string s)) (fun av wv hE hS hO hD => ?_) (fun _ => rfl)
          have h0 : av.eval (.tmp 0) = (.string s) := hO.2.2 0 rfl
          have f0 := (ev_form av 0).symm.trans h0
          have d27 : av.eval (.tmp 27) = (.bool true) := hD.1 rfl _ rfl
          have f27 := (ev_form av 27).symm.trans d27
          refine ⟨(wanted_of (d := 27) (b := true) (want := true) rfl rfl rfl d27), ?_⟩
          simp [go_sem, f0, f27, hz', hs0, M1, M2]
        case s7 =>
          refine step_val (v := (.int .u8 z)) (fun av wv hE hS hO hD => ?_) (fun _ => rfl)
          have d28 : av.eval (.tmp 28) = (.string s) := hD.1 rfl _ rfl
          have f28 := (ev_form av 28).symm.trans d28
          have d27 : av.eval (.tmp 27) = (.bool true) := hD.2.1 rfl _ rfl
          have f27 := (ev_form av 27).symm.trans d27
          refine ⟨(wanted_of (d := 27) (b := true) (want := true) rfl rfl rfl d27), ?_⟩
          simp [go_sem, f28, f27, hz', hs0, M1, M2]
        case s8 =>
          refine step_val (v := (.pointer (some ⟨wr.heap.size, 1, none⟩))) (fun av wv hE hS hO hD => ?_) (fun _ => rfl)
          have h7 : av.eval (.tmp 7) = (.pointer (some ⟨wr.heap.size, 0, none⟩)) := hO.2.2 7 rfl
          have f7 := (ev_form av 7).symm.trans h7
          have d27 : av.eval (.tmp 27) = (.bool true) := hD.1 rfl _ rfl
          have f27 := (ev_form av 27).symm.trans d27
          refine ⟨(wanted_of (d := 27) (b := true) (want := true) rfl rfl rfl d27), ?_⟩
          simp [go_sem, f7, f27, hz', hs0, M1, M2]
        case s9 =>
          refine step_val (v := (.int .u8 (unth l k).hi)) (fun av wv hE hS hO hD => ?_) (fun _ => rfl)
          have d30 : av.eval (.tmp 30) = (.pointer (some ⟨wr.heap.size, 1, none⟩)) := hD.1 rfl _ rfl
          have f30 := (ev_form av 30).symm.trans d30
          have d27 : av.eval (.tmp 27) = (.bool true) := hD.2.1 rfl _ rfl
          have f27 := (ev_form av 27).symm.trans d27
          have q0 := extB_cell hE (by simp) q0
          have q1 := extB_cell hE (by simp) q1
          refine ⟨(wanted_of (d := 27) (b := true) (want := true) rfl rfl rfl d27), ?_⟩
          simp [go_sem, f30, f27, q0, q1, hz', hs0, M1, M2]
        case s10 =>
          refine step_val (v := (.bool x2)) (fun av wv hE hS hO hD => ?_) (fun _ => rfl)
          have d29 : av.eval (.tmp 29) = (.int .u8 z) := hD.1 rfl _ rfl
          have f29 := (ev_form av 29).symm.trans d29
          have d31 : av.eval (.tmp 31) = (.int .u8 (unth l k).hi) := hD.2.1 rfl _ rfl
          have f31 := (ev_form av 31).symm.trans d31
          have d27 : av.eval (.tmp 27) = (.bool true) := hD.2.2.1 rfl _ rfl
          have f27 := (ev_form av 27).symm.trans d27
          refine ⟨(wanted_of (d := 27) (b := true) (want := true) rfl rfl rfl d27), ?_⟩
          simp [go_sem, f29, f31, f27, hz', hs0, M1, M2]
        case s11 =>
          refine step_val (v := (.bool x2)) (fun av wv hE hS hO hD => ?_) (fun _ => rfl)
          have d27 : av.eval (.tmp 27) = (.bool true) := hD.1 rfl _ rfl
          have f27 := (ev_form av 27).symm.trans d27
          have d32 : av.eval (.tmp 32) = (.bool x2) := hD.2.1 rfl _ rfl
          have f32 := (ev_form av 32).symm.trans d32
          refine ⟨rfl, ?_⟩
          simp [go_sem, f27, f32, hz', hs0, M1, M2]
        case s12 =>
          refine step_val (v := (.bool x2)) (fun av wv hE hS hO hD => ?_) (fun _ => rfl)
          have d33 : av.eval (.tmp 33) = (.bool x2) := hD.1 rfl _ rfl
          have f33 := (ev_form av 33).symm.trans d33
          refine ⟨rfl, ?_⟩
          simp [go_sem, f33, hz', hs0, M1, M2]
        intro a' w' hE hO hall
        have hA := act_of_outer (ds := [22, 23, 24, 25, 26, 27, 28, 29, 30, 31, 32, 33, 21]) rfl hO (by kernel_rfl)
        have e22 : (fun u _ => u = (.string s)) (a'.eval (.tmp 22)) w' := hall.1 _ rfl
        have e23 : (fun u _ => u = (.int .u8 z)) (a'.eval (.tmp 23)) w' := hall.2.1 _ rfl
        have e24 : (fun u _ => u = (.pointer (some ⟨wr.heap.size, 0, none⟩))) (a'.eval (.tmp 24)) w' := hall.2.2.1 _ rfl
        have e25 : (fun u _ => u = (.int .u8 (unth l k).lo)) (a'.eval (.tmp 25)) w' := hall.2.2.2.1 _ rfl
        have e26 : (fun u _ => u = (.bool true)) (a'.eval (.tmp 26)) w' := hall.2.2.2.2.1 _ rfl
        have e27 : (fun u _ => u = (.bool true)) (a'.eval (.tmp 27)) w' := hall.2.2.2.2.2.1 _ rfl
        have e28 : (fun u _ => u = (.string s)) (a'.eval (.tmp 28)) w' := hall.2.2.2.2.2.2.1 _ rfl
        have e29 : (fun u _ => u = (.int .u8 z)) (a'.eval (.tmp 29)) w' := hall.2.2.2.2.2.2.2.1 _ rfl
        have e30 : (fun u _ => u = (.pointer (some ⟨wr.heap.size, 1, none⟩))) (a'.eval (.tmp 30)) w' := hall.2.2.2.2.2.2.2.2.1 _ rfl
        have e31 : (fun u _ => u = (.int .u8 (unth l k).hi)) (a'.eval (.tmp 31)) w' := hall.2.2.2.2.2.2.2.2.2.1 _ rfl
        have e32 : (fun u _ => u = (.bool x2)) (a'.eval (.tmp 32)) w' := hall.2.2.2.2.2.2.2.2.2.2.1 _ rfl
        have e33 : (fun u _ => u = (.bool x2)) (a'.eval (.tmp 33)) w' := hall.2.2.2.2.2.2.2.2.2.2.2.1 _ rfl
        have e21 : (fun u _ => u = (.bool x2)) (a'.eval (.tmp 21)) w' := hall.2.2.2.2.2.2.2.2.2.2.2.2.1 _ rfl
        simp only [List.foldl_cons, List.foldl_nil, Act.put, List.setIfInBounds_toArray, List.set_cons_succ, List.set_cons_zero, e22, e23, e24, e25, e26, e27, e28, e29, e30, e31, e32, e33, e21] at hA
        clear hO hall e22 e23 e24 e25 e26 e27 e28 e29 e30 e31 e32 e33 e21
        subst hA
        have F : Hid (l.find? (fun r => decide (r.lo ≤ byte s 0) && decide (byte s 0 ≤ r.hi)) = some (unth l k)) := Lib.hid (head_find b1 hn.out (by rw [← HZ.out]; exact ⟨m1, m2⟩))
        subst hx2
        have B7 := Lib.hid (bnext HD.out (of_drew hE))
        have X0 := Lib.hid (extB_block hE (by simp) HB0.out)
        have X1 := Lib.hid (extB_block hE (by simp) HB1.out)
        have XN := Lib.hid (extB_block hE (by simp) HBN.out)
        clear hE hn M1 M2 m2 q0 q1
        obtain ⟨r, hr⟩ : ∃ r, unth l k = r := ⟨_, rfl⟩
        rw [hr] at XN F o1 m1
        have FR := Lib.hid (head_row hs0 F.out)
        have p0 : w'.cell? ⟨wr.heap.size, 0, none⟩ = some (.int .u8 r.lo) := block_cell XN.out 0
        have p1 : w'.cell? ⟨wr.heap.size, 1, none⟩ = some (.int .u8 r.hi) := block_cell XN.out 1
        have p2 : w'.cell? ⟨wr.heap.size, 2, none⟩ = some (.int .i64 r.size) := block_cell XN.out 2
        have p3 : w'.cell? ⟨wr.heap.size, 3, none⟩ = some (.int .u64 r.least) := block_cell XN.out 3
        have x0 := block_cell X1.out
        have x1 := block_free X1.out
        clear hr
        go_upto_region 12 with fail
        obtain ⟨V, hV⟩ : ∃ V, (((w'.setCell ⟨w.heap.size + 1, 0, none⟩ (.int .u8 r.lo)).setCell ⟨w.heap.size + 1, 1, none⟩ (.int .u8 r.hi)).setCell ⟨w.heap.size + 1, 2, none⟩ (.int .i64 r.size)).setCell ⟨w.heap.size + 1, 3, none⟩ (.int .u64 r.least) = V := ⟨_, rfl⟩
        have VB : Hid (Below w.heap.size w V) := Lib.hid (by rw [← hV]; exact bset (bset (bset (bset B7.out (by simp) _) (by simp) _) (by simp) _) (by simp) _)
        have V0 : Hid (V.heap[w.heap.size]? = some (.cells #[.int .u64 0, .string ⟨#[]⟩] 311 (0, 0))) := Lib.hid (by
          rw [← hV]; exact block_setCell_ne (block_setCell_ne (block_setCell_ne (block_setCell_ne X0.out (by simp) _) (by simp) _) (by simp) _) (by simp) _)
        have V1 : V.heap[w.heap.size + 1]? = some (.cells #[.int .u8 r.lo, .int .u8 r.hi, .int .i64 r.size, .int .u64 r.least] 338 (0, 0)) := by
          rw [← hV]; exact block_setCell (block_setCell (block_setCell (block_setCell X1.out _) _) _) _
        rw [hV]
        have v0 : V.cell? ⟨w.heap.size + 1, 0, none⟩ = some (.int .u8 r.lo) := block_cell V1 0
        have v2 : V.cell? ⟨w.heap.size + 1, 2, none⟩ = some (.int .i64 r.size) := block_cell V1 2
        have v3 : V.cell? ⟨w.heap.size + 1, 3, none⟩ = some (.int .u64 r.least) := block_cell V1 3
        have HV1 := Lib.hid V1
        clear hV V1 p0 p1 p2 p3 x0 x1 HB0 HB1 HBN X0 X1 XN B7 HD HC hlt b0 b1 hk
        have k1 := o1.sz0
        have k2 := o1.sz1
        have k3 := o1.lo0
        have i1 : IntKind.i64.wrap (1 + r.size) = 1 + r.size := IntWalk.i64_in _ (by omega)
        by_cases c1 : (s.size : Int) < 1 + r.size
        · have E : Hid (headOf s l = .error 4) := Lib.hid (by rw [FR.out, if_pos c1])
          go_wp2_with fail
          refine (stop_any 4 _).mono ?_
          rintro e w1 ⟨rfl, rfl⟩
          go_wp2
          rw [E.out]
          exact ⟨rfl, VB.out, rfl⟩
        · have i2 : IntKind.u8.wrap (z - r.lo) = z - r.lo := IntWalk.u8_in _ (by omega)
          have i3 : IntKind.u64.wrap (z - r.lo) = z - r.lo := IntWalk.u64_in _ (by omega)
          obtain ⟨q, hq⟩ : ∃ q : Nat, r.size = q := ⟨r.size.toNat, by omega⟩
          by_cases c2 : r.size = 0
          · have c2' : (r.size == 0) = true := by simpa using c2
            have HQ := Lib.hid hq
            have C2 := Lib.hid c2
            clear hq c2
            go_upto_region 16 with fail
            refine wp_region_all 1000 (none) (phis [fun u _ => u = (.string s), fun u _ => u = (.int .u8 z), fun u _ => u = (.pointer (some ⟨w.heap.size + 1, 0, none⟩)), fun u _ => u = (.int .u8 r.lo), fun u _ => u = (.int .u8 (z - r.lo)), fun u _ => u = (.int .u64 (z - r.lo)), fun u _ => u = (.int .u64 (z - r.lo))]) rfl (by kernel_rfl) (mono_of ⟨mono_eq, mono_eq, mono_eq, mono_eq, mono_eq, mono_eq, mono_eq, trivial⟩) (steps_of 7 ⟨?s0, ?s1, ?s2, ?s3, ?s4, ?s5, ?s6, trivial⟩) ?_
            case s0 =>
              refine step_val (v := (.string s)) (fun av wv hE hS hO hD => ?_) (fun _ => rfl)
              have h0 : av.eval (.tmp 0) = (.string s) := hO.2.2 0 rfl
              have f0 := (ev_form av 0).symm.trans h0
              refine ⟨rfl, ?_⟩
              simp [go_sem, f0, hz', hs0, i2, i3]
            case s1 =>
              refine step_val (v := (.int .u8 z)) (fun av wv hE hS hO hD => ?_) (fun _ => rfl)
              have d53 : av.eval (.tmp 53) = (.string s) := hD.1 rfl _ rfl
              have f53 := (ev_form av 53).symm.trans d53
              refine ⟨rfl, ?_⟩
              simp [go_sem, f53, hz', hs0, i2, i3]
            case s2 =>
              refine step_val (v := (.pointer (some ⟨w.heap.size + 1, 0, none⟩))) (fun av wv hE hS hO hD => ?_) (fun _ => rfl)
              have h5 : av.eval (.tmp 5) = (.pointer (some ⟨w.heap.size + 1, 0, none⟩)) := hO.2.2 5 rfl
              have f5 := (ev_form av 5).symm.trans h5
              refine ⟨rfl, ?_⟩
              simp [go_sem, f5, hz', hs0, i2, i3]
            case s3 =>
              refine step_val (v := (.int .u8 r.lo)) (fun av wv hE hS hO hD => ?_) (fun _ => rfl)
              have d55 : av.eval (.tmp 55) = (.pointer (some ⟨w.heap.size + 1, 0, none⟩)) := hD.1 rfl _ rfl
              have f55 := (ev_form av 55).symm.trans d55
              have v0 := extB_cell hE (by simp) v0
              refine ⟨rfl, ?_⟩
              simp [go_sem, f55, v0, hz', hs0, i2, i3]
            case s4 =>
              refine step_val (v := (.int .u8 (z - r.lo))) (fun av wv hE hS hO hD => ?_) (fun _ => rfl)
              have d54 : av.eval (.tmp 54) = (.int .u8 z) := hD.1 rfl _ rfl
              have f54 := (ev_form av 54).symm.trans d54
              have d56 : av.eval (.tmp 56) = (.int .u8 r.lo) := hD.2.1 rfl _ rfl
              have f56 := (ev_form av 56).symm.trans d56
              refine ⟨rfl, ?_⟩
              simp [go_sem, f54, f56, hz', hs0, i2, i3]
            case s5 =>
              refine step_val (v := (.int .u64 (z - r.lo))) (fun av wv hE hS hO hD => ?_) (fun _ => rfl)
              have d57 : av.eval (.tmp 57) = (.int .u8 (z - r.lo)) := hD.1 rfl _ rfl
              have f57 := (ev_form av 57).symm.trans d57
              refine ⟨rfl, ?_⟩
              simp [go_sem, f57, hz', hs0, i2, i3]
            case s6 =>
              refine step_val (v := (.int .u64 (z - r.lo))) (fun av wv hE hS hO hD => ?_) (fun _ => rfl)
              have d58 : av.eval (.tmp 58) = (.int .u64 (z - r.lo)) := hD.1 rfl _ rfl
              have f58 := (ev_form av 58).symm.trans d58
              refine ⟨rfl, ?_⟩
              simp [go_sem, f58, hz', hs0, i2, i3]
            intro a' w' hE hO hall
            have hA := act_of_outer (ds := [53, 54, 55, 56, 57, 58, 8]) rfl hO (by kernel_rfl)
            have e53 : (fun u _ => u = (.string s)) (a'.eval (.tmp 53)) w' := hall.1 _ rfl
            have e54 : (fun u _ => u = (.int .u8 z)) (a'.eval (.tmp 54)) w' := hall.2.1 _ rfl
            have e55 : (fun u _ => u = (.pointer (some ⟨w.heap.size + 1, 0, none⟩))) (a'.eval (.tmp 55)) w' := hall.2.2.1 _ rfl
            have e56 : (fun u _ => u = (.int .u8 r.lo)) (a'.eval (.tmp 56)) w' := hall.2.2.2.1 _ rfl
            have e57 : (fun u _ => u = (.int .u8 (z - r.lo))) (a'.eval (.tmp 57)) w' := hall.2.2.2.2.1 _ rfl
            have e58 : (fun u _ => u = (.int .u64 (z - r.lo))) (a'.eval (.tmp 58)) w' := hall.2.2.2.2.2.1 _ rfl
            have e8 : (fun u _ => u = (.int .u64 (z - r.lo))) (a'.eval (.tmp 8)) w' := hall.2.2.2.2.2.2.1 _ rfl
            simp only [List.foldl_cons, List.foldl_nil, Act.put, List.setIfInBounds_toArray, List.set_cons_succ, List.set_cons_zero, e53, e54, e55, e56, e57, e58, e8] at hA
            clear hO hall e53 e54 e55 e56 e57 e58 e8
            subst hA
            have VB2 := Lib.hid (bnext VB.out (of_drew hE))
            have V12 := Lib.hid (extB_block hE (by simp) HV1.out)
            have V02 := Lib.hid (extB_block hE (by simp) V0.out)
            have v2 : w'.cell? ⟨w.heap.size + 1, 2, none⟩ = some (.int .i64 r.size) := block_cell V12.out 2
            clear hE VB V0 HV1 v0 v3 i2 i3
            go_upto_region 17 with fail
            have qs : 1 + q ≤ s.size := by have := HQ.out; omega
            have hxs : (s.extract 1 (1 + q)).size = q := ext_size s qs
            obtain ⟨bc, Y, hcv, hY1, hY2, hY3⟩ := conv_bytes w' (s.extract 1 (1 + q))
            rw [hxs] at hcv hY3
            have HY3 : Hid (∀ j, j < q → Y.cell? ⟨(World.heap w').size, j, none⟩ = some (.int .u8 (byte s (1 + j)))) := Lib.hid (fun j hj => by rw [hY3 j hj, ext_byte s qs hj])
            have YB := Lib.hid (bnext VB2.out hY1)
            have Y1 := Lib.hid ((hY1.block _ (lt_of_block V12.out)).trans V12.out)
            have Y0 := Lib.hid ((hY1.block _ (lt_of_block V02.out)).trans V02.out)
            have YS : w.heap.size + 1 < Y.heap.size := lt_of_block Y1.out
            clear hY1 hY2 hY3 hxs
            have i5 : (1 + r.size).toNat = 1 + q := by have := HQ.out; omega
            have i6 : r.size.toNat = q := by have := HQ.out; omega
            have q8 : q ≤ 8 := by have := HQ.out; omega
            have j1 : 1 ≤ (s.size : Int) := by omega
            have j2 : 1 + r.size ≤ (s.size : Int) := by omega
            have j3 : 1 ≤ 1 + r.size := by omega
            go_wp2_with fail
            clear hcv
            go_loopg [8, 66] q (fun g n i wx => ∃ j : Nat, g + j = q ∧ i = .int .i64 j ∧ n = .int .u64 (numAt s r j) ∧ wx = Y)
            case atStart => exact ⟨0, rfl, rfl, (by unfold numAt; rw [if_pos C2.out, ← HZ.out]), rfl⟩
            case round =>
              obtain ⟨j, hj, rfl, rfl, rfl⟩ := hrel
              have vb := numAt_bd (s := s) (r := r) (j := j) (by have := HQ.out; omega) o1 (by rw [← HZ.out]; exact m1)
              by_cases hjq : j < q
              · have b0 : (j : Int) < q := by omega
                have cc := HY3.out j hjq
                have vs := Lib.hid (numAt_succ s r j (by have := HQ.out; omega))
                have cb := byte_bd s (1 + j)
                have vb2 := numAt_lt (s := s) (r := r) (j := j) (by omega) o1 (by rw [← HZ.out]; exact m1)
                obtain ⟨c, hc⟩ : ∃ c, byte s (1 + j) = c := ⟨_, rfl⟩
                obtain ⟨v, hv⟩ : ∃ v, numAt s r j = v := ⟨_, rfl⟩
                rw [hc] at cc cb
                rw [hv] at vb vb2
                have hor := shl_or v c vb.1 vb2 cb.1 cb.2
                go_wp2
                go_roundg (gk - 1)
                case rel => exact ⟨j + 1, by omega, by go_num, (by rw [vs.out, hv, hc, ← hor]), rfl⟩
                case measure => omega
              · obtain rfl : j = q := by omega
                have E0 : headOf s l = if numAt s r j < r.least then .error 5 else .ok (numAt s r j, s.extract (1 + j) s.size) := by
                  rw [FR.out, if_neg (by omega), i6]; rfl
                obtain ⟨v, hv⟩ : ∃ v, numAt s r j = v := ⟨_, rfl⟩
                rw [hv] at vb E0 ⊢
                have g2 : wr.cell? ⟨w.heap.size + 1, 2, none⟩ = some (.int .i64 r.size) := block_cell Y1.out 2
                have g3 : wr.cell? ⟨w.heap.size + 1, 3, none⟩ = some (.int .u64 r.least) := block_cell Y1.out 3
                have y0 : ∀ o, wr.cell? ⟨w.heap.size, o, none⟩ = _ := block_cell Y0.out
                have y1 : ∀ o, wr.frozen? ⟨w.heap.size, o, none⟩ = false := block_free Y0.out
                clear hv
                by_cases hv : v < r.least
                · have E : Hid (headOf s l = .error 5) := Lib.hid (by rw [E0, if_pos hv])
                  clear E0
                  go_wp2_with fail
                  refine (stop_any 5 _).mono ?_
                  rintro e w1 ⟨rfl, rfl⟩
                  go_wp2
                  rw [E.out]
                  exact ⟨rfl, YB.out, rfl⟩
                · have E : Hid (headOf s l = .ok (v, s.extract (1 + j) s.size)) := Lib.hid (by rw [E0, if_neg hv])
                  clear E0
                  go_wp2_with fail
                  try rw [Exit.noGoto_ret]
                  refine bodyPost_ret (v := .agg #[.int .u64 v, .string (s.extract (1 + j) s.size)]) (by simp [results, Tryz.results224, go_sem, y0]) rfl ?_
                  rw [E.out]
                  exact ⟨(by have := YB.out; (repeat (first | exact Below.refl _ _ | assumption | (refine bdrew ?_) | (refine bdrewN ?_ _) | (refine balloc ?_ _) | (refine bset ?_ (by first | omega | (simp; done) | (simp; omega)) _) | (refine bnext ?_ (by assumption))))), rfl⟩
          · have c2' : (r.size == 0) = false := by simpa using c2
            have HQ := Lib.hid hq
            have C2 := Lib.hid c2
            clear hq c2
            have qs : 1 + q ≤ s.size := by have := HQ.out; omega
            have hxs : (s.extract 1 (1 + q)).size = q := ext_size s qs
            obtain ⟨bc, Y, hcv, hY1, hY2, hY3⟩ := conv_bytes V (s.extract 1 (1 + q))
            rw [hxs] at hcv hY3
            have HY3 : Hid (∀ j, j < q → Y.cell? ⟨(World.heap V).size, j, none⟩ = some (.int .u8 (byte s (1 + j)))) := Lib.hid (fun j hj => by rw [hY3 j hj, ext_byte s qs hj])
            have YB := Lib.hid (bnext VB.out hY1)
            have Y1 := Lib.hid ((hY1.block _ (lt_of_block HV1.out)).trans HV1.out)
            have Y0 := Lib.hid ((hY1.block _ (lt_of_block V0.out)).trans V0.out)
            have YS : w.heap.size + 1 < Y.heap.size := lt_of_block Y1.out
            clear hY1 hY2 hY3 hxs
            have i5 : (1 + r.size).toNat = 1 + q := by have := HQ.out; omega
            have i6 : r.size.toNat = q := by have := HQ.out; omega
            have q8 : q ≤ 8 := by have := HQ.out; omega
            have j1 : 1 ≤ (s.size : Int) := by omega
            have j2 : 1 + r.size ≤ (s.size : Int) := by omega
            have j3 : 1 ≤ 1 + r.size := by omega
            go_wp2_with fail
            clear hcv
            go_loopg [8, 66] q (fun g n i wx => ∃ j : Nat, g + j = q ∧ i = .int .i64 j ∧ n = .int .u64 (numAt s r j) ∧ wx = Y)
            case atStart => exact ⟨0, rfl, rfl, (by unfold numAt; rw [if_neg C2.out]; rfl), rfl⟩
            case round =>
              obtain ⟨j, hj, rfl, rfl, rfl⟩ := hrel
              have vb := numAt_bd (s := s) (r := r) (j := j) (by have := HQ.out; omega) o1 (by rw [← HZ.out]; exact m1)
              by_cases hjq : j < q
              · have b0 : (j : Int) < q := by omega
                have cc := HY3.out j hjq
                have vs := Lib.hid (numAt_succ s r j (by have := HQ.out; omega))
                have cb := byte_bd s (1 + j)
                have vb2 := numAt_lt (s := s) (r := r) (j := j) (by omega) o1 (by rw [← HZ.out]; exact m1)
                obtain ⟨c, hc⟩ : ∃ c, byte s (1 + j) = c := ⟨_, rfl⟩
                obtain ⟨v, hv⟩ : ∃ v, numAt s r j = v := ⟨_, rfl⟩
                rw [hc] at cc cb
                rw [hv] at vb vb2
                have hor := shl_or v c vb.1 vb2 cb.1 cb.2
                go_wp2
                go_roundg (gk - 1)
                case rel => exact ⟨j + 1, by omega, by go_num, (by rw [vs.out, hv, hc, ← hor]), rfl⟩
                case measure => omega
              · obtain rfl : j = q := by omega
                have E0 : headOf s l = if numAt s r j < r.least then .error 5 else .ok (numAt s r j, s.extract (1 + j) s.size) := by
                  rw [FR.out, if_neg (by omega), i6]; rfl
                obtain ⟨v, hv⟩ : ∃ v, numAt s r j = v := ⟨_, rfl⟩
                rw [hv] at vb E0 ⊢
                have g2 : wr.cell? ⟨w.heap.size + 1, 2, none⟩ = some (.int .i64 r.size) := block_cell Y1.out 2
                have g3 : wr.cell? ⟨w.heap.size + 1, 3, none⟩ = some (.int .u64 r.least) := block_cell Y1.out 3
                have y0 : ∀ o, wr.cell? ⟨w.heap.size, o, none⟩ = _ := block_cell Y0.out
                have y1 : ∀ o, wr.frozen? ⟨w.heap.size, o, none⟩ = false := block_free Y0.out
                clear hv
                by_cases hv : v < r.least
                · have E : Hid (headOf s l = .error 5) := Lib.hid (by rw [E0, if_pos hv])
                  clear E0
                  go_wp2_with fail
                  refine (stop_any 5 _).mono ?_
                  rintro e w1 ⟨rfl, rfl⟩
                  go_wp2
                  rw [E.out]
                  exact ⟨rfl, YB.out, rfl⟩
                · have E : Hid (headOf s l = .ok (v, s.extract (1 + j) s.size)) := Lib.hid (by rw [E0, if_neg hv])
                  clear E0
                  go_wp2_with fail
                  try rw [Exit.noGoto_ret]
                  refine bodyPost_ret (v := .agg #[.int .u64 v, .string (s.extract (1 + j) s.size)]) (by simp [results, Tryz.results224, go_sem, y0]) rfl ?_
                  rw [E.out]
                  exact ⟨(by have := YB.out; (repeat (first | exact Below.refl _ _ | assumption | (refine bdrew ?_) | (refine bdrewN ?_ _) | (refine balloc ?_ _) | (refine bset ?_ (by first | omega | (simp; done) | (simp; omega)) _) | (refine bnext ?_ (by assumption))))), rfl⟩
      · obtain ⟨x2, hx2⟩ : ∃ x2, x2 = false := ⟨_, rfl⟩
        have M2 : decide (z ≤ (unth l k).hi) = x2 := by rw [hx2]; simpa using m2
        refine wp_region_all 1000 (none) (phis [fun u _ => u = (.string s), fun u _ => u = (.int .u8 z), fun u _ => u = (.pointer (some ⟨wr.heap.size, 0, none⟩)), fun u _ => u = (.int .u8 (unth l k).lo), fun u _ => u = (.bool true), fun u _ => u = (.bool true), fun u _ => u = (.string s), fun u _ => u = (.int .u8 z), fun u _ => u = (.pointer (some ⟨wr.heap.size, 1, none⟩)), fun u _ => u = (.int .u8 (unth l k).hi), fun u _ => u = (.bool x2), fun u _ => u = (.bool x2), fun u _ => u = (.bool x2)]) rfl (by kernel_rfl) (mono_of ⟨mono_eq, mono_eq, mono_eq, mono_eq, mono_eq, mono_eq, mono_eq, mono_eq, mono_eq, mono_eq, mono_eq, mono_eq, mono_eq, trivial⟩) (steps_of 13 ⟨?s0, ?s1, ?s2, ?s3, ?s4, ?s5, ?s6, ?s7, ?s8, ?s9, ?s10, ?s11, ?s12, trivial⟩) ?_
        case s0 =>
          refine step_val (v := (.string s)) (fun av wv hE hS hO hD => ?_) (fun _ => rfl)
          have h0 : av.eval (.tmp 0) = (.string s) := hO.2.2 0 rfl
          have f0 := (ev_form av 0).symm.trans h0
          refine ⟨rfl, ?_⟩
          simp [go_sem, f0, hz', hs0, M1, M2]
        case s1 =>
          refine step_val (v := (.int .u8 z)) (fun av wv hE hS hO hD => ?_) (fun _ => rfl)
          have d22 : av.eval (.tmp 22) = (.string s) := hD.1 rfl _ rfl
          have f22 := (ev_form av 22).symm.trans d22
          refine ⟨rfl, ?_⟩
          simp [go_sem, f22, hz', hs0, M1, M2]
        case s2 =>
          refine step_val (v := (.pointer (some ⟨wr.heap.size, 0, none⟩))) (fun av wv hE hS hO hD => ?_) (fun _ => rfl)
          have h7 : av.eval (.tmp 7) = (.pointer (some ⟨wr.heap.size, 0, none⟩)) := hO.2.2 7 rfl
          have f7 := (ev_form av 7).symm.trans h7
          refine ⟨rfl, ?_⟩
          simp [go_sem, f7, hz', hs0, M1, M2]
        case s3 =>
          refine step_val (v := (.int .u8 (unth l k).lo)) (fun av wv hE hS hO hD => ?_) (fun _ => rfl)
          have d24 : av.eval (.tmp 24) = (.pointer (some ⟨wr.heap.size, 0, none⟩)) := hD.1 rfl _ rfl
          have f24 := (ev_form av 24).symm.trans d24
          have q0 := extB_cell hE (by simp) q0
          have q1 := extB_cell hE (by simp) q1
          refine ⟨rfl, ?_⟩
          simp [go_sem, f24, q0, q1, hz', hs0, M1, M2]
        case s4 =>
          refine step_val (v := (.bool true)) (fun av wv hE hS hO hD => ?_) (fun _ => rfl)
          have d23 : av.eval (.tmp 23) = (.int .u8 z) := hD.1 rfl _ rfl
          have f23 := (ev_form av 23).symm.trans d23
          have d25 : av.eval (.tmp 25) = (.int .u8 (unth l k).lo) := hD.2.1 rfl _ rfl
          have f25 := (ev_form av 25).symm.trans d25
          refine ⟨rfl, ?_⟩
          simp [go_sem, f23, f25, hz', hs0, M1, M2]
        case s5 =>
          refine step_val (v := (.bool true)) (fun av wv hE hS hO hD => ?_) (fun _ => rfl)
          have d26 : av.eval (.tmp 26) = (.bool true) := hD.1 rfl _ rfl
          have f26 := (ev_form av 26).symm.trans d26
          refine ⟨rfl, ?_⟩
          simp [go_sem, f26, hz', hs0, M1, M2]
        case s6 =>
          refine step_val (v := (.string s)) (fun av wv hE hS hO hD => ?_) (fun _ => rfl)
          have h0 : av.eval (.tmp 0) = (.string s) := hO.2.2 0 rfl
          have f0 := (ev_form av 0).symm.trans h0
          have d27 : av.eval (.tmp 27) = (.bool true) := hD.1 rfl _ rfl
          have f27 := (ev_form av 27).symm.trans d27
          refine ⟨(wanted_of (d := 27) (b := true) (want := true) rfl rfl rfl d27), ?_⟩
          simp [go_sem, f0, f27, hz', hs0, M1, M2]
        case s7 =>
          refine step_val (v := (.int .u8 z)) (fun av wv hE hS hO hD => ?_) (fun _ => rfl)
          have d28 : av.eval (.tmp 28) = (.string s) := hD.1 rfl _ rfl
          have f28 := (ev_form av 28).symm.trans d28
          have d27 : av.eval (.tmp 27) = (.bool true) := hD.2.1 rfl _ rfl
          have f27 := (ev_form av 27).symm.trans d27
          refine ⟨(wanted_of (d := 27) (b := true) (want := true) rfl rfl rfl d27), ?_⟩
          simp [go_sem, f28, f27, hz', hs0, M1, M2]
        case s8 =>
          refine step_val (v := (.pointer (some ⟨wr.heap.size, 1, none⟩))) (fun av wv hE hS hO hD => ?_) (fun _ => rfl)
          have h7 : av.eval (.tmp 7) = (.pointer (some ⟨wr.heap.size, 0, none⟩)) := hO.2.2 7 rfl
          have f7 := (ev_form av 7).symm.trans h7
          have d27 : av.eval (.tmp 27) = (.bool true) := hD.1 rfl _ rfl
          have f27 := (ev_form av 27).symm.trans d27
          refine ⟨(wanted_of (d := 27) (b := true) (want := true) rfl rfl rfl d27), ?_⟩
          simp [go_sem, f7, f27, hz', hs0, M1, M2]
        case s9 =>
          refine step_val (v := (.int .u8 (unth l k).hi)) (fun av wv hE hS hO hD => ?_) (fun _ => rfl)
          have d30 : av.eval (.tmp 30) = (.pointer (some ⟨wr.heap.size, 1, none⟩)) := hD.1 rfl _ rfl
          have f30 := (ev_form av 30).symm.trans d30
          have d27 : av.eval (.tmp 27) = (.bool true) := hD.2.1 rfl _ rfl
          have f27 := (ev_form av 27).symm.trans d27
          have q0 := extB_cell hE (by simp) q0
          have q1 := extB_cell hE (by simp) q1
          refine ⟨(wanted_of (d := 27) (b := true) (want := true) rfl rfl rfl d27), ?_⟩
          simp [go_sem, f30, f27, q0, q1, hz', hs0, M1, M2]
        case s10 =>
          refine step_val (v := (.bool x2)) (fun av wv hE hS hO hD => ?_) (fun _ => rfl)
          have d29 : av.eval (.tmp 29) = (.int .u8 z) := hD.1 rfl _ rfl
          have f29 := (ev_form av 29).symm.trans d29
          have d31 : av.eval (.tmp 31) = (.int .u8 (unth l k).hi) := hD.2.1 rfl _ rfl
          have f31 := (ev_form av 31).symm.trans d31
          have d27 : av.eval (.tmp 27) = (.bool true) := hD.2.2.1 rfl _ rfl
          have f27 := (ev_form av 27).symm.trans d27
          refine ⟨(wanted_of (d := 27) (b := true) (want := true) rfl rfl rfl d27), ?_⟩
          simp [go_sem, f29, f31, f27, hz', hs0, M1, M2]
        case s11 =>
          refine step_val (v := (.bool x2)) (fun av wv hE hS hO hD => ?_) (fun _ => rfl)
          have d27 : av.eval (.tmp 27) = (.bool true) := hD.1 rfl _ rfl
          have f27 := (ev_form av 27).symm.trans d27
          have d32 : av.eval (.tmp 32) = (.bool x2) := hD.2.1 rfl _ rfl
          have f32 := (ev_form av 32).symm.trans d32
          refine ⟨rfl, ?_⟩
          simp [go_sem, f27, f32, hz', hs0, M1, M2]
        case s12 =>
          refine step_val (v := (.bool x2)) (fun av wv hE hS hO hD => ?_) (fun _ => rfl)
          have d33 : av.eval (.tmp 33) = (.bool x2) := hD.1 rfl _ rfl
          have f33 := (ev_form av 33).symm.trans d33
          refine ⟨rfl, ?_⟩
          simp [go_sem, f33, hz', hs0, M1, M2]
        intro a' w' hE hO hall
        have hA := act_of_outer (ds := [22, 23, 24, 25, 26, 27, 28, 29, 30, 31, 32, 33, 21]) rfl hO (by kernel_rfl)
        have e22 : (fun u _ => u = (.string s)) (a'.eval (.tmp 22)) w' := hall.1 _ rfl
        have e23 : (fun u _ => u = (.int .u8 z)) (a'.eval (.tmp 23)) w' := hall.2.1 _ rfl
        have e24 : (fun u _ => u = (.pointer (some ⟨wr.heap.size, 0, none⟩))) (a'.eval (.tmp 24)) w' := hall.2.2.1 _ rfl
        have e25 : (fun u _ => u = (.int .u8 (unth l k).lo)) (a'.eval (.tmp 25)) w' := hall.2.2.2.1 _ rfl
        have e26 : (fun u _ => u = (.bool true)) (a'.eval (.tmp 26)) w' := hall.2.2.2.2.1 _ rfl
        have e27 : (fun u _ => u = (.bool true)) (a'.eval (.tmp 27)) w' := hall.2.2.2.2.2.1 _ rfl
        have e28 : (fun u _ => u = (.string s)) (a'.eval (.tmp 28)) w' := hall.2.2.2.2.2.2.1 _ rfl
        have e29 : (fun u _ => u = (.int .u8 z)) (a'.eval (.tmp 29)) w' := hall.2.2.2.2.2.2.2.1 _ rfl
        have e30 : (fun u _ => u = (.pointer (some ⟨wr.heap.size, 1, none⟩))) (a'.eval (.tmp 30)) w' := hall.2.2.2.2.2.2.2.2.1 _ rfl
        have e31 : (fun u _ => u = (.int .u8 (unth l k).hi)) (a'.eval (.tmp 31)) w' := hall.2.2.2.2.2.2.2.2.2.1 _ rfl
        have e32 : (fun u _ => u = (.bool x2)) (a'.eval (.tmp 32)) w' := hall.2.2.2.2.2.2.2.2.2.2.1 _ rfl
        have e33 : (fun u _ => u = (.bool x2)) (a'.eval (.tmp 33)) w' := hall.2.2.2.2.2.2.2.2.2.2.2.1 _ rfl
        have e21 : (fun u _ => u = (.bool x2)) (a'.eval (.tmp 21)) w' := hall.2.2.2.2.2.2.2.2.2.2.2.2.1 _ rfl
        simp only [List.foldl_cons, List.foldl_nil, Act.put, List.setIfInBounds_toArray, List.set_cons_succ, List.set_cons_zero, e22, e23, e24, e25, e26, e27, e28, e29, e30, e31, e32, e33, e21] at hA
        clear hO hall e22 e23 e24 e25 e26 e27 e28 e29 e30 e31 e32 e33 e21
        subst hA
        have NM : Hid (¬ ((unth l k).lo ≤ byte s 0 ∧ byte s 0 ≤ (unth l k).hi)) := Lib.hid (by rw [← HZ.out]; exact fun h => m2 h.2)
        subst hx2
        clear M1 M2 m1 m2 q0 q1
        have B7 := Lib.hid (bnext HD.out (of_drew hE))
        have X0 := Lib.hid (extB_block hE (by simp) HB0.out)
        have X1 := Lib.hid (extB_block hE (by simp) HB1.out)
        clear hE
        by_cases hlast : k + 1 = len l
        · have e1 : ((k : Int) == (len l : Int) - 1) = true := by simp; omega
          have e2 : IntKind.i64.wrap ((len l : Int) - 1) = (len l : Int) - 1 := IntWalk.i64_in _ (by omega)
          have E : Hid (headOf s l = .error 5) := Lib.hid (head_none (by omega) (fun j hj => by
            by_cases e : j = k
            · subst e; exact NM.out
            · exact hn.out j (by omega)))
          go_wp2_with fail
          refine (stop_any 5 _).mono ?_
          rintro e w1 ⟨rfl, rfl⟩
          go_wp2
          rw [E.out]
          exact ⟨rfl, B7.out, rfl⟩
        · have e1 : ((k : Int) == (len l : Int) - 1) = false := by simp; omega
          have e2 : IntKind.i64.wrap ((len l : Int) - 1) = (len l : Int) - 1 := IntWalk.i64_in _ (by omega)
          go_wp2
          go_roundw
          case rel => exact ⟨k + 1, by omega, by go_num, B7.out, (fun j hj => by
            by_cases e : j = k
            · subst e; exact NM.out
            · exact hn.out j (by omega)), X0.out, X1.out⟩
          case measure => simp [intOf]; omega
    · have M1 : decide ((unth l k).lo ≤ z) = false := by simpa using m1
      refine wp_region_all 1000 (none) (phis [fun u _ => u = (.string s), fun u _ => u = (.int .u8 z), fun u _ => u = (.pointer (some ⟨wr.heap.size, 0, none⟩)), fun u _ => u = (.int .u8 (unth l k).lo), fun u _ => u = (.bool false), fun u _ => u = (.bool false), fun u _ => u = undef, fun u _ => u = undef, fun u _ => u = undef, fun u _ => u = undef, fun u _ => u = undef, fun u _ => u = (.bool false), fun u _ => u = (.bool false)]) rfl (by kernel_rfl) (mono_of ⟨mono_eq, mono_eq, mono_eq, mono_eq, mono_eq, mono_eq, mono_eq, mono_eq, mono_eq, mono_eq, mono_eq, mono_eq, mono_eq, trivial⟩) (steps_of 13 ⟨?s0, ?s1, ?s2, ?s3, ?s4, ?s5, ?s6, ?s7, ?s8, ?s9, ?s10, ?s11, ?s12, trivial⟩) ?_
      case s0 =>
        refine step_val (v := (.string s)) (fun av wv hE hS hO hD => ?_) (fun _ => rfl)
        have h0 : av.eval (.tmp 0) = (.string s) := hO.2.2 0 rfl
        have f0 := (ev_form av 0).symm.trans h0
        refine ⟨rfl, ?_⟩
        simp [go_sem, f0, hz', hs0, M1]
      case s1 =>
        refine step_val (v := (.int .u8 z)) (fun av wv hE hS hO hD => ?_) (fun _ => rfl)
        have d22 : av.eval (.tmp 22) = (.string s) := hD.1 rfl _ rfl
        have f22 := (ev_form av 22).symm.trans d22
        refine ⟨rfl, ?_⟩
        simp [go_sem, f22, hz', hs0, M1]
      case s2 =>
        refine step_val (v := (.pointer (some ⟨wr.heap.size, 0, none⟩))) (fun av wv hE hS hO hD => ?_) (fun _ => rfl)
        have h7 : av.eval (.tmp 7) = (.pointer (some ⟨wr.heap.size, 0, none⟩)) := hO.2.2 7 rfl
        have f7 := (ev_form av 7).symm.trans h7
        refine ⟨rfl, ?_⟩
        simp [go_sem, f7, hz', hs0, M1]
      case s3 =>
        refine step_val (v := (.int .u8 (unth l k).lo)) (fun av wv hE hS hO hD => ?_) (fun _ => rfl)
        have d24 : av.eval (.tmp 24) = (.pointer (some ⟨wr.heap.size, 0, none⟩)) := hD.1 rfl _ rfl
        have f24 := (ev_form av 24).symm.trans d24
        have q0 := extB_cell hE (by simp) q0
        have q1 := extB_cell hE (by simp) q1
        refine ⟨rfl, ?_⟩
        simp [go_sem, f24, q0, q1, hz', hs0, M1]
      case s4 =>
        refine step_val (v := (.bool false)) (fun av wv hE hS hO hD => ?_) (fun _ => rfl)
        have d23 : av.eval (.tmp 23) = (.int .u8 z) := hD.1 rfl _ rfl
        have f23 := (ev_form av 23).symm.trans d23
        have d25 : av.eval (.tmp 25) = (.int .u8 (unth l k).lo) := hD.2.1 rfl _ rfl
        have f25 := (ev_form av 25).symm.trans d25
        refine ⟨rfl, ?_⟩
        simp [go_sem, f23, f25, hz', hs0, M1]
      case s5 =>
        refine step_val (v := (.bool false)) (fun av wv hE hS hO hD => ?_) (fun _ => rfl)
        have d26 : av.eval (.tmp 26) = (.bool false) := hD.1 rfl _ rfl
        have f26 := (ev_form av 26).symm.trans d26
        refine ⟨rfl, ?_⟩
        simp [go_sem, f26, hz', hs0, M1]
      case s6 =>
        refine step_skip (fun av wv hE hS hO hD => ?_) (fun _ => rfl)
        have h0 : av.eval (.tmp 0) = (.string s) := hO.2.2 0 rfl
        have f0 := (ev_form av 0).symm.trans h0
        have d27 : av.eval (.tmp 27) = (.bool false) := hD.1 rfl _ rfl
        have f27 := (ev_form av 27).symm.trans d27
        exact (wanted_of (d := 27) (b := false) (want := true) rfl rfl rfl d27)
      case s7 =>
        refine step_skip (fun av wv hE hS hO hD => ?_) (fun _ => rfl)
        have d28 : av.eval (.tmp 28) = (undef) := hD.1 rfl _ rfl
        have f28 := (ev_form av 28).symm.trans d28
        have d27 : av.eval (.tmp 27) = (.bool false) := hD.2.1 rfl _ rfl
        have f27 := (ev_form av 27).symm.trans d27
        exact (wanted_of (d := 27) (b := false) (want := true) rfl rfl rfl d27)
      case s8 =>
        refine step_skip (fun av wv hE hS hO hD => ?_) (fun _ => rfl)
        have h7 : av.eval (.tmp 7) = (.pointer (some ⟨wr.heap.size, 0, none⟩)) := hO.2.2 7 rfl
        have f7 := (ev_form av 7).symm.trans h7
        have d27 : av.eval (.tmp 27) = (.bool false) := hD.1 rfl _ rfl
        have f27 := (ev_form av 27).symm.trans d27
        exact (wanted_of (d := 27) (b := false) (want := true) rfl rfl rfl d27)
      case s9 =>
        refine step_skip (fun av wv hE hS hO hD => ?_) (fun _ => rfl)
        have d30 : av.eval (.tmp 30) = (undef) := hD.1 rfl _ rfl
        have f30 := (ev_form av 30).symm.trans d30
        have d27 : av.eval (.tmp 27) = (.bool false) := hD.2.1 rfl _ rfl
        have f27 := (ev_form av 27).symm.trans d27
        exact (wanted_of (d := 27) (b := false) (want := true) rfl rfl rfl d27)
      case s10 =>
        refine step_skip (fun av wv hE hS hO hD => ?_) (fun _ => rfl)
        have d29 : av.eval (.tmp 29) = (undef) := hD.1 rfl _ rfl
        have f29 := (ev_form av 29).symm.trans d29
        have d31 : av.eval (.tmp 31) = (undef) := hD.2.1 rfl _ rfl
        have f31 := (ev_form av 31).symm.trans d31
        have d27 : av.eval (.tmp 27) = (.bool false) := hD.2.2.1 rfl _ rfl
        have f27 := (ev_form av 27).symm.trans d27
        exact (wanted_of (d := 27) (b := false) (want := true) rfl rfl rfl d27)
      case s11 =>
        refine step_val (v := (.bool false)) (fun av wv hE hS hO hD => ?_) (fun _ => rfl)
        have d27 : av.eval (.tmp 27) = (.bool false) := hD.1 rfl _ rfl
        have f27 := (ev_form av 27).symm.trans d27
        have d32 : av.eval (.tmp 32) = (undef) := hD.2.1 rfl _ rfl
        have f32 := (ev_form av 32).symm.trans d32
        refine ⟨rfl, ?_⟩
        simp [go_sem, f27, f32, hz', hs0, M1]
      case s12 =>
        refine step_val (v := (.bool false)) (fun av wv hE hS hO hD => ?_) (fun _ => rfl)
        have d33 : av.eval (.tmp 33) = (.bool false) := hD.1 rfl _ rfl
        have f33 := (ev_form av 33).symm.trans d33
        refine ⟨rfl, ?_⟩
        simp [go_sem, f33, hz', hs0, M1]
      intro a' w' hE hO hall
      have hA := act_of_outer (ds := [22, 23, 24, 25, 26, 27, 28, 29, 30, 31, 32, 33, 21]) rfl hO (by kernel_rfl)
      have e22 : (fun u _ => u = (.string s)) (a'.eval (.tmp 22)) w' := hall.1 _ rfl
      have e23 : (fun u _ => u = (.int .u8 z)) (a'.eval (.tmp 23)) w' := hall.2.1 _ rfl
      have e24 : (fun u _ => u = (.pointer (some ⟨wr.heap.size, 0, none⟩))) (a'.eval (.tmp 24)) w' := hall.2.2.1 _ rfl
      have e25 : (fun u _ => u = (.int .u8 (unth l k).lo)) (a'.eval (.tmp 25)) w' := hall.2.2.2.1 _ rfl
      have e26 : (fun u _ => u = (.bool false)) (a'.eval (.tmp 26)) w' := hall.2.2.2.2.1 _ rfl
      have e27 : (fun u _ => u = (.bool false)) (a'.eval (.tmp 27)) w' := hall.2.2.2.2.2.1 _ rfl
      have e28 : (fun u _ => u = undef) (a'.eval (.tmp 28)) w' := hall.2.2.2.2.2.2.1 _ rfl
      have e29 : (fun u _ => u = undef) (a'.eval (.tmp 29)) w' := hall.2.2.2.2.2.2.2.1 _ rfl
      have e30 : (fun u _ => u = undef) (a'.eval (.tmp 30)) w' := hall.2.2.2.2.2.2.2.2.1 _ rfl
      have e31 : (fun u _ => u = undef) (a'.eval (.tmp 31)) w' := hall.2.2.2.2.2.2.2.2.2.1 _ rfl
      have e32 : (fun u _ => u = undef) (a'.eval (.tmp 32)) w' := hall.2.2.2.2.2.2.2.2.2.2.1 _ rfl
      have e33 : (fun u _ => u = (.bool false)) (a'.eval (.tmp 33)) w' := hall.2.2.2.2.2.2.2.2.2.2.2.1 _ rfl
      have e21 : (fun u _ => u = (.bool false)) (a'.eval (.tmp 21)) w' := hall.2.2.2.2.2.2.2.2.2.2.2.2.1 _ rfl
      simp only [List.foldl_cons, List.foldl_nil, Act.put, List.setIfInBounds_toArray, List.set_cons_succ, List.set_cons_zero, e22, e23, e24, e25, e26, e27, e28, e29, e30, e31, e32, e33, e21] at hA
      clear hO hall e22 e23 e24 e25 e26 e27 e28 e29 e30 e31 e32 e33 e21
      subst hA
      have NM : Hid (¬ ((unth l k).lo ≤ byte s 0 ∧ byte s 0 ≤ (unth l k).hi)) := Lib.hid (by rw [← HZ.out]; exact fun h => m1 h.1)
      clear M1 m1 q0 q1
      have B7 := Lib.hid (bnext HD.out (of_drew hE))
      have X0 := Lib.hid (extB_block hE (by simp) HB0.out)
      have X1 := Lib.hid (extB_block hE (by simp) HB1.out)
      clear hE
      by_cases hlast : k + 1 = len l
      · have e1 : ((k : Int) == (len l : Int) - 1) = true := by simp; omega
        have e2 : IntKind.i64.wrap ((len l : Int) - 1) = (len l : Int) - 1 := IntWalk.i64_in _ (by omega)
        have E : Hid (headOf s l = .error 5) := Lib.hid (head_none (by omega) (fun j hj => by
          by_cases e : j = k
          · subst e; exact NM.out
          · exact hn.out j (by omega)))
        go_wp2_with fail
        refine (stop_any 5 _).mono ?_
        rintro e w1 ⟨rfl, rfl⟩
        go_wp2
        rw [E.out]
        exact ⟨rfl, B7.out, rfl⟩
      · have e1 : ((k : Int) == (len l : Int) - 1) = false := by simp; omega
        have e2 : IntKind.i64.wrap ((len l : Int) - 1) = (len l : Int) - 1 := IntWalk.i64_in _ (by omega)
        go_wp2
        go_roundw
        case rel => exact ⟨k + 1, by omega, by go_num, B7.out, (fun j hj => by
          by_cases e : j = k
          · subst e; exact NM.out
          · exact hn.out j (by omega)), X0.out, X1.out⟩
        case measure => simp [intOf]; omega
end Go.Proofs.YtihiaopilnjonaaGreatDoor
namespace Go.Proofs.YtihiaopilnjonaaGreatDoor
set_option linter.unusedSimpArgs false
set_option linter.unusedVariables false
open Go.RowKit
def RdB (w : World) (b : Nat) (s : ByteArray) (a most : Int) : Prop := w.heap[b]? = some (.cells #[.string s, .int .i64 a, .int .i64 most] 275 (0, 0))
theorem RdB.below {w w' : World} {b : Nat} {s : ByteArray} {a most : Int} (h : RdB w b s a most) (hb : Below w.heap.size w w') : RdB w' b s a most := (hb.block _ (lt_of_block h)).trans h
theorem place_any (w : World) (b : Nat) (s : ByteArray) (a most : Int) (h : RdB w b s a most) :
    Calls Tryz.prog 256 #[.pointer (some ⟨b, 0, none⟩)] w fun e w' => e = .returned (.int .i64 a) ∧ w' = w := by
  have c1 : w.cell? ⟨b, 1, none⟩ = some (.int .i64 a) := block_cell h 1
  clear h
  go_enter Tryz.func256, Tryz.ntmps256
  go_wp2
  go_ret
  exact ⟨rfl, rfl⟩
set_option maxRecDepth 100000 in
set_option maxHeartbeats 1000000 in
theorem here_any (w : World) (b : Nat) (s : ByteArray) (a : Nat) (most : Int) (h : RdB w b s a most) (ha : a ≤ s.size) (hs : s.size ≤ 9223372036854775807) :
    Calls Tryz.prog 225 #[.pointer (some ⟨b, 0, none⟩)] w fun e w' => e = .returned (.string (s.extract a s.size)) ∧ Below w.heap.size w w' := by
  have c0 : w.cell? ⟨b, 0, none⟩ = some (.string s) := block_cell h 0
  have c1 : w.cell? ⟨b, 1, none⟩ = some (.int .i64 a) := block_cell h 1
  have i1 : (a : Int) ≤ s.size := by omega
  have i2 : 0 ≤ (a : Int) := by omega
  have i3 : a ≤ s.size := ha
  clear h
  go_enter Tryz.func225, Tryz.ntmps225
  go_wp2
  refine wp_region_all 1000 (none) (phis [fun u _ => u = (.pointer (some ⟨b, 0, none⟩)), fun u _ => u = (.pointer (some ⟨b, 0, none⟩)), fun u _ => u = (.pointer (some ⟨b, 0, none⟩)), fun u _ => u = (.string s), fun u _ => u = (.pointer (some ⟨b, 0, none⟩)), fun u _ => u = (.pointer (some ⟨b, 0, none⟩)), fun u _ => u = (.pointer (some ⟨b, 1, none⟩)), fun u _ => u = (.int .i64 a), fun u _ => u = (.string (s.extract a s.size)), fun u _ => u = (.string (s.extract a s.size))]) rfl (by kernel_rfl) (mono_of ⟨mono_eq, mono_eq, mono_eq, mono_eq, mono_eq, mono_eq, mono_eq, mono_eq, mono_eq, mono_eq, trivial⟩) (steps_of 10 ⟨?s0, ?s1, ?s2, ?s3, ?s4, ?s5, ?s6, ?s7, ?s8, ?s9, trivial⟩) ?_
  case s0 =>
    refine step_val (v := (.pointer (some ⟨b, 0, none⟩))) (fun av wv hE hS hO hD => ?_) (fun _ => rfl)
    have h0 : av.eval (.tmp 0) = (.pointer (some ⟨b, 0, none⟩)) := hO.2.2 0 rfl
    have f0 := (ev_form av 0).symm.trans h0
    refine ⟨rfl, ?_⟩
    simp [go_sem, f0, i1, i2, i3]
  case s1 =>
    refine step_val (v := (.pointer (some ⟨b, 0, none⟩))) (fun av wv hE hS hO hD => ?_) (fun _ => rfl)
    have d6 : av.eval (.tmp 6) = (.pointer (some ⟨b, 0, none⟩)) := hD.1 rfl _ rfl
    have f6 := (ev_form av 6).symm.trans d6
    refine ⟨rfl, ?_⟩
    simp [go_sem, f6, i1, i2, i3]
  case s2 =>
    refine step_val (v := (.pointer (some ⟨b, 0, none⟩))) (fun av wv hE hS hO hD => ?_) (fun _ => rfl)
    have d7 : av.eval (.tmp 7) = (.pointer (some ⟨b, 0, none⟩)) := hD.1 rfl _ rfl
    have f7 := (ev_form av 7).symm.trans d7
    refine ⟨rfl, ?_⟩
    simp [go_sem, f7, i1, i2, i3]
  case s3 =>
    refine step_val (v := (.string s)) (fun av wv hE hS hO hD => ?_) (fun _ => rfl)
    have d8 : av.eval (.tmp 8) = (.pointer (some ⟨b, 0, none⟩)) := hD.1 rfl _ rfl
    have f8 := (ev_form av 8).symm.trans d8
    have c0 := extB_cell hE (by simp) c0
    have c1 := extB_cell hE (by simp) c1
    refine ⟨rfl, ?_⟩
    simp [go_sem, f8, c0, c1, i1, i2, i3]
  case s4 =>
    refine step_val (v := (.pointer (some ⟨b, 0, none⟩))) (fun av wv hE hS hO hD => ?_) (fun _ => rfl)
    have h0 : av.eval (.tmp 0) = (.pointer (some ⟨b, 0, none⟩)) := hO.2.2 0 rfl
    have f0 := (ev_form av 0).symm.trans h0
    refine ⟨rfl, ?_⟩
    simp [go_sem, f0, i1, i2, i3]
  case s5 =>
    refine step_val (v := (.pointer (some ⟨b, 0, none⟩))) (fun av wv hE hS hO hD => ?_) (fun _ => rfl)
    have d10 : av.eval (.tmp 10) = (.pointer (some ⟨b, 0, none⟩)) := hD.1 rfl _ rfl
    have f10 := (ev_form av 10).symm.trans d10
    refine ⟨rfl, ?_⟩
    simp [go_sem, f10, i1, i2, i3]
  case s6 =>
    refine step_val (v := (.pointer (some ⟨b, 1, none⟩))) (fun av wv hE hS hO hD => ?_) (fun _ => rfl)
    have d11 : av.eval (.tmp 11) = (.pointer (some ⟨b, 0, none⟩)) := hD.1 rfl _ rfl
    have f11 := (ev_form av 11).symm.trans d11
    refine ⟨rfl, ?_⟩
    simp [go_sem, f11, i1, i2, i3]
  case s7 =>
    refine step_val (v := (.int .i64 a)) (fun av wv hE hS hO hD => ?_) (fun _ => rfl)
    have d12 : av.eval (.tmp 12) = (.pointer (some ⟨b, 1, none⟩)) := hD.1 rfl _ rfl
    have f12 := (ev_form av 12).symm.trans d12
    have c0 := extB_cell hE (by simp) c0
    have c1 := extB_cell hE (by simp) c1
    refine ⟨rfl, ?_⟩
    simp [go_sem, f12, c0, c1, i1, i2, i3]
  case s8 =>
    refine step_val (v := (.string (s.extract a s.size))) (fun av wv hE hS hO hD => ?_) (fun _ => rfl)
    have d9 : av.eval (.tmp 9) = (.string s) := hD.1 rfl _ rfl
    have f9 := (ev_form av 9).symm.trans d9
    have d13 : av.eval (.tmp 13) = (.int .i64 a) := hD.2.1 rfl _ rfl
    have f13 := (ev_form av 13).symm.trans d13
    refine ⟨rfl, ?_⟩
    simp [go_sem, f9, f13, i1, i2, i3]
  case s9 =>
    refine step_val (v := (.string (s.extract a s.size))) (fun av wv hE hS hO hD => ?_) (fun _ => rfl)
    have d14 : av.eval (.tmp 14) = (.string (s.extract a s.size)) := hD.1 rfl _ rfl
    have f14 := (ev_form av 14).symm.trans d14
    refine ⟨rfl, ?_⟩
    simp [go_sem, f14, i1, i2, i3]
  intro a' w' hE hO hall
  have hA := act_of_outer (ds := [6, 7, 8, 9, 10, 11, 12, 13, 14, 2]) rfl hO (by kernel_rfl)
  have e6 : (fun u _ => u = (.pointer (some ⟨b, 0, none⟩))) (a'.eval (.tmp 6)) w' := hall.1 _ rfl
  have e7 : (fun u _ => u = (.pointer (some ⟨b, 0, none⟩))) (a'.eval (.tmp 7)) w' := hall.2.1 _ rfl
  have e8 : (fun u _ => u = (.pointer (some ⟨b, 0, none⟩))) (a'.eval (.tmp 8)) w' := hall.2.2.1 _ rfl
  have e9 : (fun u _ => u = (.string s)) (a'.eval (.tmp 9)) w' := hall.2.2.2.1 _ rfl
  have e10 : (fun u _ => u = (.pointer (some ⟨b, 0, none⟩))) (a'.eval (.tmp 10)) w' := hall.2.2.2.2.1 _ rfl
  have e11 : (fun u _ => u = (.pointer (some ⟨b, 0, none⟩))) (a'.eval (.tmp 11)) w' := hall.2.2.2.2.2.1 _ rfl
  have e12 : (fun u _ => u = (.pointer (some ⟨b, 1, none⟩))) (a'.eval (.tmp 12)) w' := hall.2.2.2.2.2.2.1 _ rfl
  have e13 : (fun u _ => u = (.int .i64 a)) (a'.eval (.tmp 13)) w' := hall.2.2.2.2.2.2.2.1 _ rfl
  have e14 : (fun u _ => u = (.string (s.extract a s.size))) (a'.eval (.tmp 14)) w' := hall.2.2.2.2.2.2.2.2.1 _ rfl
  have e2 : (fun u _ => u = (.string (s.extract a s.size))) (a'.eval (.tmp 2)) w' := hall.2.2.2.2.2.2.2.2.2.1 _ rfl
  simp only [List.foldl_cons, List.foldl_nil, Act.put, List.setIfInBounds_toArray, List.set_cons_succ, List.set_cons_zero, e6, e7, e8, e9, e10, e11, e12, e13, e14, e2] at hA
  clear hO hall e6 e7 e8 e9 e10 e11 e12 e13 e14 e2
  subst hA
  have B := Lib.hid (of_drew hE)
  clear hE
  go_wp2
  go_ret
  exact ⟨rfl, B.out⟩
def boundOf (n most : Int) (rest : ByteArray) : Except Int (Int × ByteArray) := if most < n then .error 3 else .ok (n, rest)
set_option maxRecDepth 100000 in
set_option maxHeartbeats 1000000 in
theorem bound_any (w : World) (b : Nat) (s rest : ByteArray) (a most n : Int) (h : RdB w b s a most) (hm0 : 0 ≤ most) (hm1 : most ≤ 9223372036854775807) :
    Calls Tryz.prog 259 #[.pointer (some ⟨b, 0, none⟩), .agg #[.int .u64 n, .string rest]] w (HeadIs (boundOf n most rest) w) := by
  have c2 : w.cell? ⟨b, 2, none⟩ = some (.int .i64 most) := block_cell h 2
  have hl := lt_of_block h
  have i1 : IntKind.u64.wrap most = most := IntWalk.u64_in _ (by omega)
  clear h
  go_enter Tryz.func259, Tryz.ntmps259
  go_wp2
  obtain ⟨W, hW⟩ : ∃ W, (w.alloc (.cells #[.int .u64 n, .string rest] 311)).alloc (.cells #[.int .u64 0, .string ⟨#[]⟩] 311) = W := ⟨_, rfl⟩
  have WB : Hid (Below w.heap.size w W) := Lib.hid (by rw [← hW]; (repeat (first | exact Below.refl _ _ | assumption | (refine bdrew ?_) | (refine bdrewN ?_ _) | (refine balloc ?_ _) | (refine bset ?_ (by first | omega | (simp; done) | (simp; omega)) _) | (refine bnext ?_ (by assumption)))))
  have W0 : Hid (W.heap[w.heap.size]? = some (.cells #[.int .u64 n, .string rest] 311 (0, 0))) := Lib.hid (by rw [← hW]; (repeat (first | exact alloc_new_at _ (by repeat (first | rfl | refine alloc_size _ ?_)) | refine block_alloc ?_ _)))
  have W1 : Hid (W.heap[w.heap.size + 1]? = some (.cells #[.int .u64 0, .string ⟨#[]⟩] 311 (0, 0))) := Lib.hid (by rw [← hW]; (repeat (first | exact alloc_new_at _ (by repeat (first | rfl | refine alloc_size _ ?_)) | refine block_alloc ?_ _)))
  rw [hW]
  have c2 : W.cell? ⟨b, 2, none⟩ = some (.int .i64 most) := by rw [WB.out.cell (p := ⟨b, 2, none⟩) hl]; exact c2
  have d0 : W.cell? ⟨w.heap.size, 0, none⟩ = some (.int .u64 n) := block_cell W0.out 0
  clear hW
  obtain ⟨x, hx⟩ : ∃ x, decide (most < n) = x := ⟨_, rfl⟩
  refine wp_region_all 1000 (none) (phis [fun u _ => u = (.pointer (some ⟨w.heap.size, 0, none⟩)), fun u _ => u = (.int .u64 n), fun u _ => u = (.pointer (some ⟨b, 0, none⟩)), fun u _ => u = (.pointer (some ⟨b, 0, none⟩)), fun u _ => u = (.pointer (some ⟨b, 2, none⟩)), fun u _ => u = (.int .i64 most), fun u _ => u = (.int .u64 most), fun u _ => u = (.bool x)]) rfl (by kernel_rfl) (mono_of ⟨mono_eq, mono_eq, mono_eq, mono_eq, mono_eq, mono_eq, mono_eq, mono_eq, trivial⟩) (steps_of 8 ⟨?s0, ?s1, ?s2, ?s3, ?s4, ?s5, ?s6, ?s7, trivial⟩) ?_
  case s0 =>
    refine step_val (v := (.pointer (some ⟨w.heap.size, 0, none⟩))) (fun av wv hE hS hO hD => ?_) (fun _ => rfl)
    have h3 : av.eval (.tmp 3) = (.pointer (some ⟨w.heap.size, 0, none⟩)) := hO.2.2 3 rfl
    have f3 := (ev_form av 3).symm.trans h3
    refine ⟨rfl, ?_⟩
    simp [go_sem, f3, i1]
  case s1 =>
    refine step_val (v := (.int .u64 n)) (fun av wv hE hS hO hD => ?_) (fun _ => rfl)
    have d5 : av.eval (.tmp 5) = (.pointer (some ⟨w.heap.size, 0, none⟩)) := hD.1 rfl _ rfl
    have f5 := (ev_form av 5).symm.trans d5
    have d0 := extB_cell hE (by simp) d0
    have c2 := extB_cell hE (by simp) c2
    refine ⟨rfl, ?_⟩
    simp [go_sem, f5, d0, c2, i1]
  case s2 =>
    refine step_val (v := (.pointer (some ⟨b, 0, none⟩))) (fun av wv hE hS hO hD => ?_) (fun _ => rfl)
    have h0 : av.eval (.tmp 0) = (.pointer (some ⟨b, 0, none⟩)) := hO.2.2 0 rfl
    have f0 := (ev_form av 0).symm.trans h0
    refine ⟨rfl, ?_⟩
    simp [go_sem, f0, i1]
  case s3 =>
    refine step_val (v := (.pointer (some ⟨b, 0, none⟩))) (fun av wv hE hS hO hD => ?_) (fun _ => rfl)
    have d7 : av.eval (.tmp 7) = (.pointer (some ⟨b, 0, none⟩)) := hD.1 rfl _ rfl
    have f7 := (ev_form av 7).symm.trans d7
    refine ⟨rfl, ?_⟩
    simp [go_sem, f7, i1]
  case s4 =>
    refine step_val (v := (.pointer (some ⟨b, 2, none⟩))) (fun av wv hE hS hO hD => ?_) (fun _ => rfl)
    have d8 : av.eval (.tmp 8) = (.pointer (some ⟨b, 0, none⟩)) := hD.1 rfl _ rfl
    have f8 := (ev_form av 8).symm.trans d8
    refine ⟨rfl, ?_⟩
    simp [go_sem, f8, i1]
  case s5 =>
    refine step_val (v := (.int .i64 most)) (fun av wv hE hS hO hD => ?_) (fun _ => rfl)
    have d9 : av.eval (.tmp 9) = (.pointer (some ⟨b, 2, none⟩)) := hD.1 rfl _ rfl
    have f9 := (ev_form av 9).symm.trans d9
    have d0 := extB_cell hE (by simp) d0
    have c2 := extB_cell hE (by simp) c2
    refine ⟨rfl, ?_⟩
    simp [go_sem, f9, d0, c2, i1]
  case s6 =>
    refine step_val (v := (.int .u64 most)) (fun av wv hE hS hO hD => ?_) (fun _ => rfl)
    have d10 : av.eval (.tmp 10) = (.int .i64 most) := hD.1 rfl _ rfl
    have f10 := (ev_form av 10).symm.trans d10
    refine ⟨rfl, ?_⟩
    simp [go_sem, f10, i1]
  case s7 =>
    refine step_val (v := (.bool x)) (fun av wv hE hS hO hD => ?_) (fun _ => rfl)
    have d6 : av.eval (.tmp 6) = (.int .u64 n) := hD.1 rfl _ rfl
    have f6 := (ev_form av 6).symm.trans d6
    have d11 : av.eval (.tmp 11) = (.int .u64 most) := hD.2.1 rfl _ rfl
    have f11 := (ev_form av 11).symm.trans d11
    refine ⟨rfl, ?_⟩
    simp [go_sem, f6, f11, hx]
  intro a' w' hE hO hall
  have hA := act_of_outer (ds := [5, 6, 7, 8, 9, 10, 11, 12]) rfl hO (by kernel_rfl)
  have e5 : (fun u _ => u = (.pointer (some ⟨w.heap.size, 0, none⟩))) (a'.eval (.tmp 5)) w' := hall.1 _ rfl
  have e6 : (fun u _ => u = (.int .u64 n)) (a'.eval (.tmp 6)) w' := hall.2.1 _ rfl
  have e7 : (fun u _ => u = (.pointer (some ⟨b, 0, none⟩))) (a'.eval (.tmp 7)) w' := hall.2.2.1 _ rfl
  have e8 : (fun u _ => u = (.pointer (some ⟨b, 0, none⟩))) (a'.eval (.tmp 8)) w' := hall.2.2.2.1 _ rfl
  have e9 : (fun u _ => u = (.pointer (some ⟨b, 2, none⟩))) (a'.eval (.tmp 9)) w' := hall.2.2.2.2.1 _ rfl
  have e10 : (fun u _ => u = (.int .i64 most)) (a'.eval (.tmp 10)) w' := hall.2.2.2.2.2.1 _ rfl
  have e11 : (fun u _ => u = (.int .u64 most)) (a'.eval (.tmp 11)) w' := hall.2.2.2.2.2.2.1 _ rfl
  have e12 : (fun u _ => u = (.bool x)) (a'.eval (.tmp 12)) w' := hall.2.2.2.2.2.2.2.1 _ rfl
  simp only [List.foldl_cons, List.foldl_nil, Act.put, List.setIfInBounds_toArray, List.set_cons_succ, List.set_cons_zero, e5, e6, e7, e8, e9, e10, e11, e12] at hA
  clear hO hall e5 e6 e7 e8 e9 e10 e11 e12
  subst hA
  have B := Lib.hid (bnext WB.out (of_drew hE))
  have X0 := Lib.hid (extB_block hE (by simp) W0.out)
  have X1 := Lib.hid (extB_block hE (by simp) W1.out)
  have HX := Lib.hid hx
  clear hE c2 d0 hx
  have x0 : w'.cell? ⟨w.heap.size, 0, none⟩ = some (.int .u64 n) := block_cell X0.out 0
  have x1 : w'.cell? ⟨w.heap.size, 1, none⟩ = some (.string rest) := block_cell X0.out 1
  have y0 : ∀ o, w'.cell? ⟨w.heap.size + 1, o, none⟩ = _ := block_cell X1.out
  have y1 : ∀ o, w'.frozen? ⟨w.heap.size + 1, o, none⟩ = false := block_free X1.out
  cases x
  · go_wp2
    refine bodyPost_ret (v := .agg #[.int .u64 n, .string rest]) (by simp [results, Tryz.results259, go_sem, y0]) rfl ?_
    have : boundOf n most rest = .ok (n, rest) := by unfold boundOf; rw [if_neg (by simpa using HX.out)]
    rw [this]
    exact ⟨(by have := B.out; (repeat (first | exact Below.refl _ _ | assumption | (refine bdrew ?_) | (refine bdrewN ?_ _) | (refine balloc ?_ _) | (refine bset ?_ (by first | omega | (simp; done) | (simp; omega)) _) | (refine bnext ?_ (by assumption))))), rfl⟩
  · go_wp2_with fail
    refine (stop_any 3 _).mono ?_
    rintro e w1 ⟨rfl, rfl⟩
    go_wp2
    have : boundOf n most rest = .error 3 := by unfold boundOf; rw [if_pos (by simpa using HX.out)]
    rw [this]
    exact ⟨rfl, B.out, rfl⟩
theorem behind_any (w : World) (b : Nat) (s : ByteArray) (a left most : Int) (h : RdB w b s a most) (hs : s.size ≤ 9223372036854775807) (l0 : 0 ≤ left) (l1 : left ≤ s.size) :
    Calls Tryz.prog 226 #[.pointer (some ⟨b, 0, none⟩), .int .i64 left] w fun e w' => e = .returned (.tuple #[]) ∧ w' = w.setCell ⟨b, 1, none⟩ (.int .i64 (s.size - left)) := by
  have c0 : w.cell? ⟨b, 0, none⟩ = some (.string s) := block_cell h 0
  have c1 : w.cell? ⟨b, 1, none⟩ = some (.int .i64 a) := block_cell h 1
  have c2 : w.frozen? ⟨b, 1, none⟩ = false := block_free h 1
  clear h
  go_enter Tryz.func226, Tryz.ntmps226
  go_wp2
  go_end0
  exact ⟨rfl, rfl⟩
set_option maxRecDepth 100000 in
theorem fault_frame (p q x : Value) : #[p, q] ++ ((Array.replicate 24 undef).setIfInBounds 5 x).setIfInBounds 2 x = #[p, q, undef, undef, x, undef, undef, x, undef, undef, undef, undef, undef, undef, undef, undef, undef, undef, undef, undef, undef, undef, undef, undef, undef, undef] := by
  simp [Array.replicate, List.replicate]
set_option maxRecDepth 100000 in
theorem fault_idle (p q : Value) (w : World) :
    CallsD Tryz.prog 223 #[p, q] .returning w fun e u' w' => e = .returned (.tuple #[]) ∧ u' = .returning ∧ w' = w := by
  refine callsD_of_wpS Tryz.func223 rfl fun c₀ cs hu => ?_
  apply wpS_seq
  apply wpS_region
  simp [wpOpsS, go_sem, recoverD, hu, Tryz.ntmps223, Exit.thenS]
  refine wpS_of_wp ?_
  obtain ⟨Q, hQ⟩ : ∃ Q : Exit → Act → World → Prop, (fun e a' w' => bodyPostS Tryz.prog Tryz.f223 c₀ cs (fun e u' w' => e = Ending.returned (.tuple #[]) ∧ u' = .returning ∧ w' = w) e a' (c₀ :: cs) w') = Q := ⟨_, rfl⟩
  rw [hQ, fault_frame]
  have HQ := Lib.hid hQ
  clear hQ
  go_wp2
  rw [← HQ.out]
  simp [bodyPostS, results, Tryz.results223]
  cases c₀; simp_all
theorem assert_errno (k : Int) (w : World) : (Instr.typeAssert (.iface 30 (.int .i64 k)) 20 30 true).run Tryz.prog w = .ok (.tuple #[.int .i64 k, .bool true]) w := by kernel_rfl
set_option maxRecDepth 100000 in
theorem fault_some (k : Int) (older : List PanicEntry) (p : Value) (a : Int) (eb : Nat) (x : Value) (w : World) (hp : Calls Tryz.prog 256 #[p] w fun e w' => e = .returned (.int .i64 a) ∧ w' = w)
    (hc : w.cell? ⟨eb, 0, none⟩ = some x) (hx : x.oneCell' = true) (hz : w.frozen? ⟨eb, 0, none⟩ = false) :
    CallsD Tryz.prog 223 #[p, .pointer (some ⟨eb, 0, none⟩)] (.panicking ({ v := .iface 30 (.int .i64 k), recovered := false } :: older)) w fun e u' w' =>
      e = .returned (.tuple #[]) ∧ u' = .panicking ({ v := .iface 30 (.int .i64 k), recovered := true } :: older) ∧
      w' = (w.setCell ⟨eb, 0, none⟩ (.iface 127 (.pointer (some ⟨w.heap.size, 0, none⟩)))).alloc (.cells #[.int .i64 k, .int .i64 a] 63) := by
  refine callsD_of_wpS Tryz.func223 rfl fun c₀ cs hu => ?_
  apply wpS_seq
  apply wpS_region
  simp [wpOpsS, go_sem, recoverD, hu, Tryz.ntmps223, Exit.thenS]
  refine wpS_of_wp ?_
  obtain ⟨Q, hQ⟩ : ∃ Q : Exit → Act → World → Prop, (fun e a' w' => bodyPostS Tryz.prog Tryz.f223 c₀ cs (fun e u' w' => e = Ending.returned (.tuple #[]) ∧ u' = .panicking ({ v := .iface 30 (.int .i64 k), recovered := true } :: older) ∧ w' = (w.setCell ⟨eb, 0, none⟩ (.iface 127 (.pointer (some ⟨w.heap.size, 0, none⟩)))).alloc (.cells #[.int .i64 k, .int .i64 a] 63)) e a' ({ c₀ with mode := .panicking ({ v := .iface 30 (.int .i64 k), recovered := true } :: older) } :: cs) w') = Q := ⟨_, rfl⟩
  rw [hQ, fault_frame]
  have HQ := Lib.hid hQ
  clear hQ hu
  have ha := assert_errno k
  have hl := lt_of_cell hc
  go_wp2_with fail
  refine hp.mono ?_
  rintro e w1 ⟨rfl, rfl⟩
  go_wp2
  rw [← HQ.out]
  exact ⟨rfl, _, rfl, .tuple #[], by simp [results, Tryz.results223], rfl, rfl, rfl⟩
end Go.Proofs.YtihiaopilnjonaaGreatDoor
namespace Go.Proofs.YtihiaopilnjonaaGreatDoor
set_option linter.unusedSimpArgs false
set_option linter.unusedVariables false
open Go.RowKit
theorem head_bd {t : ByteArray} {l : List URow} {n : Int} {rest : ByteArray} (hok : ∀ i, (unth l i).Ok) (h : headOf t l = .ok (n, rest)) : 0 ≤ n ∧ n ≤ 18446744073709551615 ∧ rest.size < t.size := by
  unfold headOf at h
  split at h
  · cases h
  · next h0 =>
    split at h
    · cases h
    · next r hr =>
      have hp := List.find?_some hr
      obtain ⟨i, hi, rfl⟩ := List.getElem_of_mem (List.mem_of_find?_eq_some hr)
      have ok := hok i
      rw [unth_eq l i hi] at ok
      simp only [Bool.and_eq_true, decide_eq_true_eq] at hp
      obtain ⟨v, hv⟩ : ∃ v, (if l[i].size = 0 then byte t 0 - l[i].lo else be t l[i].size.toNat) = v := ⟨_, rfl⟩
      simp only [hv] at h
      by_cases h1 : (t.size : Int) < 1 + l[i].size
      · rw [if_pos h1] at h; cases h
      · rw [if_neg h1] at h
        by_cases h2 : v < l[i].least
        · rw [if_pos h2] at h; cases h
        · rw [if_neg h2] at h
          simp only [Except.ok.injEq, Prod.mk.injEq] at h
          obtain ⟨rfl, rfl⟩ := h
          have vb := numAt_bd (s := t) (r := l[i]) (j := l[i].size.toNat) (by have := ok.sz1; have := ok.sz0; omega) ok hp.1
          unfold numAt at vb
          rw [hv] at vb
          refine ⟨vb.1, vb.2, ?_⟩
          rw [ByteArray.size_extract]; omega
def ReadIs (res : Except Int (Value × Nat)) (zero : Value) (b : Nat) (s : ByteArray) (most : Int) (a : Nat) (w : World) (e : Ending) (w' : World) : Prop :=
  ExtB (some b) w w' ∧ match res with
    | .ok x => e = .returned (.tuple #[x.1, .nilIface]) ∧ RdB w' b s x.2 most
    | .error k => RdB w' b s a most ∧ ∃ f, e = .returned (.tuple #[zero, .iface 127 (.pointer (some ⟨f, 0, none⟩))]) ∧ w.heap.size ≤ f ∧ w'.heap[f]? = some (.cells #[.int .i64 k, .int .i64 a] 63 (0, 0))
def textOf (s : ByteArray) (a : Nat) (most : Int) (l : List URow) : Except Int (Value × Nat) :=
  match headOf (s.extract a s.size) l with
  | .error k => .error k
  | .ok (n, rest) => if most < n then .error 3 else if (rest.size : Int) < n then .error 4 else .ok (.string (rest.extract 0 n.toNat), s.size - (rest.size - n.toNat))
def countOf (s : ByteArray) (a : Nat) (most : Int) (l : List URow) : Except Int (Value × Nat) :=
  match headOf (s.extract a s.size) l with
  | .error k => .error k
  | .ok (n, rest) => if most < n then .error 3 else .ok (.int .i64 n, s.size - rest.size)
def numOf (s : ByteArray) (a : Nat) (l : List URow) : Except Int (Value × Nat) :=
  match headOf (s.extract a s.size) l with
  | .error k => .error k
  | .ok (n, rest) => .ok (.int .u64 n, s.size - rest.size)
theorem extB_own {w w1 w' : World} {b : Nat} (h : Below w.heap.size w w1) (hE : ExtB (some w.heap.size) w1 w') : ExtB (some b) w w' :=
  ⟨hE.os.trans h.os, hE.tape.trans h.tape, hE.output.trans h.output, Nat.le_trans h.size hE.size, fun i hi _ => (hE.block i (Nat.lt_of_lt_of_le hi h.size) (by intro e; cases e; omega)).trans (h.block i hi)⟩
theorem ext_set {w w1 : World} {b eb : Nat} (h : ExtB (some b) w w1) (he : w.heap.size ≤ eb) (v : Value) : ExtB (some b) w (w1.setCell ⟨eb, 0, none⟩ v) :=
  ⟨h.os, h.tape, h.output, by simpa using h.size, fun i hi hn => by rw [Below.heap_setCell _ _ _ _ (by show i ≠ eb; omega)]; exact h.block i hi hn⟩
theorem door_err {fn : Func} {tmps : Array Value} {R : Ending → World → Prop} (k : Int) (b : Nat) (s : ByteArray) (a : Nat) (most : Int) (w1 : World) (eb : Nat) (zero : Value) (h : RdB w1 b s a most)
    (he : w1.heap[eb]? = some (.cells #[.nilIface] 59 (0, 0))) (hne : eb ≠ b)
    (hr : ∀ w : World, w.cell? ⟨eb, 0, none⟩ = some (.iface 127 (.pointer (some ⟨w1.heap.size, 0, none⟩))) → (results fn tmps).run Tryz.prog w = .ok (.tuple #[zero, .iface 127 (.pointer (some ⟨w1.heap.size, 0, none⟩))]) w)
    (hR : ∀ w' : World, ExtB (some eb) w1 w' → RdB w' b s a most → w'.heap[w1.heap.size]? = some (.cells #[.int .i64 k, .int .i64 a] 63 (0, 0)) → R (.returned (.tuple #[zero, .iface 127 (.pointer (some ⟨w1.heap.size, 0, none⟩))])) w') :
    Leaves Tryz.prog fn tmps R [{ target := .fn (.func 223) #[], args := #[.pointer (some ⟨b, 0, none⟩), .pointer (some ⟨eb, 0, none⟩)] }] (.panicking (chainOf k)) w1 := by
  refine leaves_cons (f := 223) (args := #[.pointer (some ⟨b, 0, none⟩), .pointer (some ⟨eb, 0, none⟩)]) (by simp) (by simp [go_sem]) ?_
  refine (fault_some k [] (.pointer (some ⟨b, 0, none⟩)) a eb .nilIface w1 (place_any w1 b s a most h) (block_cell he 0) rfl (block_free he 0)).mono ?_
  rintro e u' w'' ⟨rfl, rfl, rfl⟩
  have hl := lt_of_block he
  have hs : (w1.setCell ⟨eb, 0, none⟩ (.iface 127 (.pointer (some ⟨w1.heap.size, 0, none⟩)))).heap.size = w1.heap.size := by simp
  have hb0 : (w1.setCell ⟨eb, 0, none⟩ (.iface 127 (.pointer (some ⟨w1.heap.size, 0, none⟩)))).heap[eb]? = _ := block_setCell he _
  have hb := block_alloc hb0 (.cells #[.int .i64 k, .int .i64 a] 63)
  refine ⟨_, hr _ (block_cell hb 0), hR _ ?_ ?_ ?_⟩
  · refine ⟨rfl, rfl, rfl, by simp, fun i hi hn => ?_⟩
    rw [Below.heap_alloc _ _ _ (by rw [hs]; exact hi), Below.heap_setCell _ _ _ _ (by intro e; subst e; exact hn rfl)]
  · exact block_alloc (block_setCell_ne h (by exact fun e => hne e.symm) _) _
  · exact alloc_new_at _ hs
set_option maxRecDepth 100000 in
set_option maxHeartbeats 1000000 in
theorem text_any (w : World) (b : Nat) (s : ByteArray) (a : Nat) (most : Int) (ra : Option Addr) (rc : Nat) (l : List URow) (h : RdB w b s a most) (ha : a ≤ s.size) (hs : s.size ≤ 9223372036854775807) (hm0 : 0 ≤ most) (hm1 : most ≤ 9223372036854775807)
    (hl0 : 0 < len l) (hl : len l ≤ 100) (hc : URows w ra l) (hok : ∀ i, (unth l i).Ok) :
    Calls Tryz.prog 244 #[.pointer (some ⟨b, 0, none⟩), .slice ra (len l) rc] w (ReadIs (textOf s a most l) (.string ⟨#[]⟩) b s most a w) := by
  have HC := Lib.hid hc
  have HO := Lib.hid hok
  have H := Lib.hid h
  have hbl := lt_of_block h
  clear hc hok h
  go_enter_defers Tryz.func244, Tryz.ntmps244
  go_wp2_with fail
  obtain ⟨W, hW⟩ : ∃ W, w.alloc (.cells #[.nilIface] 59) = W := ⟨_, rfl⟩
  have WB : Hid (Below w.heap.size w W) := Lib.hid (by rw [← hW]; (repeat (first | exact Below.refl _ _ | assumption | (refine bdrew ?_) | (refine bdrewN ?_ _) | (refine balloc ?_ _) | (refine bset ?_ (by first | omega | (simp; done) | (simp; omega)) _) | (refine bnext ?_ (by assumption)))))
  have W0 : Hid (W.heap[w.heap.size]? = some (.cells #[.nilIface] 59 (0, 0))) := Lib.hid (by rw [← hW]; (repeat (first | exact alloc_new_at _ (by repeat (first | rfl | refine alloc_size _ ?_)) | refine block_alloc ?_ _)))
  rw [hW]
  clear hW
  refine (here_any W b s a most (H.out.below WB.out) ha hs).mono ?_
  rintro e w1 ⟨rfl, hb1⟩
  have B1 := Lib.hid hb1
  clear hb1
  go_wp2_with fail
  have hts : (s.extract a s.size).size ≤ 9223372036854775807 := by rw [ByteArray.size_extract]; omega
  refine (head_any (s.extract a s.size) ra rc l w1 hts hl0 hl (HC.out.below (bnext WB.out B1.out)) HO.out).mono ?_
  intro e w2 hh
  cases hres : headOf (s.extract a s.size) l with
  | error k =>
    rw [hres] at hh
    obtain ⟨rfl, hb2⟩ := headIs_err hh
    have B2 := Lib.hid (bnext B1.out hb2)
    have T : Hid (textOf s a most l = .error k) := Lib.hid (by unfold textOf; rw [hres])
    clear hh hb2 hres
    go_wp2
    rw [T.out]
    refine door_err k b s a most w2 w.heap.size (.string ⟨#[]⟩) (H.out.below (bnext WB.out B2.out)) ((B2.out.block _ (lt_of_block W0.out)).trans W0.out) (by omega) (fun w hc => by simp [results, Tryz.results244, go_sem, hc]) (fun w' hE hR hf => ?_)
    have hz := (bnext WB.out B2.out).size
    exact ⟨extB_own (bnext WB.out B2.out) hE, hR, _, rfl, hz, hf⟩
  | ok x =>
    obtain ⟨n, rest⟩ := x
    rw [hres] at hh
    obtain ⟨rfl, hb2⟩ := headIs_ok hh
    have B2 := Lib.hid (bnext B1.out hb2)
    obtain ⟨n0, n1, hrest⟩ := head_bd HO.out hres
    have HRES := Lib.hid hres
    have hrs : rest.size < (s.extract a s.size).size := hrest
    have hss : (s.extract a s.size).size = s.size - a := by rw [ByteArray.size_extract]; omega
    have hr2 : rest.size < s.size - a := by omega
    clear hh hb2 hres hrest hts hss hrs
    go_wp2_with fail
    refine (bound_any w2 b s rest a most n (H.out.below (bnext WB.out B2.out)) hm0 hm1).mono ?_
    intro e w3 hh
    by_cases hmn : most < n
    · have hbo : boundOf n most rest = .error 3 := by unfold boundOf; rw [if_pos hmn]
      rw [hbo] at hh
      obtain ⟨rfl, hb3⟩ := headIs_err hh
      have B3 := Lib.hid (bnext B2.out hb3)
      have T : Hid (textOf s a most l = .error 3) := Lib.hid (by unfold textOf; rw [HRES.out]; exact if_pos hmn)
      clear hh hb3 hbo
      go_wp2
      rw [T.out]
      refine door_err 3 b s a most w3 w.heap.size (.string ⟨#[]⟩) (H.out.below (bnext WB.out B3.out)) ((B3.out.block _ (lt_of_block W0.out)).trans W0.out) (by omega) (fun w hc => by simp [results, Tryz.results244, go_sem, hc]) (fun w' hE hR hf => ?_)
      have hz := (bnext WB.out B3.out).size
      exact ⟨extB_own (bnext WB.out B3.out) hE, hR, _, rfl, hz, hf⟩
    · have hbo : boundOf n most rest = .ok (n, rest) := by unfold boundOf; rw [if_neg hmn]
      rw [hbo] at hh
      obtain ⟨rfl, hb3⟩ := headIs_ok hh
      have B3 := Lib.hid (bnext B2.out hb3)
      clear hh hb3 hbo
      obtain ⟨q, hq⟩ : ∃ q : Nat, n = q := ⟨n.toNat, by omega⟩
      subst hq
      have i1 : IntKind.u64.wrap (rest.size : Int) = rest.size := IntWalk.u64_in _ (by omega)
      have i2 : IntKind.i64.wrap (q : Int) = q := IntWalk.i64_in _ (by omega)
      by_cases hrq : rest.size < q
      · have T : Hid (textOf s a most l = .error 4) := Lib.hid (by
          unfold textOf; rw [HRES.out]
          show (if most < (q : Int) then _ else _) = _
          rw [if_neg hmn, if_pos (by omega)])
        have t1 : (rest.size : Int) < q := by omega
        go_wp2_with fail
        refine (stop_any 4 _).mono ?_
        rintro e w4 ⟨rfl, hw4⟩
        have B4 : Hid (Below W.heap.size W w4) := Lib.hid (by rw [hw4]; exact balloc B3.out _)
        clear hw4
        go_wp2
        rw [T.out]
        refine door_err 4 b s a most w4 w.heap.size (.string ⟨#[]⟩) (H.out.below (bnext WB.out B4.out)) ((B4.out.block _ (lt_of_block W0.out)).trans W0.out) (by omega) (fun w hc => by simp [results, Tryz.results244, go_sem, hc]) (fun w' hE hR hf => ?_)
        have hz := (bnext WB.out B4.out).size
        exact ⟨extB_own (bnext WB.out B4.out) hE, hR, _, rfl, hz, hf⟩
      · have T : Hid (textOf s a most l = .ok (.string (rest.extract 0 q), s.size - (rest.size - q))) := Lib.hid (by
          unfold textOf; rw [HRES.out]
          show (if most < (q : Int) then _ else _) = _
          rw [if_neg hmn, if_neg (by omega)]; rfl)
        have t1 : ¬ (rest.size : Int) < q := by omega
        have hb3 : b < w3.heap.size := Nat.lt_of_lt_of_le hbl (bnext WB.out B3.out).size
        have he3 : w.heap.size < w3.heap.size := Nat.lt_of_lt_of_le (lt_of_block W0.out) B3.out.size
        go_wp2_with fail
        refine (behind_any _ b s a (rest.size - q) most (block_alloc (H.out.below (bnext WB.out B3.out)) _) hs (by omega) (by omega)).mono ?_
        rintro e w5 ⟨rfl, hw5⟩
        have R5 : Hid (RdB w5 b s ((s.size - (rest.size - q) : Nat) : Int) most) := Lib.hid (by
          rw [hw5]
          have h := block_setCell (block_alloc (H.out.below (bnext WB.out B3.out)) (.cells #[.int .u64 q, .string rest] 311)) (o := 1) (.int .i64 ((s.size : Int) - (rest.size - q)))
          rw [show ((s.size - (rest.size - q) : Nat) : Int) = (s.size : Int) - (rest.size - q) by omega]
          exact h)
        have E5 : w5.heap[w.heap.size]? = some (.cells #[.nilIface] 59 (0, 0)) := by
          rw [hw5]; exact block_setCell_ne (block_alloc ((B3.out.block _ (lt_of_block W0.out)).trans W0.out) _) (by show w.heap.size ≠ b; omega) _
        have N5 : w5.heap[w3.heap.size]? = some (.cells #[.int .u64 q, .string rest] 311 (0, 0)) := by
          rw [hw5]; exact block_setCell_ne (alloc_new_at _ rfl) (by show w3.heap.size ≠ b; omega) _
        have X5 : Hid (ExtB (some b) w w5) := Lib.hid (by
          rw [hw5]
          have hB := balloc (bnext WB.out B3.out) (.cells #[.int .u64 q, .string rest] 311)
          exact ⟨hB.os, hB.tape, hB.output, by simpa using hB.size, fun i hi hn => by rw [Below.heap_setCell _ _ _ _ (by exact fun e => hn (by rw [e]))]; exact hB.block i hi⟩)
        have a0 : w5.cell? ⟨w3.heap.size, 0, none⟩ = some (.int .u64 q) := block_cell N5 0
        have a1 : w5.cell? ⟨w3.heap.size, 1, none⟩ = some (.string rest) := block_cell N5 1
        have a2 : w5.cell? ⟨w.heap.size, 0, none⟩ = some .nilIface := block_cell E5 0
        have a3 : w5.frozen? ⟨w.heap.size, 0, none⟩ = false := block_free E5 0
        have hz5 := lt_of_block E5
        have qr : q ≤ rest.size := by omega
        clear hw5 E5 N5
        go_wp2
        rw [T.out]
        refine leaves_cons (f := 223) (args := #[.pointer (some ⟨b, 0, none⟩), .pointer (some ⟨w.heap.size, 0, none⟩)]) (by simp) (by simp [go_sem]) ?_
        refine (fault_idle (.pointer (some ⟨b, 0, none⟩)) (.pointer (some ⟨w.heap.size, 0, none⟩)) _).mono ?_
        rintro e u' w'' ⟨rfl, rfl, rfl⟩
        refine ⟨_, by simp [results, Tryz.results244, go_sem, a2]; rfl, ?_⟩
        refine ⟨?_, rfl, ?_⟩
        · exact ext_set X5.out (Nat.le_refl _) _
        · exact block_setCell_ne R5.out (by show b ≠ w.heap.size; omega) _
set_option maxRecDepth 100000 in
set_option maxHeartbeats 1000000 in
theorem count_any (w : World) (b : Nat) (s : ByteArray) (a : Nat) (most : Int) (ra : Option Addr) (rc : Nat) (l : List URow) (h : RdB w b s a most) (ha : a ≤ s.size) (hs : s.size ≤ 9223372036854775807) (hm0 : 0 ≤ most) (hm1 : most ≤ 9223372036854775807)
    (hl0 : 0 < len l) (hl : len l ≤ 100) (hc : URows w ra l) (hok : ∀ i, (unth l i).Ok) :
    Calls Tryz.prog 243 #[.pointer (some ⟨b, 0, none⟩), .slice ra (len l) rc] w (ReadIs (countOf s a most l) (.int .i64 0) b s most a w) := by
  have HC := Lib.hid hc
  have HO := Lib.hid hok
  have H := Lib.hid h
  have hbl := lt_of_block h
  clear hc hok h
  go_enter_defers Tryz.func243, Tryz.ntmps243
  go_wp2_with fail
  obtain ⟨W, hW⟩ : ∃ W, w.alloc (.cells #[.nilIface] 59) = W := ⟨_, rfl⟩
  have WB : Hid (Below w.heap.size w W) := Lib.hid (by rw [← hW]; (repeat (first | exact Below.refl _ _ | assumption | (refine bdrew ?_) | (refine bdrewN ?_ _) | (refine balloc ?_ _) | (refine bset ?_ (by first | omega | (simp; done) | (simp; omega)) _) | (refine bnext ?_ (by assumption)))))
  have W0 : Hid (W.heap[w.heap.size]? = some (.cells #[.nilIface] 59 (0, 0))) := Lib.hid (by rw [← hW]; (repeat (first | exact alloc_new_at _ (by repeat (first | rfl | refine alloc_size _ ?_)) | refine block_alloc ?_ _)))
  rw [hW]
  clear hW
  refine (here_any W b s a most (H.out.below WB.out) ha hs).mono ?_
  rintro e w1 ⟨rfl, hb1⟩
  have B1 := Lib.hid hb1
  clear hb1
  go_wp2_with fail
  have hts : (s.extract a s.size).size ≤ 9223372036854775807 := by rw [ByteArray.size_extract]; omega
  refine (head_any (s.extract a s.size) ra rc l w1 hts hl0 hl (HC.out.below (bnext WB.out B1.out)) HO.out).mono ?_
  intro e w2 hh
  cases hres : headOf (s.extract a s.size) l with
  | error k =>
    rw [hres] at hh
    obtain ⟨rfl, hb2⟩ := headIs_err hh
    have B2 := Lib.hid (bnext B1.out hb2)
    have T : Hid (countOf s a most l = .error k) := Lib.hid (by unfold countOf; rw [hres])
    clear hh hb2 hres
    go_wp2
    rw [T.out]
    refine door_err k b s a most w2 w.heap.size (.int .i64 0) (H.out.below (bnext WB.out B2.out)) ((B2.out.block _ (lt_of_block W0.out)).trans W0.out) (by omega) (fun w hc => by simp [results, Tryz.results243, go_sem, hc]) (fun w' hE hR hf => ?_)
    have hz := (bnext WB.out B2.out).size
    exact ⟨extB_own (bnext WB.out B2.out) hE, hR, _, rfl, hz, hf⟩
  | ok x =>
    obtain ⟨n, rest⟩ := x
    rw [hres] at hh
    obtain ⟨rfl, hb2⟩ := headIs_ok hh
    have B2 := Lib.hid (bnext B1.out hb2)
    obtain ⟨n0, n1, hrest⟩ := head_bd HO.out hres
    have HRES := Lib.hid hres
    have hrs : rest.size < (s.extract a s.size).size := hrest
    have hss : (s.extract a s.size).size = s.size - a := by rw [ByteArray.size_extract]; omega
    have hr2 : rest.size < s.size - a := by omega
    clear hh hb2 hres hrest hts hss hrs
    go_wp2_with fail
    refine (bound_any w2 b s rest a most n (H.out.below (bnext WB.out B2.out)) hm0 hm1).mono ?_
    intro e w3 hh
    by_cases hmn : most < n
    · have hbo : boundOf n most rest = .error 3 := by unfold boundOf; rw [if_pos hmn]
      rw [hbo] at hh
      obtain ⟨rfl, hb3⟩ := headIs_err hh
      have B3 := Lib.hid (bnext B2.out hb3)
      have T : Hid (countOf s a most l = .error 3) := Lib.hid (by unfold countOf; rw [HRES.out]; exact if_pos hmn)
      clear hh hb3 hbo
      go_wp2
      rw [T.out]
      refine door_err 3 b s a most w3 w.heap.size (.int .i64 0) (H.out.below (bnext WB.out B3.out)) ((B3.out.block _ (lt_of_block W0.out)).trans W0.out) (by omega) (fun w hc => by simp [results, Tryz.results243, go_sem, hc]) (fun w' hE hR hf => ?_)
      have hz := (bnext WB.out B3.out).size
      exact ⟨extB_own (bnext WB.out B3.out) hE, hR, _, rfl, hz, hf⟩
    · have hbo : boundOf n most rest = .ok (n, rest) := by unfold boundOf; rw [if_neg hmn]
      rw [hbo] at hh
      obtain ⟨rfl, hb3⟩ := headIs_ok hh
      have B3 := Lib.hid (bnext B2.out hb3)
      clear hh hb3 hbo
      obtain ⟨q, hq⟩ : ∃ q : Nat, n = q := ⟨n.toNat, by omega⟩
      subst hq
      have i2 : IntKind.i64.wrap (q : Int) = q := IntWalk.i64_in _ (by omega)
      have T : Hid (countOf s a most l = .ok (.int .i64 q, s.size - rest.size)) := Lib.hid (by
        unfold countOf; rw [HRES.out]
        show (if most < (q : Int) then _ else _) = _
        rw [if_neg hmn])
      have hb3 : b < w3.heap.size := Nat.lt_of_lt_of_le hbl (bnext WB.out B3.out).size
      have he3 : w.heap.size < w3.heap.size := Nat.lt_of_lt_of_le (lt_of_block W0.out) B3.out.size
      go_wp2_with fail
      refine (behind_any _ b s a rest.size most (block_alloc (H.out.below (bnext WB.out B3.out)) _) hs (by omega) (by omega)).mono ?_
      rintro e w5 ⟨rfl, hw5⟩
      have R5 : Hid (RdB w5 b s ((s.size - rest.size : Nat) : Int) most) := Lib.hid (by
        rw [hw5]
        have h := block_setCell (block_alloc (H.out.below (bnext WB.out B3.out)) (.cells #[.int .u64 q, .string rest] 311)) (o := 1) (.int .i64 ((s.size : Int) - rest.size))
        rw [show ((s.size - rest.size : Nat) : Int) = (s.size : Int) - rest.size by omega]
        exact h)
      have E5 : w5.heap[w.heap.size]? = some (.cells #[.nilIface] 59 (0, 0)) := by
        rw [hw5]; exact block_setCell_ne (block_alloc ((B3.out.block _ (lt_of_block W0.out)).trans W0.out) _) (by show w.heap.size ≠ b; omega) _
      have N5 : w5.heap[w3.heap.size]? = some (.cells #[.int .u64 q, .string rest] 311 (0, 0)) := by
        rw [hw5]; exact block_setCell_ne (alloc_new_at _ rfl) (by show w3.heap.size ≠ b; omega) _
      have X5 : Hid (ExtB (some b) w w5) := Lib.hid (by
        rw [hw5]
        have hB := balloc (bnext WB.out B3.out) (.cells #[.int .u64 q, .string rest] 311)
        exact ⟨hB.os, hB.tape, hB.output, by simpa using hB.size, fun i hi hn => by rw [Below.heap_setCell _ _ _ _ (by exact fun e => hn (by rw [e]))]; exact hB.block i hi⟩)
      have a0 : w5.cell? ⟨w3.heap.size, 0, none⟩ = some (.int .u64 q) := block_cell N5 0
      have a2 : w5.cell? ⟨w.heap.size, 0, none⟩ = some .nilIface := block_cell E5 0
      have a3 : w5.frozen? ⟨w.heap.size, 0, none⟩ = false := block_free E5 0
      have hz5 := lt_of_block E5
      clear hw5 E5 N5
      go_wp2
      rw [T.out]
      refine leaves_cons (f := 223) (args := #[.pointer (some ⟨b, 0, none⟩), .pointer (some ⟨w.heap.size, 0, none⟩)]) (by simp) (by simp [go_sem]) ?_
      refine (fault_idle (.pointer (some ⟨b, 0, none⟩)) (.pointer (some ⟨w.heap.size, 0, none⟩)) _).mono ?_
      rintro e u' w'' ⟨rfl, rfl, rfl⟩
      refine ⟨_, by simp [results, Tryz.results243, go_sem, a2]; rfl, ?_⟩
      refine ⟨?_, rfl, ?_⟩
      · exact ext_set X5.out (Nat.le_refl _) _
      · exact block_setCell_ne R5.out (by show b ≠ w.heap.size; omega) _
end Go.Proofs.YtihiaopilnjonaaGreatDoor
namespace Go.Proofs.YtihiaopilnjonaaGreatDoor
set_option linter.unusedSimpArgs false
set_option linter.unusedVariables false
open Go.RowKit
def numsL : List URow := [⟨0, 127, 0, 0⟩, ⟨204, 204, 1, 128⟩, ⟨205, 205, 2, 256⟩, ⟨206, 206, 4, 65536⟩, ⟨207, 207, 8, 4294967296⟩]
def binsL : List URow := [⟨196, 196, 1, 0⟩, ⟨197, 197, 2, 256⟩]
def strsL : List URow := [⟨160, 191, 0, 0⟩, ⟨217, 217, 1, 32⟩, ⟨218, 218, 2, 256⟩]
def listsL : List URow := [⟨144, 159, 0, 0⟩, ⟨220, 220, 2, 16⟩]
def pairsL : List URow := [⟨128, 143, 0, 0⟩, ⟨222, 222, 2, 16⟩]
theorem urows_ok {l : List URow} (h : (l.all fun r => decide (0 ≤ r.lo) && decide (r.hi ≤ 255) && decide (0 ≤ r.size) && decide (r.size ≤ 8) && decide (0 ≤ r.least) && decide (r.least ≤ 4294967296)) = true) : ∀ i, (unth l i).Ok := fun i => by
  rcases Nat.lt_or_ge i l.length with hi | hi
  · rw [unth_eq l i hi]
    have := List.all_eq_true.1 h l[i] (List.getElem_mem _)
    simp only [Bool.and_eq_true, decide_eq_true_eq] at this
    obtain ⟨⟨⟨⟨⟨a, b⟩, c⟩, d⟩, e⟩, f⟩ := this
    exact ⟨a, b, c, d, e, f⟩
  · have : unth l i = URow.zero := by unfold unth; rw [List.getD_eq_getElem?_getD, List.getElem?_eq_none hi]; rfl
    rw [this]; exact ⟨by decide, by decide, by decide, by decide, by decide, by decide⟩
theorem numsL_ok : ∀ i, (unth numsL i).Ok := urows_ok (by decide)
theorem binsL_ok : ∀ i, (unth binsL i).Ok := urows_ok (by decide)
theorem strsL_ok : ∀ i, (unth strsL i).Ok := urows_ok (by decide)
theorem listsL_ok : ∀ i, (unth listsL i).Ok := urows_ok (by decide)
theorem pairsL_ok : ∀ i, (unth pairsL i).Ok := urows_ok (by decide)
def TabAt (B : Nat) (w : World) (g : Nat) (l : List URow) : Prop := ∃ tb tq rc, g < B ∧ tb < B ∧ B ≤ w.heap.size ∧ w.cell? ⟨g, 0, none⟩ = some (.slice (some ⟨tb, tq, none⟩) (len l) rc) ∧ URows w (some ⟨tb, tq, none⟩) l
theorem TabAt.ext {B : Nat} {w w' : World} {g b : Nat} {l : List URow} (h : TabAt B w g l) (hE : ExtB (some b) w w') (hb : B ≤ b) : TabAt B w' g l := by
  obtain ⟨tb, tq, rc, h1, h2, h5, h3, h4⟩ := h
  have e : ∀ x o, x < B → w'.cell? ⟨x, o, none⟩ = w.cell? ⟨x, o, none⟩ := fun x o hx => World.cell?_of_block (w := w) (hE.block x (by omega) (by intro e; cases e; omega))
  refine ⟨tb, tq, rc, h1, h2, Nat.le_trans h5 hE.size, by rw [e g 0 h1]; exact h3, fun i hi => ?_⟩
  obtain ⟨b', off', e2, ⟨c0, c1, c2, c3⟩⟩ := h4 i hi
  cases e2
  exact ⟨tb, tq, rfl, by rw [e tb _ h2]; exact c0, by rw [e tb _ h2]; exact c1, by rw [e tb _ h2]; exact c2, by rw [e tb _ h2]; exact c3⟩
theorem below_extB {w w' : World} (h : Below w.heap.size w w') (b : Nat) : ExtB (some b) w w' := ⟨h.os, h.tape, h.output, h.size, fun i hi _ => h.block i hi⟩
theorem TabAt.below {B : Nat} {w w' : World} {g : Nat} {l : List URow} (h : TabAt B w g l) (hb : Below w.heap.size w w') : TabAt B w' g l := by
  obtain ⟨tb, tq, rc, h1, h2, h5, h3, h4⟩ := h
  exact TabAt.ext ⟨tb, tq, rc, h1, h2, h5, h3, h4⟩ (below_extB hb B) (Nat.le_refl _)
structure Tabs (B : Nat) (w : World) : Prop where
  nums : TabAt B w 1 numsL
  lists : TabAt B w 6 listsL
  bins : TabAt B w 5 binsL
  strs : TabAt B w 3 strsL
  pairs : TabAt B w 2 pairsL
theorem Tabs.ext {B : Nat} {w w' : World} {b : Nat} (h : Tabs B w) (hE : ExtB (some b) w w') (hb : B ≤ b) : Tabs B w' := ⟨h.nums.ext hE hb, h.lists.ext hE hb, h.bins.ext hE hb, h.strs.ext hE hb, h.pairs.ext hE hb⟩
theorem Tabs.below {B : Nat} {w w' : World} (h : Tabs B w) (hb : Below w.heap.size w w') : Tabs B w' := ⟨h.nums.below hb, h.lists.below hb, h.bins.below hb, h.strs.below hb, h.pairs.below hb⟩
set_option maxRecDepth 100000 in
theorem Bin_any (w : World) (B b : Nat) (s : ByteArray) (a : Nat) (most : Int) (ht : Tabs B w) (h : RdB w b s a most) (ha : a ≤ s.size) (hs : s.size ≤ 9223372036854775807) (hm0 : 0 ≤ most) (hm1 : most ≤ 9223372036854775807) :
    Calls Tryz.prog 241 #[.pointer (some ⟨b, 0, none⟩)] w (ReadIs (textOf s a most binsL) (.string ⟨#[]⟩) b s most a w) := by
  obtain ⟨tb, tq, rc, -, -, -, cg, hrow⟩ := ht.bins
  have HC := Lib.hid hrow
  have H := Lib.hid h
  clear ht hrow h
  go_enter Tryz.func241, Tryz.ntmps241
  go_wp2_with fail
  refine (text_any w b s a most (some ⟨tb, tq, none⟩) rc binsL H.out ha hs hm0 hm1 (by decide) (by decide) HC.out binsL_ok).mono ?_
  intro e w1 hh
  clear cg
  obtain ⟨hE, hm⟩ := hh
  have HE := Lib.hid hE
  cases hres : textOf s a most binsL with
  | error k =>
    rw [hres] at hm
    obtain ⟨hR, f, rfl, hf, hb⟩ := hm
    have HR := Lib.hid hR
    have HB := Lib.hid hb
    have HRES := Lib.hid hres
    clear hR hb hE hres
    go_wp2
    go_ret2
    rw [HRES.out]
    exact ⟨HE.out, HR.out, f, rfl, hf, HB.out⟩
  | ok x =>
    rw [hres] at hm
    obtain ⟨rfl, hR⟩ := hm
    have HR := Lib.hid hR
    have HRES := Lib.hid hres
    clear hR hE hres
    go_wp2
    go_ret2
    rw [HRES.out]
    exact ⟨HE.out, rfl, HR.out⟩
set_option maxRecDepth 100000 in
theorem Str_any (w : World) (B b : Nat) (s : ByteArray) (a : Nat) (most : Int) (ht : Tabs B w) (h : RdB w b s a most) (ha : a ≤ s.size) (hs : s.size ≤ 9223372036854775807) (hm0 : 0 ≤ most) (hm1 : most ≤ 9223372036854775807) :
    Calls Tryz.prog 201 #[.pointer (some ⟨b, 0, none⟩)] w (ReadIs (textOf s a most strsL) (.string ⟨#[]⟩) b s most a w) := by
  obtain ⟨tb, tq, rc, -, -, -, cg, hrow⟩ := ht.strs
  have HC := Lib.hid hrow
  have H := Lib.hid h
  clear ht hrow h
  go_enter Tryz.func201, Tryz.ntmps201
  go_wp2_with fail
  refine (text_any w b s a most (some ⟨tb, tq, none⟩) rc strsL H.out ha hs hm0 hm1 (by decide) (by decide) HC.out strsL_ok).mono ?_
  intro e w1 hh
  clear cg
  obtain ⟨hE, hm⟩ := hh
  have HE := Lib.hid hE
  cases hres : textOf s a most strsL with
  | error k =>
    rw [hres] at hm
    obtain ⟨hR, f, rfl, hf, hb⟩ := hm
    have HR := Lib.hid hR
    have HB := Lib.hid hb
    have HRES := Lib.hid hres
    clear hR hb hE hres
    go_wp2
    go_ret2
    rw [HRES.out]
    exact ⟨HE.out, HR.out, f, rfl, hf, HB.out⟩
  | ok x =>
    rw [hres] at hm
    obtain ⟨rfl, hR⟩ := hm
    have HR := Lib.hid hR
    have HRES := Lib.hid hres
    clear hR hE hres
    go_wp2
    go_ret2
    rw [HRES.out]
    exact ⟨HE.out, rfl, HR.out⟩
set_option maxRecDepth 100000 in
theorem List_any (w : World) (B b : Nat) (s : ByteArray) (a : Nat) (most : Int) (ht : Tabs B w) (h : RdB w b s a most) (ha : a ≤ s.size) (hs : s.size ≤ 9223372036854775807) (hm0 : 0 ≤ most) (hm1 : most ≤ 9223372036854775807) :
    Calls Tryz.prog 254 #[.pointer (some ⟨b, 0, none⟩)] w (ReadIs (countOf s a most listsL) (.int .i64 0) b s most a w) := by
  obtain ⟨tb, tq, rc, -, -, -, cg, hrow⟩ := ht.lists
  have HC := Lib.hid hrow
  have H := Lib.hid h
  clear ht hrow h
  go_enter Tryz.func254, Tryz.ntmps254
  go_wp2_with fail
  refine (count_any w b s a most (some ⟨tb, tq, none⟩) rc listsL H.out ha hs hm0 hm1 (by decide) (by decide) HC.out listsL_ok).mono ?_
  intro e w1 hh
  clear cg
  obtain ⟨hE, hm⟩ := hh
  have HE := Lib.hid hE
  cases hres : countOf s a most listsL with
  | error k =>
    rw [hres] at hm
    obtain ⟨hR, f, rfl, hf, hb⟩ := hm
    have HR := Lib.hid hR
    have HB := Lib.hid hb
    have HRES := Lib.hid hres
    clear hR hb hE hres
    go_wp2
    go_ret2
    rw [HRES.out]
    exact ⟨HE.out, HR.out, f, rfl, hf, HB.out⟩
  | ok x =>
    rw [hres] at hm
    obtain ⟨rfl, hR⟩ := hm
    have HR := Lib.hid hR
    have HRES := Lib.hid hres
    clear hR hE hres
    go_wp2
    go_ret2
    rw [HRES.out]
    exact ⟨HE.out, rfl, HR.out⟩
set_option maxRecDepth 100000 in
theorem Map_any (w : World) (B b : Nat) (s : ByteArray) (a : Nat) (most : Int) (ht : Tabs B w) (h : RdB w b s a most) (ha : a ≤ s.size) (hs : s.size ≤ 9223372036854775807) (hm0 : 0 ≤ most) (hm1 : most ≤ 9223372036854775807) :
    Calls Tryz.prog 199 #[.pointer (some ⟨b, 0, none⟩)] w (ReadIs (countOf s a most pairsL) (.int .i64 0) b s most a w) := by
  obtain ⟨tb, tq, rc, -, -, -, cg, hrow⟩ := ht.pairs
  have HC := Lib.hid hrow
  have H := Lib.hid h
  clear ht hrow h
  go_enter Tryz.func199, Tryz.ntmps199
  go_wp2_with fail
  refine (count_any w b s a most (some ⟨tb, tq, none⟩) rc pairsL H.out ha hs hm0 hm1 (by decide) (by decide) HC.out pairsL_ok).mono ?_
  intro e w1 hh
  clear cg
  obtain ⟨hE, hm⟩ := hh
  have HE := Lib.hid hE
  cases hres : countOf s a most pairsL with
  | error k =>
    rw [hres] at hm
    obtain ⟨hR, f, rfl, hf, hb⟩ := hm
    have HR := Lib.hid hR
    have HB := Lib.hid hb
    have HRES := Lib.hid hres
    clear hR hb hE hres
    go_wp2
    go_ret2
    rw [HRES.out]
    exact ⟨HE.out, HR.out, f, rfl, hf, HB.out⟩
  | ok x =>
    rw [hres] at hm
    obtain ⟨rfl, hR⟩ := hm
    have HR := Lib.hid hR
    have HRES := Lib.hid hres
    clear hR hE hres
    go_wp2
    go_ret2
    rw [HRES.out]
    exact ⟨HE.out, rfl, HR.out⟩
set_option maxRecDepth 100000 in
set_option maxHeartbeats 1000000 in
theorem Num_any (w : World) (B b : Nat) (s : ByteArray) (a : Nat) (most : Int) (ht : Tabs B w) (h : RdB w b s a most) (ha : a ≤ s.size) (hs : s.size ≤ 9223372036854775807) :
    Calls Tryz.prog 152 #[.pointer (some ⟨b, 0, none⟩)] w (ReadIs (numOf s a numsL) (.int .u64 0) b s most a w) := by
  obtain ⟨tb, tq, rc, -, -, -, cg, hrow⟩ := ht.nums
  have hgl := lt_of_cell cg
  have HC0 := Lib.hid hrow
  have H := Lib.hid h
  have hbl := lt_of_block h
  have HG := Lib.hid cg
  clear ht hrow h cg
  go_enter_defers Tryz.func152, Tryz.ntmps152
  go_wp2
  obtain ⟨W, hW⟩ : ∃ W, w.alloc (.cells #[.nilIface] 59) = W := ⟨_, rfl⟩
  have WB : Hid (Below w.heap.size w W) := Lib.hid (by rw [← hW]; (repeat (first | exact Below.refl _ _ | assumption | (refine bdrew ?_) | (refine bdrewN ?_ _) | (refine balloc ?_ _) | (refine bset ?_ (by first | omega | (simp; done) | (simp; omega)) _) | (refine bnext ?_ (by assumption)))))
  have W0 : Hid (W.heap[w.heap.size]? = some (.cells #[.nilIface] 59 (0, 0))) := Lib.hid (by rw [← hW]; (repeat (first | exact alloc_new_at _ (by repeat (first | rfl | refine alloc_size _ ?_)) | refine block_alloc ?_ _)))
  rw [hW]
  clear hW
  have RB := Lib.hid (H.out.below WB.out)
  have HC := Lib.hid (HC0.out.below WB.out)
  have cg : W.cell? ⟨1, 0, none⟩ = some (.slice (some ⟨tb, tq, none⟩) (len numsL) rc) := by rw [WB.out.cell (p := ⟨1, 0, none⟩) hgl]; exact HG.out
  have hzW := lt_of_block W0.out
  have hts : (s.extract a s.size).size ≤ 9223372036854775807 := by rw [ByteArray.size_extract]; omega
  cases hres : headOf (s.extract a s.size) numsL with
  | error k =>
    have HRES := Lib.hid hres
    have T : Hid (numOf s a numsL = .error k) := Lib.hid (by unfold numOf; rw [hres])
    clear hres
    refine wp_region_tail 5 1000 (none) (phis [fun u _ => u = (.pointer (some ⟨b, 0, none⟩)), fun u _ => u = (.string (s.extract a s.size)), fun u _ => u = (.slice (some ⟨tb, tq, none⟩) (len numsL) rc), fun _ _ => False, fun u w' => ∃ b', u = .pointer (some ⟨b', 0, none⟩) ∧ w.heap.size < b' ∧ w'.heap[b']? = some (.cells #[.int .u64 0, .string ⟨#[]⟩] 311 (0, 0))]) rfl (by kernel_rfl) (by kernel_rfl) (mono_of ⟨mono_eq, mono_eq, mono_eq, ?m3, ?m4, trivial⟩) (steps_of 5 ⟨?s0, ?s1, ?s2, ?s3, ?s4, trivial⟩) ?_
    case m3 =>
      exact ⟨fun _ _ _ _ h => h, fun _ _ _ _ _ h => h⟩
    case m4 =>
      exact ⟨fun u w1 w' h ⟨b', h1, h2, h3⟩ => ⟨b', h1, h2, ext_block h h3⟩, fun _ u w1 w' h ⟨b', h1, h2, h3⟩ => ⟨b', h1, h2, extB_block h (by simp) h3⟩⟩
    case s0 =>
      refine step_val (v := (.pointer (some ⟨b, 0, none⟩))) (fun av wv hE hS hO hD => ?_) (fun _ => rfl)
      have h0 : av.eval (.tmp 0) = (.pointer (some ⟨b, 0, none⟩)) := hO.2.2 0 rfl
      have f0 := (ev_form av 0).symm.trans h0
      refine ⟨rfl, ?_⟩
      simp [go_sem, f0]
    case s1 =>
      refine step_wp (fun av wv hE hS hO hD => ?_)
      have d6 : av.eval (.tmp 6) = (.pointer (some ⟨b, 0, none⟩)) := hD.1 rfl _ rfl
      have f6 := (ev_form av 6).symm.trans d6
      refine ⟨rfl, ?_⟩
      refine wp_of_call (v := (.string (s.extract a s.size))) (by simp [go_sem, f6]) (here_any wv b s a most (RB.out.below (of_drew hE)) ha hs) (fun w2 hb => ⟨_, rfl, es_of_ext hb, rfl⟩)
    case s2 =>
      refine step_val (v := (.slice (some ⟨tb, tq, none⟩) (len numsL) rc)) (fun av wv hE hS hO hD => ?_) (fun _ => rfl)
      have cg := extB_cell hE (by simp) cg
      refine ⟨rfl, ?_⟩
      simp [go_sem, cg]
    case s3 =>
      refine step_wp (fun av wv hE hS hO hD => ?_)
      have d7 : av.eval (.tmp 7) = (.string (s.extract a s.size)) := hD.1 rfl _ rfl
      have f7 := (ev_form av 7).symm.trans d7
      have d8 : av.eval (.tmp 8) = (.slice (some ⟨tb, tq, none⟩) (len numsL) rc) := hD.2.1 rfl _ rfl
      have f8 := (ev_form av 8).symm.trans d8
      refine ⟨rfl, ?_⟩
      refine wp_of_panic (chain := chainOf k) (by simp [go_sem, f7, f8]) ((head_any (s.extract a s.size) (some ⟨tb, tq, none⟩) rc numsL wv hts (by decide) (by decide) (HC.out.below (of_drew hE)) numsL_ok).mono (fun e w' hh => by rw [HRES.out] at hh; exact headIs_err hh)) (fun w2 hb => ?_)
      have g2 : av.eval (.tmp 2) = .int .u64 0 := hO.2.2 2 rfl
      have g3 : av.eval (.tmp 3) = .pointer (some ⟨w.heap.size, 0, none⟩) := hO.2.2 3 rfl
      have f2 := (ev_form av 2).symm.trans g2
      have f3 := (ev_form av 3).symm.trans g3
      have B2 := bnext (of_drew hE) hb
      show Leaves _ _ av.tmps _ av.defers _ _
      rw [hO.1]
      refine door_err k b s a most w2 w.heap.size (.int .u64 0) (RB.out.below B2) ((B2.block _ (lt_of_block W0.out)).trans W0.out) (by omega) (fun w hc => by simp [results, Tryz.results152, go_sem, hc, f2, f3]) (fun w' hE hR hf => ?_)
      have hz := (bnext WB.out B2).size
      rw [T.out]
      exact ⟨extB_own (bnext WB.out B2) hE, hR, _, rfl, hz, hf⟩
    case s4 =>
      refine step_wp (fun av wv hE hS hO hD => ?_)
      refine ⟨rfl, ?_⟩
      refine wp_of_run (v := .pointer (some ⟨wv.heap.size, 0, none⟩)) (w' := wv.alloc (.cells #[.int .u64 0, .string ⟨#[]⟩] 311)) (by simp [go_sem]) ⟨_, rfl, es_of_ext (balloc (Ext_refl _) _), wv.heap.size, rfl, ?_, heap_alloc_new _ _⟩
      have := (of_drew hE).size; omega
    intro a' w' hE hO hall
    have hA := act_of_outer (ds := [6, 7, 8, 9, 4]) rfl hO (by kernel_rfl)
    have e6 : (fun u _ => u = (.pointer (some ⟨b, 0, none⟩))) (a'.eval (.tmp 6)) w' := hall.1 _ rfl
    have e7 : (fun u _ => u = (.string (s.extract a s.size))) (a'.eval (.tmp 7)) w' := hall.2.1 _ rfl
    have e8 : (fun u _ => u = (.slice (some ⟨tb, tq, none⟩) (len numsL) rc)) (a'.eval (.tmp 8)) w' := hall.2.2.1 _ rfl
    have e9 : (fun _ _ => False) (a'.eval (.tmp 9)) w' := hall.2.2.2.1 _ rfl
    have e4 : (fun u w' => ∃ b', u = .pointer (some ⟨b', 0, none⟩) ∧ w.heap.size < b' ∧ w'.heap[b']? = some (.cells #[.int .u64 0, .string ⟨#[]⟩] 311 (0, 0))) (a'.eval (.tmp 4)) w' := hall.2.2.2.2.1 _ rfl
    obtain ⟨v9, hv9⟩ : ∃ v, a'.eval (.tmp 9) = v := ⟨_, rfl⟩
    rw [hv9] at e9
    obtain ⟨v4, hv4⟩ : ∃ v, a'.eval (.tmp 4) = v := ⟨_, rfl⟩
    rw [hv4] at e4
    simp only [List.foldl_cons, List.foldl_nil, Act.put, List.setIfInBounds_toArray, List.set_cons_succ, List.set_cons_zero, e6, e7, e8, hv9, hv4] at hA
    clear hO hall e6 e7 e8 hv9 hv4
    subst hA
    exact absurd e9 id
  | ok x =>
    obtain ⟨n, rest⟩ := x
    obtain ⟨n0, n1, hrest⟩ := head_bd numsL_ok hres
    have HRES := Lib.hid hres
    have hss : (s.extract a s.size).size = s.size - a := by rw [ByteArray.size_extract]; omega
    have hr2 : rest.size < s.size - a := by omega
    have T : Hid (numOf s a numsL = .ok (.int .u64 n, s.size - rest.size)) := Lib.hid (by unfold numOf; rw [hres])
    clear hres hrest hss
    refine wp_region_tail 5 1000 (none) (phis [fun u _ => u = (.pointer (some ⟨b, 0, none⟩)), fun u _ => u = (.string (s.extract a s.size)), fun u _ => u = (.slice (some ⟨tb, tq, none⟩) (len numsL) rc), fun u _ => u = (.agg #[.int .u64 n, .string rest]), fun u w' => ∃ b', u = .pointer (some ⟨b', 0, none⟩) ∧ w.heap.size < b' ∧ w'.heap[b']? = some (.cells #[.int .u64 0, .string ⟨#[]⟩] 311 (0, 0))]) rfl (by kernel_rfl) (by kernel_rfl) (mono_of ⟨mono_eq, mono_eq, mono_eq, mono_eq, ?m4, trivial⟩) (steps_of 5 ⟨?s0, ?s1, ?s2, ?s3, ?s4, trivial⟩) ?_
    case m4 =>
      exact ⟨fun u w1 w' h ⟨b', h1, h2, h3⟩ => ⟨b', h1, h2, ext_block h h3⟩, fun _ u w1 w' h ⟨b', h1, h2, h3⟩ => ⟨b', h1, h2, extB_block h (by simp) h3⟩⟩
    case s0 =>
      refine step_val (v := (.pointer (some ⟨b, 0, none⟩))) (fun av wv hE hS hO hD => ?_) (fun _ => rfl)
      have h0 : av.eval (.tmp 0) = (.pointer (some ⟨b, 0, none⟩)) := hO.2.2 0 rfl
      have f0 := (ev_form av 0).symm.trans h0
      refine ⟨rfl, ?_⟩
      simp [go_sem, f0]
    case s1 =>
      refine step_wp (fun av wv hE hS hO hD => ?_)
      have d6 : av.eval (.tmp 6) = (.pointer (some ⟨b, 0, none⟩)) := hD.1 rfl _ rfl
      have f6 := (ev_form av 6).symm.trans d6
      refine ⟨rfl, ?_⟩
      refine wp_of_call (v := (.string (s.extract a s.size))) (by simp [go_sem, f6]) (here_any wv b s a most (RB.out.below (of_drew hE)) ha hs) (fun w2 hb => ⟨_, rfl, es_of_ext hb, rfl⟩)
    case s2 =>
      refine step_val (v := (.slice (some ⟨tb, tq, none⟩) (len numsL) rc)) (fun av wv hE hS hO hD => ?_) (fun _ => rfl)
      have cg := extB_cell hE (by simp) cg
      refine ⟨rfl, ?_⟩
      simp [go_sem, cg]
    case s3 =>
      refine step_wp (fun av wv hE hS hO hD => ?_)
      have d7 : av.eval (.tmp 7) = (.string (s.extract a s.size)) := hD.1 rfl _ rfl
      have f7 := (ev_form av 7).symm.trans d7
      have d8 : av.eval (.tmp 8) = (.slice (some ⟨tb, tq, none⟩) (len numsL) rc) := hD.2.1 rfl _ rfl
      have f8 := (ev_form av 8).symm.trans d8
      refine ⟨rfl, ?_⟩
      refine wp_of_call (v := (.agg #[.int .u64 n, .string rest])) (by simp [go_sem, f7, f8]) ((head_any (s.extract a s.size) (some ⟨tb, tq, none⟩) rc numsL wv hts (by decide) (by decide) (HC.out.below (of_drew hE)) numsL_ok).mono (fun e w' hh => by rw [HRES.out] at hh; exact headIs_ok hh)) (fun w2 hb => ⟨_, rfl, es_of_ext hb, rfl⟩)
    case s4 =>
      refine step_wp (fun av wv hE hS hO hD => ?_)
      refine ⟨rfl, ?_⟩
      refine wp_of_run (v := .pointer (some ⟨wv.heap.size, 0, none⟩)) (w' := wv.alloc (.cells #[.int .u64 0, .string ⟨#[]⟩] 311)) (by simp [go_sem]) ⟨_, rfl, es_of_ext (balloc (Ext_refl _) _), wv.heap.size, rfl, ?_, heap_alloc_new _ _⟩
      have := (of_drew hE).size; omega
    intro a' w' hE hO hall
    have hA := act_of_outer (ds := [6, 7, 8, 9, 4]) rfl hO (by kernel_rfl)
    have e6 : (fun u _ => u = (.pointer (some ⟨b, 0, none⟩))) (a'.eval (.tmp 6)) w' := hall.1 _ rfl
    have e7 : (fun u _ => u = (.string (s.extract a s.size))) (a'.eval (.tmp 7)) w' := hall.2.1 _ rfl
    have e8 : (fun u _ => u = (.slice (some ⟨tb, tq, none⟩) (len numsL) rc)) (a'.eval (.tmp 8)) w' := hall.2.2.1 _ rfl
    have e9 : (fun u _ => u = (.agg #[.int .u64 n, .string rest])) (a'.eval (.tmp 9)) w' := hall.2.2.2.1 _ rfl
    have e4 : (fun u w' => ∃ b', u = .pointer (some ⟨b', 0, none⟩) ∧ w.heap.size < b' ∧ w'.heap[b']? = some (.cells #[.int .u64 0, .string ⟨#[]⟩] 311 (0, 0))) (a'.eval (.tmp 4)) w' := hall.2.2.2.2.1 _ rfl
    obtain ⟨v4, hv4⟩ : ∃ v, a'.eval (.tmp 4) = v := ⟨_, rfl⟩
    rw [hv4] at e4
    simp only [List.foldl_cons, List.foldl_nil, Act.put, List.setIfInBounds_toArray, List.set_cons_succ, List.set_cons_zero, e6, e7, e8, e9, hv4] at hA
    clear hO hall e6 e7 e8 e9 hv4
    subst hA
    obtain ⟨tk, rfl, ht1, ht2⟩ := e4
    have B1 := Lib.hid (of_drew hE)
    have x0 : ∀ o, w'.cell? ⟨tk, o, none⟩ = _ := block_cell ht2
    have x1 : ∀ o, w'.frozen? ⟨tk, o, none⟩ = false := block_free ht2
    have HT2 := Lib.hid ht2
    have E1 : Hid (w'.heap[w.heap.size]? = some (.cells #[.nilIface] 59 (0, 0))) := Lib.hid ((B1.out.block _ hzW).trans W0.out)
    clear hE ht2 cg
    go_upto_region 3 with fail
    obtain ⟨V, hV⟩ : ∃ V, (w'.setCell ⟨tk, 0, none⟩ (.int .u64 n)).setCell ⟨tk, 1, none⟩ (.string rest) = V := ⟨_, rfl⟩
    have hne : b ≠ tk := by omega
    have hne2 : w.heap.size ≠ tk := by omega
    have VR : Hid (RdB V b s a most) := Lib.hid (by rw [← hV]; exact block_setCell_ne (block_setCell_ne (RB.out.below B1.out) hne _) hne _)
    have VE : Hid (V.heap[w.heap.size]? = some (.cells #[.nilIface] 59 (0, 0))) := Lib.hid (by rw [← hV]; exact block_setCell_ne (block_setCell_ne E1.out hne2 _) hne2 _)
    have VT : Hid (V.heap[tk]? = some (.cells #[.int .u64 n, .string rest] 311 (0, 0))) := Lib.hid (by rw [← hV]; exact block_setCell (block_setCell HT2.out _) _)
    have VX : Hid (Below w.heap.size w V) := Lib.hid (by rw [← hV]; exact bset (bset (bnext WB.out B1.out) (by show w.heap.size ≤ tk; omega) _) (by show w.heap.size ≤ tk; omega) _)
    rw [hV]
    clear hV x0 x1 HT2 E1 RB
    have y1 : V.cell? ⟨tk, 1, none⟩ = some (.string rest) := block_cell VT.out 1
    go_wp2_with fail
    refine (behind_any _ b s a rest.size most VR.out hs (by omega) (by omega)).mono ?_
    rintro e w5 ⟨rfl, hw5⟩
    have R5 : Hid (RdB w5 b s ((s.size - rest.size : Nat) : Int) most) := Lib.hid (by
      rw [hw5]
      have h := block_setCell VR.out (o := 1) (.int .i64 ((s.size : Int) - rest.size))
      rw [show ((s.size - rest.size : Nat) : Int) = (s.size : Int) - rest.size by omega]
      exact h)
    have E5 : w5.heap[w.heap.size]? = some (.cells #[.nilIface] 59 (0, 0)) := by
      rw [hw5]; exact block_setCell_ne VE.out (by show w.heap.size ≠ b; omega) _
    have N5 : w5.heap[tk]? = some (.cells #[.int .u64 n, .string rest] 311 (0, 0)) := by
      rw [hw5]; exact block_setCell_ne VT.out (by show tk ≠ b; omega) _
    have X5 : Hid (ExtB (some b) w w5) := Lib.hid (by
      rw [hw5]
      have hB := VX.out
      exact ⟨hB.os, hB.tape, hB.output, by simpa using hB.size, fun i hi hn => by rw [Below.heap_setCell _ _ _ _ (by exact fun e => hn (by rw [e]))]; exact hB.block i hi⟩)
    have a0 : w5.cell? ⟨tk, 0, none⟩ = some (.int .u64 n) := block_cell N5 0
    have a2 : w5.cell? ⟨w.heap.size, 0, none⟩ = some .nilIface := block_cell E5 0
    have a3 : w5.frozen? ⟨w.heap.size, 0, none⟩ = false := block_free E5 0
    have hz5 := lt_of_block E5
    clear hw5 E5 N5 y1
    go_wp2
    rw [T.out]
    refine leaves_cons (f := 223) (args := #[.pointer (some ⟨b, 0, none⟩), .pointer (some ⟨w.heap.size, 0, none⟩)]) (by simp) (by simp [go_sem]) ?_
    refine (fault_idle (.pointer (some ⟨b, 0, none⟩)) (.pointer (some ⟨w.heap.size, 0, none⟩)) _).mono ?_
    rintro e u' w'' ⟨rfl, rfl, rfl⟩
    refine ⟨_, by simp [results, Tryz.results152, go_sem, a2]; rfl, ?_⟩
    refine ⟨?_, rfl, ?_⟩
    · exact ext_set X5.out (Nat.le_refl _) _
    · exact block_setCell_ne R5.out (by show b ≠ w.heap.size; omega) _
end Go.Proofs.YtihiaopilnjonaaGreatDoor
namespace Go.Proofs.YtihiaopilnjonaaGreatDoor
set_option linter.unusedSimpArgs false
set_option linter.unusedVariables false
open Go.RowKit Go.Extern.Stop Go.Stop Go.Extern
theorem run_equalIn_int (w : World) {P : Program} (d : Nat) {ti tn : TypeId} {ms : Array (String × TypeId)} {i : TypeInfo} {k : IntKind} (a b : Int)
    (hi : P.underlying ti = some (.interface ms)) (hn : P.underlying tn = some (.int k)) (hinfo : P.info? tn = some i) (hcomp : i.comparable = true) :
    (Op.equalIn (d + 2) ti (.iface tn (.int k a)) (.iface tn (.int k b))).run P w = .ok (a == b) w := by
  simp [Op.equalIn, run_underlying hi, run_underlying hn, typeInfo, hinfo, hcomp]
theorem run_eql_int {P : Program} {ti tn : TypeId} {ms : Array (String × TypeId)} {i : TypeInfo} {k : IntKind} (a b : Int)
    (hi : P.underlying ti = some (.interface ms)) (hn : P.underlying tn = some (.int k)) (hinfo : P.info? tn = some i) (hcomp : i.comparable = true) (w : World) :
    (binOp .eql ti (.iface tn (.int k a)) (.iface tn (.int k b))).run P w = .ok (.bool (a == b)) w := by
  simp only [binOp]
  simp [Op.equal, Op.maxDepth, run_equalIn_int w 9998 a b hi hn hinfo hcomp]
theorem rtOf (gs : Nat) (hg : gs = Tryz.prog.globals.size) (t : TypeId) (v : Value) (w : World) (ht : t = 30 ∨ t = 127) : (Extern.ReflectliteType.typeOf #[.iface t v]).run Tryz.prog w = .ok (.iface 284 (.agg #[.pointer (some ⟨gs, t, none⟩)])) w := by
  subst hg
  rcases ht with rfl | rfl <;> kernel_rfl
theorem rtComparable (gs : Nat) (hg : gs = Tryz.prog.globals.size) (w : World) : ((Extern.ReflectliteType.method fun t => do Extern.Rtype.noPackHeld "Comparable" t; (fun a => Value.bool a.comparable) <$> typeInfo t) #[.agg #[.pointer (some ⟨gs, 30, none⟩)]]).run Tryz.prog w = .ok (.bool true) w := by
  subst hg; kernel_rfl
theorem rtMethodComparable (n : Nat) (v : Value) (w : World) : (Go.method (n + 1) 284 v "Comparable").run Tryz.prog w = .ok (288, v) w := by kernel_rfl
theorem errnoComp : (Tryz.prog.info? 30).map (·.comparable) = some true := by kernel_rfl
theorem noIsF (v : Value) (xT : TypeId) (w : World) : (Instr.typeAssert (.iface 127 v) xT 295 true).run Tryz.prog w = .ok (.tuple #[.nilIface, .bool false]) w := run_typeAssert_lacksB Tryz.underlying295 (by kernel_rfl) (by kernel_rfl) v xT w
theorem hasUnwrapF (v : Value) (xT : TypeId) (w : World) : (Instr.typeAssert (.iface 127 v) xT 291 true).run Tryz.prog w = .ok (.tuple #[.iface 127 v, .bool true]) w := run_typeAssert_hasB Tryz.underlying291 (by kernel_rfl) v xT w
theorem noIsE (v : Value) (xT : TypeId) (w : World) : (Instr.typeAssert (.iface 30 v) xT 295 true).run Tryz.prog w = .ok (.tuple #[.nilIface, .bool false]) w := run_typeAssert_lacksB Tryz.underlying295 (by kernel_rfl) (by kernel_rfl) v xT w
theorem noUnwrapE (v : Value) (xT : TypeId) (w : World) : (Instr.typeAssert (.iface 30 v) xT 291 true).run Tryz.prog w = .ok (.tuple #[.nilIface, .bool false]) w := run_typeAssert_lacksB Tryz.underlying291 (by kernel_rfl) (by kernel_rfl) v xT w
theorem noUnwrapsE (v : Value) (xT : TypeId) (w : World) : (Instr.typeAssert (.iface 30 v) xT 292 true).run Tryz.prog w = .ok (.tuple #[.nilIface, .bool false]) w := run_typeAssert_lacksB Tryz.underlying292 (by kernel_rfl) (by kernel_rfl) v xT w
theorem methodUnwrapF (n : Nat) (v : Value) (w : World) : (Go.method (n + 1) 127 v "Unwrap").run Tryz.prog w = .ok (280, v) w := by kernel_rfl
set_option maxRecDepth 100000 in
set_option maxHeartbeats 1000000 in
theorem is_fault (f : Nat) (k e : Int) (w : World) (h : w.cell? ⟨f, 0, none⟩ = some (.int .i64 k)) :
    Calls Tryz.prog 72 #[.iface 127 (.pointer (some ⟨f, 0, none⟩)), .iface 30 (.int .i64 e)] w fun x w' => x = .returned (.bool (k == e)) ∧ w' = w := by
  obtain ⟨i, hi, hcmp⟩ := Option.map_eq_some_iff.1 errnoComp
  have h8 := @run_callFunc_extern Tryz.prog 136 _ Extern.ReflectliteType.typeOf Tryz.func136 (by kernel_rfl) (by kernel_rfl) (by kernel_rfl) (by kernel_rfl)
  have h32 := @run_callFunc_extern Tryz.prog 288 _ (Extern.ReflectliteType.method fun t => do Extern.Rtype.noPackHeld "Comparable" t; pure (.bool (← typeInfo t).comparable)) Tryz.func288 (by kernel_rfl) (by kernel_rfl) (by kernel_rfl) (by kernel_rfl)
  obtain ⟨gs, hg⟩ : ∃ gs, gs = Tryz.prog.globals.size := ⟨_, rfl⟩
  have tT := fun w => rtOf gs hg 30 (.int .i64 e) w (.inl rfl)
  have cT := rtComparable gs hg
  clear hg
  have mR := rtMethodComparable
  have n1 := noIsF
  have n2 := hasUnwrapF
  have n3 := noIsE
  have n4 := noUnwrapE
  have n5 := noUnwrapsE
  have n6 := methodUnwrapF
  have q1 := fun (w : World) => run_eql_iface_types (P := Tryz.prog) 127 30 (.pointer (some ⟨f, 0, none⟩)) (.int .i64 e) Tryz.underlying59 (by decide) w
  have q2 := run_eql_int (P := Tryz.prog) k e Tryz.underlying59 Tryz.underlying30 hi hcmp
  go_enter Tryz.func72, Tryz.ntmps72
  cases hke : k == e
  all_goals
    rw [hke] at q2
    go_wp2
    refine wp_loop_rounds 2 ?_
    rw [rounds_succ]
    go_wp2
    rw [rounds_succ]
    go_wp2
    go_ret
    exact ⟨rfl, rfl⟩
theorem is_none (e : Int) (w : World) : Calls Tryz.prog 72 #[.nilIface, .iface 30 (.int .i64 e)] w fun x w' => x = .returned (.bool false) ∧ w' = w := by
  have hn := run_eql_iface_nil_left (P := Tryz.prog) w 30 (.int .i64 e) Tryz.underlying59
  go_enter Tryz.func72, Tryz.ntmps72
  go_wp2
  go_ret
  exact ⟨rfl, rfl⟩
theorem as_none (v : Value) (w : World) : Calls Tryz.prog 71 #[.nilIface, v] w fun x w' => x = .returned (.bool false) ∧ w' = w := by
  go_enter Tryz.func71, Tryz.ntmps71
  go_wp2
  go_ret
  exact ⟨rfl, rfl⟩
theorem vOfF (gs : Nat) (hg : gs = Tryz.prog.globals.size) (x : Nat) (w : World) : (Extern.ReflectliteValue.unpack (.iface 127 (.pointer (some ⟨x, 0, none⟩)))).run Tryz.prog w = .ok (.agg #[.pointer (some ⟨gs, 127, none⟩), .pointer (some ⟨w.heap.size, 0, none⟩), .int .u64 150]) (w.alloc (.cells #[.pointer (some ⟨x, 0, none⟩)] 127)) := by
  subst hg; kernel_rfl
theorem vOfFF (gs : Nat) (hg : gs = Tryz.prog.globals.size) (x : Nat) (w : World) : (Extern.ReflectliteValue.unpack (.iface 129 (.pointer (some ⟨x, 0, none⟩)))).run Tryz.prog w = .ok (.agg #[.pointer (some ⟨gs, 129, none⟩), .pointer (some ⟨w.heap.size, 0, none⟩), .int .u64 150]) (w.alloc (.cells #[.pointer (some ⟨x, 0, none⟩)] 129)) := by
  subst hg; kernel_rfl
theorem vType (gs : Nat) (hg : gs = Tryz.prog.globals.size) (a : Addr) (w : World) : (Extern.ReflectliteValue.methodAny (Extern.ReflectliteValue.valueError "reflectlite.Value.Type" 0) (fun t _ _ _ => Extern.ReflectliteType.toType t) #[(.agg #[.pointer (some ⟨gs, 129, none⟩), .pointer (some a), .int .u64 150])]).run Tryz.prog w = .ok (.iface 284 (.agg #[.pointer (some ⟨gs, 129, none⟩)])) w := by
  subst hg; kernel_rfl
theorem mKind (gs : Nat) (hg : gs = Tryz.prog.globals.size) (n : Nat) (w : World) : (Go.method (n + 1) 284 (.agg #[.pointer (some ⟨gs, 129, none⟩)]) "Kind").run Tryz.prog w = .ok (275, .pointer (some ⟨gs, 129, none⟩)) w := by
  subst hg; kernel_rfl
theorem mKindF (gs : Nat) (hg : gs = Tryz.prog.globals.size) (n : Nat) (w : World) : (Go.method (n + 1) 284 (.agg #[.pointer (some ⟨gs, 127, none⟩)]) "Kind").run Tryz.prog w = .ok (275, .pointer (some ⟨gs, 127, none⟩)) w := by
  subst hg; kernel_rfl
theorem mElem (n : Nat) (v : Value) (w : World) : (Go.method (n + 1) 284 v "Elem").run Tryz.prog w = .ok (289, v) w := by kernel_rfl
theorem mImpl (n : Nat) (v : Value) (w : World) : (Go.method (n + 1) 284 v "Implements").run Tryz.prog w = .ok (290, v) w := by kernel_rfl
theorem mAssign (n : Nat) (v : Value) (w : World) : (Go.method (n + 1) 284 v "AssignableTo").run Tryz.prog w = .ok (287, v) w := by kernel_rfl
theorem rElem (gs : Nat) (hg : gs = Tryz.prog.globals.size)  (w : World) : (Extern.ReflectliteType.method Extern.ReflectliteType.elem #[(.agg #[.pointer (some ⟨gs, 129, none⟩)])]).run Tryz.prog w = .ok (.iface 284 (.agg #[.pointer (some ⟨gs, 127, none⟩)])) w := by
  subst hg; kernel_rfl
theorem rAssign (gs : Nat) (hg : gs = Tryz.prog.globals.size)  (w : World) : (Extern.ReflectliteType.relation "AssignableTo" Extern.ReflectliteType.assignableTo #[(.agg #[.pointer (some ⟨gs, 127, none⟩)]), .iface 284 (.agg #[.pointer (some ⟨gs, 127, none⟩)])]).run Tryz.prog w = .ok (.bool true) w := by
  subst hg; kernel_rfl
theorem rImpl (gs : Nat) (hg : gs = Tryz.prog.globals.size)  (w : World) : (Extern.ReflectliteType.relation "Implements" Extern.ReflectliteType.implements_ #[(.agg #[.pointer (some ⟨gs, 127, none⟩)]), .iface 284 (.agg #[.pointer (some ⟨gs, 59, none⟩)])]).run Tryz.prog w = .ok (.bool true) w := by
  subst hg; kernel_rfl
theorem kKind (gs : Nat) (hg : gs = Tryz.prog.globals.size)  (w : World) : (Extern.ReflectliteType.abiMethod (fun t => (fun a => Value.int IntKind.u8 ((a : Nat) : Int)) <$> Extern.Rtype.kind t) #[.pointer (some ⟨gs, 129, none⟩)]).run Tryz.prog w = .ok (.int .u8 22) w := by
  subst hg; kernel_rfl
theorem kKindF (gs : Nat) (hg : gs = Tryz.prog.globals.size)  (w : World) : (Extern.ReflectliteType.abiMethod (fun t => (fun a => Value.int IntKind.u8 ((a : Nat) : Int)) <$> Extern.Rtype.kind t) #[.pointer (some ⟨gs, 127, none⟩)]).run Tryz.prog w = .ok (.int .u8 22) w := by
  subst hg; kernel_rfl
theorem partsFF (gs : Nat) (hg : gs = Tryz.prog.globals.size) (a : Addr) (w : World) : (Extern.ReflectliteValue.parts (.agg #[.pointer (some ⟨gs, 129, none⟩), .pointer (some a), .int .u64 150])).run Tryz.prog w = .ok (some (129, a, 150)) w := by
  subst hg; kernel_rfl
theorem partsF (gs : Nat) (hg : gs = Tryz.prog.globals.size) (a : Addr) (w : World) : (Extern.ReflectliteValue.parts (.agg #[.pointer (some ⟨gs, 127, none⟩), .pointer (some a), .int .u64 150])).run Tryz.prog w = .ok (some (127, a, 150)) w := by
  subst hg; kernel_rfl
theorem partsFa (gs : Nat) (hg : gs = Tryz.prog.globals.size) (a : Addr) (w : World) : (Extern.ReflectliteValue.parts (.agg #[.pointer (some ⟨gs, 127, none⟩), .pointer (some a), .int .u64 406])).run Tryz.prog w = .ok (some (127, a, 406)) w := by
  subst hg; kernel_rfl
theorem elemFF (w : World) : (Extern.Rtype.elem? 129).run Tryz.prog w = .ok (some 127) w := by kernel_rfl
theorem mkF (gs : Nat) (hg : gs = Tryz.prog.globals.size) (p : Addr) (w : World) : (Extern.ReflectliteValue.mk 127 p Extern.ReflectliteValue.flagAddr).run Tryz.prog w = .ok (.agg #[.pointer (some ⟨gs, 127, none⟩), .pointer (some p), .int .u64 406]) w := by
  subst hg; kernel_rfl
theorem directF (w : World) : (Extern.Rtype.directlyAssignable 127 127).run Tryz.prog w = .ok true w := by kernel_rfl
theorem loadFF (b : Nat) (p : Addr) (w : World) (h : w.cell? ⟨b, 0, none⟩ = some (.pointer (some p))) : (loadVar 129 ⟨b, 0, none⟩).run Tryz.prog w = .ok (.pointer (some p)) w := by
  simp [go_sem, h]
theorem vIsNil (gs : Nat) (hg : gs = Tryz.prog.globals.size) (b : Nat) (p : Addr) (w : World) (h : w.cell? ⟨b, 0, none⟩ = some (.pointer (some p))) : (Extern.ReflectliteValue.method (Extern.ReflectliteValue.valueError "reflectlite.Value.IsNil" 0) Extern.ReflectliteValue.isNil #[(.agg #[.pointer (some ⟨gs, 129, none⟩), .pointer (some ⟨b, 0, none⟩), .int .u64 150])]).run Tryz.prog w = .ok (.bool false) w := by
  change (do
    match ← Extern.ReflectliteValue.parts (.agg #[.pointer (some ⟨gs, 129, none⟩), .pointer (some ⟨b, 0, none⟩), .int .u64 150]) with
    | none => Extern.ReflectliteValue.valueError "reflectlite.Value.IsNil" 0
    | some (t, a, fl) => Extern.ReflectliteValue.isNil t a fl (fl % 32) : Sem Value).run Tryz.prog w = _
  simp [partsFF gs hg, Extern.ReflectliteValue.isNil, loadFF b p w h]
theorem vElem (gs : Nat) (hg : gs = Tryz.prog.globals.size) (b : Nat) (p : Addr) (w : World) (h : w.cell? ⟨b, 0, none⟩ = some (.pointer (some p))) : (Extern.ReflectliteValue.method (Extern.ReflectliteValue.valueError "reflectlite.Value.Elem" 0) Extern.ReflectliteValue.elem #[(.agg #[.pointer (some ⟨gs, 129, none⟩), .pointer (some ⟨b, 0, none⟩), .int .u64 150])]).run Tryz.prog w = .ok (.agg #[.pointer (some ⟨gs, 127, none⟩), .pointer (some p), .int .u64 406]) w := by
  change (do
    match ← Extern.ReflectliteValue.parts (.agg #[.pointer (some ⟨gs, 129, none⟩), .pointer (some ⟨b, 0, none⟩), .int .u64 150]) with
    | none => Extern.ReflectliteValue.valueError "reflectlite.Value.Elem" 0
    | some (t, a, fl) => Extern.ReflectliteValue.elem t a fl (fl % 32) : Sem Value).run Tryz.prog w = _
  simp [partsFF gs hg, Extern.ReflectliteValue.elem, elemFF, mkF gs hg, loadFF b p w h]
theorem vSet (gs : Nat) (hg : gs = Tryz.prog.globals.size) (tb b : Nat) (x : Value) (p : Addr) (w : World) (h : w.cell? ⟨b, 0, none⟩ = some (.pointer (some p))) (hx : w.cell? ⟨tb, 0, none⟩ = some x) (hz : w.frozen? ⟨tb, 0, none⟩ = false) :
    (Extern.ReflectliteValue.set #[(.agg #[.pointer (some ⟨gs, 127, none⟩), .pointer (some ⟨tb, 0, none⟩), .int .u64 406]), (.agg #[.pointer (some ⟨gs, 127, none⟩), .pointer (some ⟨b, 0, none⟩), .int .u64 150])]).run Tryz.prog w = .ok (.tuple #[]) (w.setCell ⟨tb, 0, none⟩ (.pointer (some p))) := by
  have l61 : (loadVar 127 ⟨b, 0, none⟩).run Tryz.prog w = .ok (.pointer (some p)) w := by simp [go_sem, h]
  have s61 : (storeVar 127 ⟨tb, 0, none⟩ (.pointer (some p))).run Tryz.prog w = .ok () (w.setCell ⟨tb, 0, none⟩ (.pointer (some p))) := by simp [go_sem, hx, hz]
  change (do
    let (some (dst, a, fl), some (src, b, _)) := (← Extern.ReflectliteValue.parts (.agg #[.pointer (some ⟨gs, 127, none⟩), .pointer (some ⟨tb, 0, none⟩), .int .u64 406]), ← Extern.ReflectliteValue.parts (.agg #[.pointer (some ⟨gs, 127, none⟩), .pointer (some ⟨b, 0, none⟩), .int .u64 150]))
      | unsupported (.noEntry _)
    if fl / Extern.ReflectliteValue.flagAddr % 2 == 0 then unsupported (.noEntry _)
    let val ← loadVar src b
    if ← Extern.Rtype.directlyAssignable dst src then storeVar dst a val
    else if ← Extern.Rtype.implements dst src then
      if (← Extern.Rtype.kind src) == 20 then
        match val with
        | .nilIface => unsupported (.noEntry _)
        | _ => storeVar dst a val
      else storeVar dst a (.iface src val)
    else panicString (_ ++ (← Extern.Rtype.spelt src) ++ _ ++ (← Extern.Rtype.spelt dst))
    pure (.tuple #[]) : Sem Value).run Tryz.prog w = _
  simp [partsF gs hg, partsFa gs hg, l61, directF, s61, Extern.ReflectliteValue.flagAddr]
theorem ext_setb {w w1 : World} {tb : Nat} (h : Below w.heap.size w w1) (v : Value) : ExtB (some tb) w (w1.setCell ⟨tb, 0, none⟩ v) :=
  ⟨h.os, h.tape, h.output, by simpa using h.size, fun i hi hn => by rw [Below.heap_setCell _ _ _ _ (by show i ≠ tb; exact fun e => hn (by rw [e]))]; exact h.block i hi⟩
def ErrType (w : World) : Prop := w.cell? ⟨0, 0, none⟩ = some (.iface 284 (.agg #[.pointer (some ⟨Tryz.prog.globals.size, 59, none⟩)]))
set_option maxRecDepth 100000 in
set_option maxHeartbeats 2000000 in
theorem as_fault (f tb : Nat) (q : Option Addr) (w : World) (he : ErrType w) (ht : w.heap[tb]? = some (.cells #[.pointer q] 127 (0, 0))) :
    Calls Tryz.prog 71 #[.iface 127 (.pointer (some ⟨f, 0, none⟩)), .iface 129 (.pointer (some ⟨tb, 0, none⟩))] w fun x w' => x = .returned (.bool true) ∧ ExtB (some tb) w w' ∧ w'.heap[tb]? = some (.cells #[.pointer (some ⟨f, 0, none⟩)] 127 (0, 0)) := by
  obtain ⟨gs, hg⟩ : ∃ gs, gs = Tryz.prog.globals.size := ⟨_, rfl⟩
  have ce : w.cell? ⟨0, 0, none⟩ = some (.iface 284 (.agg #[.pointer (some ⟨gs, 59, none⟩)])) := by rw [hg]; exact he
  have hel := lt_of_cell ce
  have ct : w.cell? ⟨tb, 0, none⟩ = some (.pointer q) := block_cell ht 0
  have cz : w.frozen? ⟨tb, 0, none⟩ = false := block_free ht 0
  have htl := lt_of_block ht
  have HT := Lib.hid ht
  clear he ht
  have x31 := @run_callFunc_extern Tryz.prog 132 _ (fun args => Extern.ReflectliteValue.unpack (args.getD 0 (.tuple #[]))) Tryz.func132 (by kernel_rfl) (by kernel_rfl) (by kernel_rfl) (by kernel_rfl)
  have x32 := @run_callFunc_extern Tryz.prog 133 _ (Extern.ReflectliteValue.methodAny (Extern.ReflectliteValue.valueError "reflectlite.Value.Type" 0) fun t _ _ _ => Extern.ReflectliteType.toType t) Tryz.func133 (by kernel_rfl) (by kernel_rfl) (by kernel_rfl) (by kernel_rfl)
  have x33 := @run_callFunc_extern Tryz.prog 134 _ (Extern.ReflectliteValue.method (Extern.ReflectliteValue.valueError "reflectlite.Value.IsNil" 0) Extern.ReflectliteValue.isNil) Tryz.func134 (by kernel_rfl) (by kernel_rfl) (by kernel_rfl) (by kernel_rfl)
  have x35 := @run_callFunc_extern Tryz.prog 136 _ (Extern.ReflectliteType.typeOf) Tryz.func136 (by kernel_rfl) (by kernel_rfl) (by kernel_rfl) (by kernel_rfl)
  have x40 := @run_callFunc_extern Tryz.prog 207 _ (Extern.ReflectliteValue.method (Extern.ReflectliteValue.valueError "reflectlite.Value.Elem" 0) Extern.ReflectliteValue.elem) Tryz.func207 (by kernel_rfl) (by kernel_rfl) (by kernel_rfl) (by kernel_rfl)
  have x41 := @run_callFunc_extern Tryz.prog 208 _ (Extern.ReflectliteValue.set) Tryz.func208 (by kernel_rfl) (by kernel_rfl) (by kernel_rfl) (by kernel_rfl)
  have x56 := @run_callFunc_extern Tryz.prog 275 _ (Extern.ReflectliteType.abiMethod fun t => do pure (.int .u8 (← Extern.Rtype.kind t))) Tryz.func275 (by kernel_rfl) (by kernel_rfl) (by kernel_rfl) (by kernel_rfl)
  have x66 := @run_callFunc_extern Tryz.prog 287 _ (Extern.ReflectliteType.relation "AssignableTo" Extern.ReflectliteType.assignableTo) Tryz.func287 (by kernel_rfl) (by kernel_rfl) (by kernel_rfl) (by kernel_rfl)
  have x68 := @run_callFunc_extern Tryz.prog 289 _ (Extern.ReflectliteType.method Extern.ReflectliteType.elem) Tryz.func289 (by kernel_rfl) (by kernel_rfl) (by kernel_rfl) (by kernel_rfl)
  have x69 := @run_callFunc_extern Tryz.prog 290 _ (Extern.ReflectliteType.relation "Implements" Extern.ReflectliteType.implements_) Tryz.func290 (by kernel_rfl) (by kernel_rfl) (by kernel_rfl) (by kernel_rfl)
  have y1 := vOfF gs hg f
  have y2 := vOfFF gs hg tb
  have y3 := vType gs hg
  have y4 := mKind gs hg
  have y5 := mKindF gs hg
  have y6 := mElem
  have y7 := mImpl
  have y8 := mAssign
  have y9 := rElem gs hg
  have y10 := rAssign gs hg
  have y11 := rImpl gs hg
  have y12 := kKind gs hg
  have y13 := kKindF gs hg
  have y14 := fun (w : World) => rtOf gs hg 127 (.pointer (some ⟨f, 0, none⟩)) w (.inr rfl)
  have y15 := fun (b : Nat) (w : World) h => vIsNil gs hg b ⟨tb, 0, none⟩ w h
  have y16 := fun (X Y : Obj) => vElem gs hg w.heap.size ⟨tb, 0, none⟩ (((w.alloc (.cells #[.pointer (some ⟨tb, 0, none⟩)] 129)).alloc X).alloc Y) (block_cell (block_alloc (block_alloc (heap_alloc_new w _) _) _) 0)
  have y17 := fun (X Y : Obj) => vSet gs hg tb (w.heap.size + 1 + 1 + 1) (.pointer q) ⟨f, 0, none⟩ ((((w.alloc (.cells #[.pointer (some ⟨tb, 0, none⟩)] 129)).alloc X).alloc Y).alloc (.cells #[.pointer (some ⟨f, 0, none⟩)] 127))
    (block_cell (alloc_new_at _ (alloc_size _ (alloc_size _ (alloc_size _ rfl)))) 0) (block_cell (block_alloc (block_alloc (block_alloc (block_alloc HT.out _) _) _) _) 0) (block_free (block_alloc (block_alloc (block_alloc (block_alloc HT.out _) _) _) _) 0)
  clear hg
  go_enter Tryz.func71, Tryz.ntmps71
  go_wp2
  refine wp_loop_rounds 1 ?_
  rw [rounds_succ]
  go_wp2
  go_ret
  refine ⟨rfl, ?_, ?_⟩
  · exact ext_setb (by (repeat (first | exact Below.refl _ _ | assumption | (refine bdrew ?_) | (refine bdrewN ?_ _) | (refine balloc ?_ _) | (refine bset ?_ (by first | omega | (simp; done) | (simp; omega)) _) | (refine bnext ?_ (by assumption))))) _
  · exact block_setCell (block_alloc (block_alloc (block_alloc (block_alloc HT.out _) _) _) _) _
end Go.Proofs.YtihiaopilnjonaaGreatDoor
namespace Go.Proofs.YtihiaopilnjonaaGreatDoor
set_option linter.unusedSimpArgs false
set_option linter.unusedVariables false
open Go.RowKit Go.ChangeShapes Go.WideShapes Go.ChangeAt
theorem own : ownKnob Tryz.prog.godebug = none := by kernel_rfl
end Go.Proofs.YtihiaopilnjonaaGreatDoor
namespace Go.Proofs.YtihiaopilnjonaaGreatDoor
set_option linter.unusedSimpArgs false
set_option linter.unusedVariables false
open Go.RowKit Go.ChangeShapes Go.WideShapes Go.ChangeAt
def rowD (r : URow) : DataW Unit := .agg [.lit (.int .u8 r.lo), .lit (.int .u8 r.hi), .lit (.int .i64 r.size), .lit (.int .u64 r.least)]
set_option maxRecDepth 100000 in
theorem laid_row {w : World} {fuel : Nat} {cs' : List Value} {r : URow} {q : List MemPlace} (hl : cs'.length = 4) (h : DataW.trod (fun _ => ()) Tryz.prog w 0 (fun _ => true) false fuel 338 cs' = some (rowD r, q)) : cs' = r.cells := by
  match cs', hl with
  | [v0, v1, v2, v3], _ =>
    obtain ⟨xs, m, _, e, _, hxl, hx⟩ := DataW.trod_struct Tryz.underlying338 h
    have cu : Tryz.prog.cellsOf 5 = 1 := by kernel_rfl
    have ci : Tryz.prog.cellsOf 3 = 1 := by kernel_rfl
    have cq : Tryz.prog.cellsOf 23 = 1 := by kernel_rfl
    have hxl' : xs.length = 4 := hxl
    have h0 : DataW.trod (fun _ => ()) Tryz.prog w 0 (fun _ => true) false m 5 (([v0, v1, v2, v3].drop 0).take (Tryz.prog.cellsOf 5)) = xs[0]? := hx 0 _ rfl
    have h1 : DataW.trod (fun _ => ()) Tryz.prog w 0 (fun _ => true) false m 5 (([v0, v1, v2, v3].drop 1).take (Tryz.prog.cellsOf 5)) = xs[1]? := hx 1 _ rfl
    have h2 : DataW.trod (fun _ => ()) Tryz.prog w 0 (fun _ => true) false m 3 (([v0, v1, v2, v3].drop 2).take (Tryz.prog.cellsOf 3)) = xs[2]? := hx 2 _ rfl
    have h3 : DataW.trod (fun _ => ()) Tryz.prog w 0 (fun _ => true) false m 23 (([v0, v1, v2, v3].drop 3).take (Tryz.prog.cellsOf 23)) = xs[3]? := hx 3 _ rfl
    rw [cu] at h0 h1
    rw [ci] at h2
    rw [cq] at h3
    match xs, hxl' with
    | [x0, x1, x2, x3], _ =>
      obtain ⟨n0, e0, y0, _⟩ := DataW.trod_int Tryz.underlying5 (show DataW.trod (fun _ => ()) Tryz.prog w 0 (fun _ => true) false m 5 [v0] = some x0 from h0)
      obtain ⟨n1, e1, y1, _⟩ := DataW.trod_int Tryz.underlying5 (show DataW.trod (fun _ => ()) Tryz.prog w 0 (fun _ => true) false m 5 [v1] = some x1 from h1)
      obtain ⟨n2, e2, y2, _⟩ := DataW.trod_int Tryz.underlying3 (show DataW.trod (fun _ => ()) Tryz.prog w 0 (fun _ => true) false m 3 [v2] = some x2 from h2)
      obtain ⟨n3, e3, y3, _⟩ := DataW.trod_int Tryz.underlying23 (show DataW.trod (fun _ => ()) Tryz.prog w 0 (fun _ => true) false m 23 [v3] = some x3 from h3)
      subst y0 y1 y2 y3
      simp [rowD] at e e0 e1 e2 e3
      obtain ⟨⟨a0, a1, a2, a3⟩, _⟩ := e
      subst e0 e1 e2 e3
      unfold URow.cells
      rw [a0, a1, a2, a3]
set_option maxRecDepth 100000 in
theorem laid_rows {w : World} {fuel : Nat} {cs : List Value} {l : List URow} {p : List MemPlace} (h : DataW.trod (fun _ => ()) Tryz.prog w 0 (fun _ => true) false fuel 313 cs = some (.slice (l.map rowD) [], p)) (hl : 0 < len l) :
    ∃ tb tq rc, cs = [.slice (some ⟨tb, tq, none⟩) (len l) rc] ∧ URows w (some ⟨tb, tq, none⟩) l := by
  have hC : Tryz.prog.cellsOf 338 = 4 := by kernel_rfl
  rcases Go.Deep.open_slice Tryz.underlying313 h with ⟨_, hx⟩ | ⟨a, n, c, m, q, D, Pl, hcs, _, hln, hm, hmm, hx, hi⟩
  · simp at hx
  · simp only [Prod.mk.injEq, DataW.slice.injEq] at hx
    obtain ⟨⟨hD, _⟩, _⟩ := hx
    have hn : len l = n := by have := congrArg List.length hD; simpa [len] using this
    have hnm : n ≤ m := by rw [hmm]; simp; exact hln
    have each : ∀ i, i < len l → ∃ b off, a = ⟨b, off, none⟩ ∧ URowAt w b (off + i * 4) (unth l i) := fun i hil => by
      obtain ⟨cs', hc, htr⟩ := hi i (by omega)
      rw [hC] at hc
      obtain ⟨_, hcl, hat⟩ := World.cells?_some hc
      have hDi : D i = rowD (unth l i) := by
        have h1 : (l.map rowD)[i]? = ((List.range n).map D)[i]? := by rw [hD]
        have hil' : i < l.length := hil
        rw [List.getElem?_map, List.getElem?_map, List.getElem?_eq_getElem hil', List.getElem?_range (by omega)] at h1
        rw [unth_eq l i hil]
        exact (Option.some.inj h1).symm
      rw [hDi] at htr
      have hcs' := laid_row hcl htr
      obtain ⟨b, off, spot⟩ := a
      have hat0 := hat 0 (by decide)
      rw [hcs'] at hat
      have hspot : spot = none := by
        obtain ⟨cs0, hc0, htr0⟩ := hi 0 (by omega)
        rw [hC] at hc0
        obtain ⟨_, hcl0, hat0⟩ := World.cells?_some hc0
        have h1 := hat0 0 (by decide)
        have h2 : cs0[0]? = some (cs0[0]'(by omega)) := List.getElem?_eq_getElem (by omega)
        rw [h2] at h1
        simpa [Addr.add] using World.cell?_spot h1
      subst hspot
      have key : ∀ j, j < 4 → w.cell? ⟨b, off + i * 4 + j, none⟩ = (unth l i).cells[j]? := fun j hj => by
        have h1 := hat j hj
        rw [Go.Deep.add_add] at h1
        have e : (⟨b, off, none⟩ : Addr).add (i * 4 + j) = ⟨b, off + i * 4 + j, none⟩ := by
          unfold Addr.add; split
          · rename_i h0; simp <;> omega
          · simp [Nat.add_assoc]
        rw [e] at h1; exact h1
      exact ⟨b, off, rfl, key 0 (by decide), key 1 (by decide), key 2 (by decide), key 3 (by decide)⟩
    obtain ⟨b, off, rfl, _⟩ := each 0 hl
    refine ⟨b, off, c, by rw [hn]; exact hcs, fun i hil => ?_⟩
    obtain ⟨b', off', e, hR⟩ := each i hil
    cases e
    exact ⟨b, off, rfl, hR⟩
theorem tab_of {W : World} {nm : String} {g : Nat} {l : List URow} {cs : Array Value} {fuel : Nat} {p : List MemPlace} (hl : 0 < len l) (hg : Tryz.prog.globalNamed nm = some g) (hv : W.var? Tryz.prog nm = some cs)
    (h : DataW.trod (fun _ => ()) Tryz.prog W 0 (fun _ => true) false fuel 313 cs.toList = some (.slice (l.map rowD) [], p)) : TabAt W.heap.size W g l := by
  obtain ⟨tb, tq, rc, hcs, hr⟩ := laid_rows h hl
  have hc : W.cell? ⟨g, 0, none⟩ = some (.slice (some ⟨tb, tq, none⟩) (len l) rc) := by
    have := World.var?_cell hg hv 0
    rw [Array.eq_one_of_toList hcs] at this
    simpa using this
  obtain ⟨b', off', e, hR⟩ := hr 0 hl
  cases e
  exact ⟨tb, tq, rc, lt_of_cell hc, lt_of_cell hR.c0, Nat.le_refl _, hc, hr⟩
theorem oneRow : ((List.range Tryz.prog.types.size).filter fun t => Tryz.prog.rowNamed t [101, 114, 114, 111, 114]) = [59] := by kernel_rfl
end Go.Proofs.YtihiaopilnjonaaGreatDoor
namespace Go.Proofs.YtihiaopilnjonaaGreatDoor
open Go.RowKit
set_option linter.unusedSimpArgs false
set_option linter.unusedVariables false
def hiL (n : Int) : Nat → List Int
  | 0 => []
  | k + 1 => (n / 256 ^ k % 256) :: hiL n k
theorem hiL_len (n : Int) : ∀ k, (hiL n k).length = k
  | 0 => rfl
  | k + 1 => by rw [hiL, List.length_cons, hiL_len n k]
def toB (x : Int) : UInt8 := UInt8.ofNat x.toNat
theorem nat_toB {x : Int} (h0 : 0 ≤ x) (h1 : x ≤ 255) : ((toB x).toNat : Int) = x := by
  unfold toB; rw [UInt8.toNat_ofNat']; omega
theorem ba_ext {s t : ByteArray} (h : s.data.toList = t.data.toList) : s = t := ByteArray.ext (Array.ext' h)
theorem ba_len (s : ByteArray) : s.data.toList.length = s.size := by rw [Array.length_toList]; rfl
def baL (l : List UInt8) : ByteArray := ⟨l.toArray⟩
theorem baL_list (l : List UInt8) : (baL l).data.toList = l := rfl
theorem baL_size (l : List UInt8) : (baL l).size = l.length := by show l.toArray.size = _; simp
theorem baL_app (a b : List UInt8) : baL (a ++ b) = baL a ++ baL b := ba_ext (by rw [baL_list, ByteArray.data_append, Array.toList_append, baL_list, baL_list])
structure PRow where
  below : Int
  first : Int
  size : Int
abbrev PRow.val (r : PRow) : Value := .agg #[.int .u64 r.below, .int .u8 r.first, .int .i64 r.size]
def PRow.cells (r : PRow) : List Value := [.int .u64 r.below, .int .u8 r.first, .int .i64 r.size]
theorem PRow.cells_len (r : PRow) : r.cells.length = 3 := rfl
theorem PRow.cells_one (r : PRow) : ∀ u ∈ r.cells, u.oneCell' = true := by intro u hu; simp only [PRow.cells, List.mem_cons, List.not_mem_nil, or_false] at hu; rcases hu with rfl | rfl | rfl <;> rfl
def PRow.zero : PRow := ⟨0, 0, 0⟩
def prth (l : List PRow) (i : Nat) : PRow := l.getD i PRow.zero
theorem prth_eq (l : List PRow) (i : Nat) (h : i < l.length) : prth l i = l[i] := by unfold prth; rw [List.getD_eq_getElem?_getD, List.getElem?_eq_getElem h]; rfl
structure PRowAt (w : World) (b o : Nat) (r : PRow) : Prop where
  c0 : w.cell? ⟨b, o, none⟩ = some (.int .u64 r.below)
  c1 : w.cell? ⟨b, o + 1, none⟩ = some (.int .u8 r.first)
  c2 : w.cell? ⟨b, o + 2, none⟩ = some (.int .i64 r.size)
theorem PRowAt.below {w w' : World} {b o : Nat} {r : PRow} (h : PRowAt w b o r) (hb : Below w.heap.size w w') : PRowAt w' b o r := by
  have hl := lt_of_cell h.c0
  have e : ∀ q, w'.cell? ⟨b, q, none⟩ = w.cell? ⟨b, q, none⟩ := fun q => hb.cell (p := ⟨b, q, none⟩) hl
  obtain ⟨c0, c1, c2⟩ := h
  constructor <;> (rw [e]; assumption)
def PRows (w : World) (a : Option Addr) (l : List PRow) : Prop := ∀ i, i < len l → ∃ b off, a = some ⟨b, off, none⟩ ∧ PRowAt w b (off + i * 3) (prth l i)
theorem PRows.nil (w : World) (a : Option Addr) : PRows w a [] := fun i hi => absurd hi (by simp [len])
theorem PRows.below {w w' : World} {a : Option Addr} {l : List PRow} (h : PRows w a l) (hb : Below w.heap.size w w') : PRows w' a l := fun i hi => by
  obtain ⟨b, off, rfl, hc⟩ := h i hi
  exact ⟨b, off, rfl, hc.below hb⟩
theorem PRows.drew {w w' : World} {a : Option Addr} {l : List PRow} (h : PRows w a l) (hb : Drew w w') : PRows w' a l := h.below (hb.below _)
theorem PRows.take {w : World} {a : Option Addr} {l : List PRow} (h : PRows w a l) (k : Nat) : PRows w a (l.take k) := fun i hi => by
  have hi2 : i < l.length ∧ i < k := by simp only [len, List.length_take] at hi; omega
  have hi3 : i < (l.take k).length := hi
  have e : prth (l.take k) i = prth l i := by rw [prth_eq l i hi2.1, prth_eq _ i hi3, List.getElem_take]
  rw [e]; exact h i hi2.1
theorem PRows.drop {w : World} {b off : Nat} {l : List PRow} (h : PRows w (some ⟨b, off, none⟩) l) (k : Nat) : PRows w (some ⟨b, off + k * 3, none⟩) (l.drop k) := fun i hi => by
  have hi2 : k + i < l.length := by simp only [len, List.length_drop] at hi; omega
  have hi3 : i < (l.drop k).length := hi
  have e : prth (l.drop k) i = prth l (k + i) := by rw [prth_eq l _ hi2, prth_eq _ i hi3, List.getElem_drop]
  obtain ⟨b', off', e2, hc⟩ := h (k + i) hi2
  cases e2
  exact ⟨b, _, rfl, by rw [e, show off + k * 3 + i * 3 = off + (k + i) * 3 by omega]; exact hc⟩
theorem PRows.own {w : World} {base e n : Nat} {v : Value} {l : List PRow} (h : w.ownsRow base e 3 v n (l.flatMap PRow.cells)) : ∃ a cap, v = .slice a (len l) cap ∧ PRows w a l ∧ len l ≤ cap := by
  have hn : len l = n := by have := h.1; rw [flat_length PRow.cells 3 PRow.cells_len] at this; rw [len_eq]; omega
  obtain ⟨h1, h2⟩ := h
  rcases h2 with ⟨rfl, h2⟩ | ⟨g, cap, cur, rfl, hg, hh, hc1, hc2, hc3, hc4⟩
  · obtain rfl : l = [] := List.eq_nil_of_length_eq_zero (by rw [← len_eq]; omega)
    exact ⟨none, 0, rfl, PRows.nil _ _, Nat.le_refl _⟩
  · refine ⟨some ⟨g, 0, none⟩, cap, by rw [hn], fun i hi => ⟨g, 0, rfl, ?_⟩, by omega⟩
    have hown : w.ownsRow base e 3 (.slice (some ⟨g, 0, none⟩) n cap) n (l.flatMap PRow.cells) := ⟨h1, .inr ⟨g, cap, cur, rfl, hg, hh, hc1, hc2, hc3, hc4⟩⟩
    have key : ∀ r, r < 3 → w.cell? ⟨g, 0 + i * 3 + r, none⟩ = (prth l i).cells[r]? := fun r hr => by
      have := hown.cellAt (i * 3 + r) (by rw [← hn]; omega)
      rw [Nat.zero_add, this, flat_get PRow.cells 3 PRow.cells_len l i r hi hr, prth_eq l i hi]
    exact ⟨key 0 (by decide), key 1 (by decide), key 2 (by decide)⟩
theorem PRows.block {w : World} {g : Nat} {l : List PRow} {t : TypeId} {fr : Nat × Nat} (h : w.heap[g]? = some (.cells (l.flatMap PRow.cells).toArray t fr)) : PRows w (some ⟨g, 0, none⟩) l := fun i hi => ⟨g, 0, rfl, by
  have key : ∀ r, r < 3 → w.cell? ⟨g, 0 + i * 3 + r, none⟩ = (prth l i).cells[r]? := fun r hr => by
    rw [Nat.zero_add, block_cell h, List.getElem?_toArray, flat_get PRow.cells 3 PRow.cells_len l i r hi hr, prth_eq l i hi]
  exact ⟨key 0 (by decide), key 1 (by decide), key 2 (by decide)⟩⟩
def rowB (r : PRow) (n : Int) : List UInt8 := if r.size = 0 then [toB (r.first + n)] else toB r.first :: (hiL n r.size.toNat).map toB
def rowsP (sort : Nat) : List PRow :=
  match sort with
  | 1 => [⟨256, 196, 1⟩, ⟨65536, 197, 2⟩]
  | 2 => [⟨32, 160, 0⟩, ⟨256, 217, 1⟩, ⟨65536, 218, 2⟩]
  | 3 => [⟨16, 144, 0⟩, ⟨65536, 220, 2⟩]
  | 4 => [⟨16, 128, 0⟩, ⟨65536, 222, 2⟩]
  | _ => [⟨128, 0, 0⟩, ⟨256, 204, 1⟩, ⟨65536, 205, 2⟩, ⟨4294967296, 206, 4⟩, ⟨0, 207, 8⟩]
def headP (sort : Nat) (n : Int) : List UInt8 :=
  match (rowsP sort).find? (fun r => decide (n < r.below ∨ r.below = 0)) with
  | some r => rowB r n
  | none => []
def laidP (sort : Nat) (n : Int) (t : ByteArray) : ByteArray := baL (headP sort n) ++ (if sort = 1 ∨ sort = 2 then t else ByteArray.empty)
theorem headP_len (sort : Nat) (n : Int) : (headP sort n).length ≤ 9 := by
  unfold headP
  split
  · rename_i r hr
    have hm := List.mem_of_find?_eq_some hr
    unfold rowB
    split
    · simp
    · rw [List.length_cons, List.length_map, hiL_len]
      unfold rowsP at hm
      split at hm <;> simp at hm <;> (first | (rcases hm with rfl | rfl | rfl | rfl | rfl <;> simp) | (rcases hm with rfl | rfl | rfl <;> simp) | (rcases hm with rfl | rfl <;> simp))
  · simp
end Go.Proofs.YtihiaopilnjonaaGreatDoor
namespace Go.Proofs.YtihiaopilnjonaaGreatDoor
open Go.RowKit
set_option linter.unusedSimpArgs false
set_option linter.unusedVariables false
theorem info_u8 : (Tryz.prog.info? 5).map (fun i => (i.zero, i.size, i.bytes)) = some (some (.int .u8 0), 1, 1) := by kernel_rfl
theorem one_u8 (x : Int) : ∀ u ∈ [Value.int .u8 x], u.oneCell' = true := by
  intro u hu; simp at hu; subst hu; rfl
def Not8 (x : Obj) : Prop := ∀ cs fr, x ≠ .cells cs 5 fr
theorem not8_cells {cs : Array Value} {t : TypeId} {fr : Nat × Nat} (h : t ≠ 5) : Not8 (.cells cs t fr) := fun _ _ e => by cases e; exact h rfl
structure WK (base b : Nat) (w w' : World) : Prop where
  bel : Below base w w'
  keep : ∀ k x, w.heap[k]? = some x → k ≠ b → Not8 x → w'.heap[k]? = some x
theorem WK.refl (base b : Nat) (w : World) : WK base b w w := ⟨Below.refl _ _, fun _ _ h _ _ => h⟩
theorem WK.trans {base b : Nat} {w w' w'' : World} (h : WK base b w w') (k : WK base b w' w'') : WK base b w w'' := ⟨h.bel.trans k.bel, fun j x hx hj hn => k.keep j x (h.keep j x hx hj hn) hj hn⟩
theorem WK.of_below {base b : Nat} {w w' : World} (h : Below w.heap.size w w') (hb : base ≤ w.heap.size) : WK base b w w' := ⟨h.mono hb, fun k x hx _ _ => (h.block k (lt_of_block hx)).trans hx⟩
theorem WK.next {base b : Nat} {w w1 w2 : World} (h : WK base b w w1) (k : Below w1.heap.size w1 w2) (hb : base ≤ w.heap.size) : WK base b w w2 := h.trans (WK.of_below k (Nat.le_trans hb h.bel.size))
def WrB (w : World) (b base : Nat) (s : ByteArray) : Prop := base ≤ b ∧ ∃ v, w.heap[b]? = some (.cells #[v] 265 (0, 0)) ∧ w.ownsRow base 5 1 v s.size (Lib.strCells s)
theorem WrB.below {w w' : World} {b base : Nat} {s : ByteArray} (h : WrB w b base s) (hb : Below w.heap.size w w') : WrB w' b base s := by
  obtain ⟨h0, v, h1, h2⟩ := h
  exact ⟨h0, v, (hb.block _ (lt_of_block h1)).trans h1, own_below h2 hb⟩
theorem WrB.lt {w : World} {b base : Nat} {s : ByteArray} (h : WrB w b base s) : b < w.heap.size := by
  obtain ⟨h0, v, h1, h2⟩ := h; exact lt_of_block h1
theorem own_not8 {w : World} {base e n k : Nat} {v : Value} {xs : List Value} {x : Obj} (h : w.ownsRow base 5 e v n xs) (hk : w.heap[k]? = some x) (hx : Not8 x) : some k ≠ v.ownBlock := by
  rcases h.2 with ⟨rfl, _⟩ | ⟨g, cap, cur, rfl, _, hg, _⟩
  · intro e; cases e
  · intro e
    obtain rfl : k = g := by simpa [Value.ownBlock] using e
    rw [hg] at hk
    cases hk
    exact hx _ _ rfl
theorem wr_step {w w1 : World} {b base n : Nat} {v v' : Value} {xs ys : List Value} {s' : ByteArray} (hb : base ≤ b) (h1 : w.heap[b]? = some (.cells #[v] 265 (0, 0))) (hown : w.ownsRow base 5 1 v n xs) (hE : ExtB v.ownBlock w.drew w1)
    (hown' : w1.ownsRow base 5 1 v' s'.size ys) (hy : ys = Lib.strCells s') :
    w1.cell? ⟨b, 0, none⟩ = some v ∧ w1.frozen? ⟨b, 0, none⟩ = false ∧ WrB (w1.setCell ⟨b, 0, none⟩ v') b base s' ∧ WK base b w (w1.setCell ⟨b, 0, none⟩ v') := by
  have hn8 : Not8 (.cells #[v] 265 (0, 0)) := not8_cells (by decide)
  have hlt := lt_of_block h1
  have hb1 : w1.heap[b]? = some (.cells #[v] 265 (0, 0)) := by
    rw [hE.block b hlt (own_not8 hown h1 hn8)]; exact h1
  have hne := own_not8 hown' hb1 hn8
  refine ⟨block_cell hb1 0, block_free hb1 0, ⟨hb, v', block_setCell hb1 v', ?_⟩, ⟨?_, fun k x hx hk hnx => ?_⟩⟩
  · subst hy
    refine hown'.kept ⟨rfl, rfl, rfl, (by simp [World.setCell]), fun k _ hk => Below.heap_setCell _ _ _ k (fun e => hk (by rw [e]))⟩ (row := some b) (.inr (fun e => hne e.symm))
  · refine Below.setCell (Below.grown ((Below.refl base w).drew) hE (by show base ≤ w.heap.size; omega) (fun k hk => (hown.lt k hk).1)) hb v'
  · rw [Below.heap_setCell _ _ _ _ hk, hE.block k (lt_of_block hx) (own_not8 hown hx hnx)]; exact hx
theorem own_slice {w : World} {base e n : Nat} {v : Value} {xs : List Value} (h : w.ownsRow base e 1 v (n + 1) xs) : ∃ g cap, v = .slice (some ⟨g, 0, none⟩) (n + 1) cap := by
  rcases h.2 with ⟨_, h2⟩ | ⟨g, cap, cur, h3, _⟩
  · omega
  · exact ⟨g, cap, h3⟩
theorem strCells_app (s t : ByteArray) : Lib.strCells (s ++ t) = Lib.strCells s ++ Lib.strCells t := by
  unfold Lib.strCells; rw [ByteArray.data_append, Array.toList_append, List.map_append]
theorem strCells_one {y : Int} (h0 : 0 ≤ y) (h1 : y ≤ 255) : Lib.strCells (baL [toB y]) = [.int .u8 y] := by
  unfold Lib.strCells; rw [baL_list, List.map_cons, List.map_nil, nat_toB h0 h1]
theorem baL_one (s : ByteArray) (x : UInt8) : (s ++ baL [x]).size = s.size + 1 := by rw [ByteArray.size_append, baL_size]; rfl
end Go.Proofs.YtihiaopilnjonaaGreatDoor
