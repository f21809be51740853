/- Parts of the proof, one behind the other. -/
import Derived.Test.YtpobhbdomldecaaGreatDoorRows
import Derived.WalkKit
import Derived.WalkSpells
import Derived.WalkLawsBesides
import Derived.Lib.Hide
import Derived.Deep.Draws
import Derived.Shelf.Spec.BitsCarry
import Derived.Deep.QuietTactic
import Derived.BigQuiet
import Derived.StillTailTactics
import Derived.Deep.LoopGhost
import Derived.Deep.RegionWith
import Derived.Deep.DeepCutAuto
import Derived.Deep.AppendLies
import Derived.Laws.OwnMore
import Derived.Deep.CutBlock
import Derived.StillTail
import Derived.NoCompiler
import Derived.IntWalk
import Derived.WalkMore
import Derived.Lib.ConvBytes
import Derived.Lib.Strings
import Derived.Defers
import Derived.Recover
import Derived.LaidEql
import Derived.Stop.Asserts
import Derived.RowKitTokens
import Derived.Lib.AppendStr
import Derived.Laws.BytesArg
import Derived.Shelf.Strings.Builder1
import Derived.Shelf.Strings.Builder2
import Derived.Shelf.Small.Bits
import Derived.Shelf.Strings.BuilderF
import Derived.Shelf.Strconv.Itoa0
import Derived.Shelf.Strings.Prefix
import Derived.Shelf.Bits.Mul64
import Derived.Shelf.Strings.Repeat
import Derived.Test.YtpobhbdomldecaaGreatDoorProg
import Derived.Lib.SliceRun
import Derived.Laws.EntriesVeiled
import Derived.Laws.Strings
import Derived.Maps.RangeRun
import Derived.Maps.RangeWalk
namespace Go.Proofs.YtpobhbdomldecaaGreatDoor
set_option linter.unusedSimpArgs false
set_option linter.unusedVariables false
open Go.RowKit
def len {α : Type} (l : List α) : Nat := l.length
theorem len_eq {α : Type} (l : List α) : len l = l.length := rfl
theorem take_len {α : Type} (l : List α) : l.take (len l) = l := List.take_length
def nth (l : List Int) (i : Nat) : Int := l.getD i 0
theorem nth_eq (l : List Int) (i : Nat) (h : i < l.length) : nth l i = l[i] := by
  unfold nth; rw [List.getD_eq_getElem?_getD, List.getElem?_eq_getElem h]; rfl
theorem lt_of_cell {w : World} {b o : Nat} {v : Value} (h : w.cell? ⟨b, o, none⟩ = some v) : b < w.heap.size := by
  unfold World.cell? at h
  rcases Nat.lt_or_ge b w.heap.size with h' | h'
  · exact h'
  · simp [Array.getElem?_eq_none h'] at h
theorem ret_bool {a b : Bool} (h : a = b) : Ending.returned (.bool a) = .returned (.bool b) := by rw [h]
theorem ret_int {k : IntKind} {a b : Int} (h : a = b) : Ending.returned (.int k a) = .returned (.int k b) := by rw [h]
theorem below_drewN {B : Nat} {a w : World} (h : Below B a w) (n : Nat) : Below B a (w.drewN n) := ⟨h.os, h.tape, h.output, h.size, h.block⟩
theorem block_cell {w : World} {b : Nat} {cs : Array Value} {t : TypeId} {fr : Nat × Nat} (h : w.heap[b]? = some (.cells cs t fr)) (o : Nat) : w.cell? ⟨b, o, none⟩ = cs[o]? := by
  unfold World.cell?; rw [h]; rfl
theorem block_free {w : World} {b : Nat} {cs : Array Value} {t : TypeId} (h : w.heap[b]? = some (.cells cs t (0, 0))) (o : Nat) : w.frozen? ⟨b, o, none⟩ = false := by
  unfold World.frozen?; rw [h]; simp
theorem block_alloc {w : World} {b : Nat} {x : Obj} (h : w.heap[b]? = some x) (o : Obj) : (w.alloc o).heap[b]? = some x := by
  rw [Below.heap_alloc _ _ _ (lt_of_block h)]; exact h
theorem alloc_new_at {w : World} {n : Nat} (o : Obj) (h : w.heap.size = n) : (w.alloc o).heap[n]? = some o := by
  subst h; exact heap_alloc_new w o
theorem alloc_size {w : World} {n : Nat} (o : Obj) (h : w.heap.size = n) : (w.alloc o).heap.size = n + 1 := by simp; exact h
theorem block_setCell {w : World} {b o : Nat} {cs : Array Value} {t : TypeId} {fr : Nat × Nat} (h : w.heap[b]? = some (.cells cs t fr)) (v : Value) :
    (w.setCell ⟨b, o, none⟩ v).heap[b]? = some (.cells (cs.setIfInBounds o v) t fr) := by
  have hlt := lt_of_block h
  have h' : w.heap[b] = .cells cs t fr := by simpa [Array.getElem?_eq_getElem hlt] using h
  show (w.heap.modify b _)[b]? = _
  rw [Array.getElem?_eq_getElem (by simpa using hlt), Array.getElem_modify_self, h']
  rfl
theorem block_setCell_ne {w : World} {b : Nat} {x : Obj} (h : w.heap[b]? = some x) {p : Addr} (hp : b ≠ p.block) (v : Value) : (w.setCell p v).heap[b]? = some x := by
  rw [Below.heap_setCell _ _ _ _ hp]; exact h
theorem flat_get {α β : Type} (f : α → List β) (k : Nat) (hf : ∀ x, (f x).length = k) : ∀ (l : List α) (i r : Nat) (hi : i < l.length), r < k → (l.flatMap f)[i * k + r]? = (f l[i])[r]?
  | x :: l, 0, r, _, hr => by
    simp only [List.flatMap_cons, Nat.zero_mul, Nat.zero_add, List.getElem_cons_zero]
    rw [List.getElem?_append_left (by rw [hf]; exact hr)]
  | x :: l, i + 1, r, hi, hr => by
    simp only [List.flatMap_cons, List.getElem_cons_succ]
    rw [List.getElem?_append_right (by rw [hf, Nat.add_mul]; omega), hf, show (i + 1) * k + r - k = i * k + r by rw [Nat.add_mul]; omega]
    exact flat_get f k hf l i r (by simpa using hi) hr
theorem flat_length {α β : Type} (f : α → List β) (k : Nat) (hf : ∀ x, (f x).length = k) : ∀ (l : List α), (l.flatMap f).length = l.length * k
  | [] => by simp
  | x :: l => by rw [List.flatMap_cons, List.length_append, hf, flat_length f k hf l, List.length_cons, Nat.add_mul]; omega
def U64s (w : World) (a : Option Addr) (l : List Int) : Prop :=
  ∀ i, i < len l → ∃ b off, a = some ⟨b, off, none⟩ ∧ w.cell? ⟨b, off + i, none⟩ = some (.int .u64 (nth l i))
theorem U64s.nil (w : World) (a : Option Addr) : U64s w a [] := fun i h => by simp [len] at h
theorem U64s.below {w w' : World} {a : Option Addr} {l : List Int} (h : U64s w a l) (hb : Below w.heap.size w w') : U64s w' a l := fun i hi => by
  obtain ⟨b, off, rfl, hc⟩ := h i hi
  exact ⟨b, off, rfl, by rw [hb.cell (p := ⟨b, off + i, none⟩) (lt_of_cell hc)]; exact hc⟩
theorem bnext {w b c : World} (h : Below w.heap.size w b) (k : Below b.heap.size b c) : Below w.heap.size w c := h.trans (k.mono h.size)
theorem balloc {w b : World} (h : Below w.heap.size w b) (o : Obj) : Below w.heap.size w (b.alloc o) := h.alloc h.size o
theorem bdrew {w b : World} (h : Below w.heap.size w b) : Below w.heap.size w b.drew := h.drew
theorem bdrewN {w b : World} (h : Below w.heap.size w b) (n : Nat) : Below w.heap.size w (b.drewN n) := below_drewN h n
theorem bset {w b : World} (h : Below w.heap.size w b) {p : Addr} (hp : w.heap.size ≤ p.block) (u : Value) : Below w.heap.size w (b.setCell p u) := h.setCell hp u
def Drew (w w' : World) : Prop := ∃ n, w' = w.drewN n
theorem Drew.refl (w : World) : Drew w w := ⟨0, rfl⟩
theorem Drew.drewN {w w' : World} (h : Drew w w') (n : Nat) : Drew w (w'.drewN n) := by
  obtain ⟨m, rfl⟩ := h; exact ⟨m + n, by rw [World.drewN_drewN]⟩
theorem Drew.trans {a b c : World} (h : Drew a b) (k : Drew b c) : Drew a c := by obtain ⟨m, rfl⟩ := k; exact h.drewN m
theorem Drew.below {w w' : World} (h : Drew w w') (B : Nat) : Below B w w' := by obtain ⟨m, rfl⟩ := h; exact below_drewN (Below.refl _ _) m
theorem U64s.drew {w w' : World} {a : Option Addr} {l : List Int} (h : U64s w a l) (hb : Drew w w') : U64s w' a l := h.below (hb.below _)
end Go.Proofs.YtpobhbdomldecaaGreatDoor
namespace Go.Proofs.YtpobhbdomldecaaGreatDoor
set_option linter.unusedSimpArgs false
set_option linter.unusedVariables false
open Go.RowKit
theorem info_u64 : (Tryz.prog.info? 23).map (fun i => (i.zero, i.size, i.bytes)) = some (some (.int .u64 0), 1, 8) := by kernel_rfl
theorem grownBy_below {w b c : World} {row : Option Nat} (h : Below w.heap.size w b) (hg : b.grownBy c row) (hr : ∀ k, row = some k → w.heap.size ≤ k) : Below w.heap.size w c :=
  h.grown hg h.size hr
theorem below_grown {w w' : World} (h : Below w.heap.size w w') : w.grownBy w' none := ⟨h.os, h.tape, h.output, h.size, fun i hi _ => h.block i hi⟩
theorem own_below {w w' : World} {base e size n : Nat} {v : Value} {xs : List Value} (h : w.ownsRow base e size v n xs) (hb : Below w.heap.size w w') : w'.ownsRow base e size v n xs :=
  h.kept (below_grown hb) (by cases v.ownBlock <;> simp)
def U8s (w : World) (a : Option Addr) (l : List Int) : Prop :=
  ∀ i, i < len l → ∃ b off, a = some ⟨b, off, none⟩ ∧ w.cell? ⟨b, off + i, none⟩ = some (.int .u8 (nth l i))
theorem U8s.below {w w' : World} {a : Option Addr} {l : List Int} (h : U8s w a l) (hb : Below w.heap.size w w') : U8s w' a l := fun i hi => by
  obtain ⟨b, off, rfl, hc⟩ := h i hi
  exact ⟨b, off, rfl, by rw [hb.cell (p := ⟨b, off + i, none⟩) (lt_of_cell hc)]; exact hc⟩
end Go.Proofs.YtpobhbdomldecaaGreatDoor
namespace Go.Proofs.YtpobhbdomldecaaGreatDoor
set_option linter.unusedSimpArgs false
set_option linter.unusedVariables false
open Go.RowKit
def Ext (w w' : World) : Prop := Below w.heap.size w w'
theorem Ext_refl : ∀ w, Ext w w := fun _ => Below.refl _ _
theorem Ext_trans : ∀ a b c, Ext a b → Ext b c → Ext a c := fun _ _ _ h k => bnext h k
theorem ext_block {w w1 : World} (h : Ext w w1) {b : Nat} {x : Obj} (hc : w.heap[b]? = some x) : w1.heap[b]? = some x := (h.block b (lt_of_block hc)).trans hc
def ExtB (row : Option Nat) (w w' : World) : Prop := w.grownBy w' row
theorem ExtB_refl (row : Option Nat) : ∀ w, ExtB row w w := fun _ => ⟨rfl, rfl, rfl, Nat.le_refl _, fun _ _ _ => rfl⟩
theorem ExtB_trans (row : Option Nat) : ∀ a b c, ExtB row a b → ExtB row b c → ExtB row a c := fun _ _ _ h k =>
  ⟨k.os.trans h.os, k.tape.trans h.tape, k.output.trans h.output, Nat.le_trans h.size k.size, fun i hi hn => (k.block i (Nat.lt_of_lt_of_le hi h.size) hn).trans (h.block i hi hn)⟩
theorem extB_block {row : Option Nat} {w w1 : World} (h : ExtB row w w1) {b : Nat} (hn : some b ≠ row) {x : Obj} (hc : w.heap[b]? = some x) : w1.heap[b]? = some x := (h.block b (lt_of_block hc) hn).trans hc
theorem extB_cell {row : Option Nat} {w w1 : World} (h : ExtB row w.drew w1) {b o : Nat} (hn : some b ≠ row) {v : Value} (hc : w.cell? ⟨b, o, none⟩ = some v) : w1.cell? ⟨b, o, none⟩ = some v := by
  have e : w1.cell? ⟨b, o, none⟩ = w.cell? ⟨b, o, none⟩ := World.cell?_of_block (w := w) (h.block b (lt_of_cell hc) hn)
  rw [e]; exact hc
theorem extB_alloc (row : Option Nat) (w : World) (o : Obj) : ExtB row w (w.alloc o) := World.grownBy_alloc w o row
theorem wp_of_run {P : Program} {o : Oper} {a : Act} {w w' : World} {v : Value} {K : Act → World → Prop} {Q : Exit → Act → World → Prop} (h : (execOp a.eval o).run P w = .ok (.value v) w') (hK : K (a.put o.dst v) w') : o.wp P a w K Q := by
  unfold Oper.wp; rw [h]; exact hK
def Es (sp : Nat) (vo : Option Nat) (j : Nat) (w w' : World) : Prop := if j = sp then ExtB vo w w' else Ext w w'
theorem ext_extB {vo : Option Nat} {w w' : World} (h : Ext w w') : ExtB vo w w' := ⟨h.os, h.tape, h.output, h.size, fun i hi _ => h.block i hi⟩
theorem es_extB {sp j : Nat} {vo : Option Nat} {w w' : World} (h : Es sp vo j w w') : ExtB vo w w' := by
  unfold Es at h; split at h
  · exact h
  · exact ext_extB h
theorem es_of_ext {sp j : Nat} {vo : Option Nat} {w w' : World} (h : Ext w w') : Es sp vo j w w' := by
  unfold Es; split
  · exact ext_extB h
  · exact h
theorem es_sp {sp : Nat} {vo : Option Nat} {w w' : World} (h : ExtB vo w w') : Es sp vo sp w w' := by unfold Es; rw [if_pos rfl]; exact h
def slotOf (o : Oper) (a : Act) : Value := match o.dst with | some d => a.eval (.tmp d) | none => undef
def valOf (o : Oper) (v : Value) : Value := match o.dst with | some _ => v | none => undef
def dstsOf (ops : List Oper) : List Nat := ops.filterMap (·.dst)
def regOk (ops : List Oper) (n : Nat) : Bool :=
  (ops.zipIdx.all fun (o, i) => o.after.all fun e => !Region.binds .any e || decide (e.on < i)) && decide (dstsOf ops).Nodup && (dstsOf ops).all (fun d => decide (d < n))
section
variable (P : Program) (ops : List Oper) (a0 : Act) (w0 : World) (sp : Nat) (vo : Option Nat) (Φ : Nat → Value → World → Prop) (Q : Exit → Act → World → Prop)
def Outer (hd : Nat) (a : Act) : Prop := a.defers = a0.defers ∧ a.tmps.size = a0.tmps.size ∧ ∀ t, (dstsOf (ops.take hd)).contains t = false → a.eval (.tmp t) = a0.eval (.tmp t)
def Deps (a : Act) (w : World) : List Edge → Prop
  | [] => True
  | e :: r => (Region.binds .any e = true → ∀ o, ops[e.on]? = some o → Φ e.on (slotOf o a) w) ∧ Deps a w r
def StepAt (hd : Nat) (i : Nat) (o : Oper) : Prop := ∀ a w, ExtB vo w0 w → (i = sp → Ext w0 w) → Outer ops a0 hd a → Deps ops Φ a w o.after.toList →
  if Region.wanted o (yielded ops.toArray a.tmps) then o.wp P a w (fun a' w' => ∃ v, a' = a.put o.dst v ∧ Es sp vo i w w' ∧ Φ i (valOf o v) w') Q else Φ i undef w
structure RInv (n : Nat) (listed : Array Bool) (a : Act) (w : World) : Prop where
  head : HeadInv .any ops.toArray n listed
  ext : ExtB vo w0 w
  ext0 : listed.getD sp true = false → Ext w0 w
  outer : Outer ops a0 n a
  done : ∀ (i : Nat) o, ops[i]? = some o → listed.getD i true = true → Φ i (slotOf o a) w
variable {P ops a0 w0 sp vo Φ Q}
theorem deps_of {a : Act} {w : World} : ∀ {l : List Edge}, (∀ e ∈ l, Region.binds .any e = true → ∀ o, ops[e.on]? = some o → Φ e.on (slotOf o a) w) → Deps ops Φ a w l
  | [], _ => trivial
  | e :: r, h => ⟨h e (List.mem_cons_self ..), deps_of fun e' he' => h e' (List.mem_cons_of_mem _ he')⟩
theorem dst_two {ops : List Oper} (hn : (dstsOf ops).Nodup) {i j : Nat} (hij : i ≠ j) {oi oj : Oper} {d : Nat} (hi : ops[i]? = some oi) (hj : ops[j]? = some oj) (h1 : oi.dst = some d) (h2 : oj.dst = some d) : False := by
  induction ops generalizing i j with
  | nil => simp at hi
  | cons o r ih =>
    unfold dstsOf at hn
    rw [List.filterMap_cons] at hn
    have hr : (dstsOf r).Nodup := by
      unfold dstsOf
      cases ho : o.dst with
      | none => rw [ho] at hn; exact hn
      | some d' => rw [ho] at hn; exact (List.nodup_cons.1 hn).2
    have head : ∀ (k : Nat) ok, r[k]? = some ok → o.dst = some d → ok.dst = some d → False := fun k ok hk ho hok => by
      rw [ho] at hn
      exact (List.nodup_cons.1 hn).1 (List.mem_filterMap.2 ⟨ok, List.mem_of_getElem? hk, hok⟩)
    cases i with
    | zero =>
      cases j with
      | zero => exact hij rfl
      | succ j =>
        simp at hi hj; subst hi
        exact head j oj hj h1 h2
    | succ i =>
      cases j with
      | zero =>
        simp at hi hj; subst hj
        exact head i oi hi h2 h1
      | succ j => exact ih hr (fun e => hij (congrArg (· + 1) e)) (by simpa using hi) (by simpa using hj)
theorem eval_put_ne {a : Act} {d t : Nat} {v : Value} (h : t ≠ d) : (a.put (some d) v).eval (.tmp t) = a.eval (.tmp t) := by
  show (a.tmps.setIfInBounds d v).getD t undef = a.tmps.getD t undef
  simp [Array.getD_eq_getD_getElem?, Array.getElem?_setIfInBounds_ne (Ne.symm h)]
theorem eval_put_same {a : Act} {d : Nat} {v : Value} (h : d < a.tmps.size) : (a.put (some d) v).eval (.tmp d) = v := by
  show (a.tmps.setIfInBounds d v).getD d undef = v
  simp [Array.getD_eq_getD_getElem?, h]
theorem all_of_ready_nil (hB : regOk ops a0.tmps.size = true) {listed : Array Bool} (hs : listed.size = ops.length) (hr : Region.ready .any ops.toArray listed = []) :
    ∀ i, i < ops.length → listed.getD i true = true := by
  intro i
  induction i using Nat.strongRecOn with
  | _ i ih =>
    intro hi
    cases h : listed.getD i true with
    | true => rfl
    | false =>
      exfalso
      have hm : i ∈ Region.ready .any ops.toArray listed := by
        refine mem_ready.2 ⟨h, ops[i], by simp [hi], fun e he hb => ?_⟩
        have h1 : (ops.zipIdx.all fun (o, i) => o.after.all fun e => !Region.binds .any e || decide (e.on < i)) = true := by
          unfold regOk at hB; simp only [Bool.and_eq_true] at hB; exact hB.1.1
        have h2 := List.all_eq_true.1 h1 (ops[i], i) (by rw [List.mem_zipIdx_iff_getElem?]; simp [hi])
        have h3 := Array.all_eq_true'.1 h2 e he
        simp only [hb, Bool.not_true, Bool.false_or, decide_eq_true_eq] at h3
        have h4 := ih e.on h3 (by omega)
        have h5 : e.on < listed.size := by omega
        simp [h5] at h4 ⊢; exact h4
      rw [hr] at hm; cases hm
def AllDone (ops : List Oper) (Φ : Nat → Value → World → Prop) (a : Act) (w : World) : Nat → Nat → Prop
  | _, 0 => True
  | i, n + 1 => (∀ o, ops[i]? = some o → Φ i (slotOf o a) w) ∧ AllDone ops Φ a w (i + 1) n
theorem allDone_of {a : Act} {w : World} : ∀ (n i : Nat), (∀ j, i ≤ j → j < i + n → ∀ o, ops[j]? = some o → Φ j (slotOf o a) w) → AllDone ops Φ a w i n
  | 0, _, _ => trivial
  | n + 1, i, h => ⟨h i (Nat.le_refl _) (by omega), allDone_of n (i + 1) fun j h1 h2 => h j (by omega) (by omega)⟩
theorem RInv.next {n : Nat} (hB : regOk ops a0.tmps.size = true)
    (hmono : ∀ i j v w w', i ≠ j → ExtB vo w0 w → Es sp vo j w w' → Φ i v w → Φ i v w') {listed : Array Bool} {a : Act} {w : World} (inv : RInv ops a0 w0 sp vo Φ n listed a w)
    {i : Nat} {o : Oper} (hi : i ∈ Region.ready .any ops.toArray listed) (hin : i < n) (ho' : ops[i]? = some o) {v : Value} {w' : World} (he : Es sp vo i w w') (hv : Φ i (valOf o v) w') :
    RInv ops a0 w0 sp vo Φ n (listed.setIfInBounds i true) (a.put o.dst v) w' := by
  have hnd : (dstsOf ops).Nodup := by unfold regOk at hB; simp only [Bool.and_eq_true, decide_eq_true_eq] at hB; exact hB.1.2
  have hdl : ∀ d ∈ dstsOf ops, d < a0.tmps.size := by
    unfold regOk at hB; simp only [Bool.and_eq_true] at hB
    intro d hd; simpa using List.all_eq_true.1 hB.2 d hd
  refine ⟨inv.head.set hi hin, ExtB_trans _ _ _ _ inv.ext (es_extB he), fun hl => ?_, ?_, ?_⟩
  · by_cases his : i = sp
    · exfalso
      subst his
      obtain ⟨hun, o', ho, _⟩ := mem_ready.1 hi
      have hil : i < listed.size := by rw [inv.head.size]; exact (Array.getElem?_eq_some_iff.1 ho).1
      simp [hil] at hl
    · rw [getD_set_ne true his] at hl
      unfold Es at he; rw [if_neg his] at he
      exact Ext_trans _ _ _ (inv.ext0 hl) he
  · obtain ⟨h1, h2, h3⟩ := inv.outer
    cases hd : o.dst with
    | none => exact ⟨h1, h2, h3⟩
    | some d =>
      refine ⟨h1, by simp [Act.put, h2], fun t ht => ?_⟩
      have hmem : d ∈ dstsOf (ops.take n) := List.mem_filterMap.2 ⟨o, List.mem_of_getElem? (i := i) (by rw [List.getElem?_take, if_pos hin]; exact ho'), hd⟩
      rw [eval_put_ne (by rintro rfl; simp at ht; exact ht hmem)]; exact h3 t ht
  · intro j oj hoj hl
    by_cases hij : j = i
    · subst hij
      have : oj = o := Option.some.inj (hoj.symm.trans ho')
      subst this
      unfold slotOf
      unfold valOf at hv
      cases hd : oj.dst with
      | none => simpa [hd] using hv
      | some d =>
        simp only [hd] at hv
        have hmem : d ∈ dstsOf ops := List.mem_filterMap.2 ⟨oj, List.mem_of_getElem? ho', hd⟩
        simp only
        rw [eval_put_same (by rw [inv.outer.2.1]; exact hdl d hmem)]; exact hv
    · rw [getD_set_ne true (Ne.symm hij)] at hl
      have h1 := hmono j i _ w w' hij inv.ext he (inv.done j oj hoj hl)
      unfold slotOf at h1 ⊢
      cases hdj : oj.dst with
      | none => first | exact h1 | simpa [hdj] using h1
      | some d =>
        try simp only [hdj] at h1 ⊢
        cases hdo : o.dst with
        | none => exact h1
        | some d' =>
          have hne : d ≠ d' := by
            rintro rfl
            exact dst_two hnd (Ne.symm hij) ho' hoj hdo hdj
          rw [eval_put_ne hne]; exact h1
theorem head_count {listed : Array Bool} {i : Nat} (hil : i < listed.size) (hun : listed.getD i true = false) : ∀ L : List Nat, L.Nodup → i ∈ L →
    (L.filter (fun j => !(listed.setIfInBounds i true).getD j true)).length + 1 = (L.filter (fun j => !listed.getD j true)).length := by
  intro L
  induction L with
  | nil => intro _ h; cases h
  | cons x L ihL =>
    intro hnd hm
    rw [List.nodup_cons] at hnd
    simp only [List.filter_cons]
    by_cases hx : x = i
    · subst hx
      have e1 : (listed.setIfInBounds x true).getD x true = true := by simp [hil]
      have e2 : L.filter (fun j => !(listed.setIfInBounds x true).getD j true) = L.filter (fun j => !listed.getD j true) := by
        apply List.filter_congr
        intro y hy
        rw [getD_set_ne true (by rintro rfl; exact hnd.1 hy)]
      simp only [e1, hun, e2]; simp
    · have hm' : i ∈ L := by rcases List.mem_cons.1 hm with h | h
                             · exact absurd h.symm hx
                             · exact h
      have h2 := ihL hnd.2 hm'
      rw [getD_set_ne true (Ne.symm hx)]
      split <;> (try simp only [List.length_cons]) <;> omega
def headDone (n N : Nat) : Array Bool := ((List.range N).map (fun i => decide (i < n))).toArray
def regTail (ops : List Oper) (n : Nat) : Bool :=
  decide (n < ops.length) && Region.sinkB .any ops.toArray n && Region.chainB .any ops.toArray n && Region.seqB .any ops.toArray (ops.length - n) n (headDone n ops.length)
theorem wpAny_head {n g : Nat} (hB : regOk ops a0.tmps.size = true)
    (hmono : ∀ i j v w w', i ≠ j → ExtB vo w0 w → Es sp vo j w w' → Φ i v w → Φ i v w') (hnN : n ≤ ops.length)
    (hstep : ∀ (i : Nat) o, i < n → ops[i]? = some o → StepAt P ops a0 w0 sp vo Φ Q n i o)
    (hlate : ∀ listed, HeadInv .any ops.toArray n listed → (∃ i, i < n ∧ listed.getD i true = false) → Region.ready .any ops.toArray listed ≠ [] ∧ ∀ t ∈ Region.ready .any ops.toArray listed, t < n)
    (hend : ∀ listed a w, RInv ops a0 w0 sp vo Φ n listed a w → (∀ i, i < n → listed.getD i true = true) → wpAny P .any ops.toArray Q g listed a w) :
    ∀ (fuel : Nat) (listed : Array Bool) (a : Act) (w : World), ((List.range n).filter (fun i => !listed.getD i true)).length = fuel → RInv ops a0 w0 sp vo Φ n listed a w →
      wpAny P .any ops.toArray Q (fuel + g) listed a w := by
  intro fuel
  induction fuel with
  | zero =>
    intro listed a w hf inv
    rw [Nat.zero_add]
    refine hend listed a w inv fun i hi => ?_
    cases h : listed.getD i true with
    | true => rfl
    | false =>
      have : i ∈ (List.range n).filter (fun i => !listed.getD i true) := List.mem_filter.2 ⟨List.mem_range.2 hi, by rw [h]; rfl⟩
      rw [List.eq_nil_of_length_eq_zero hf] at this; cases this
  | succ fuel ih =>
    intro listed a w hf inv
    rw [show fuel + 1 + g = (fuel + g) + 1 by omega]
    have hex : ∃ i, i < n ∧ listed.getD i true = false := by
      cases hl : (List.range n).filter (fun i => !listed.getD i true) with
      | nil => rw [hl] at hf; cases hf
      | cons x L =>
        have : x ∈ (List.range n).filter (fun i => !listed.getD i true) := by rw [hl]; exact List.mem_cons_self ..
        obtain ⟨h1, h2⟩ := List.mem_filter.1 this
        exact ⟨x, List.mem_range.1 h1, by simpa using h2⟩
    obtain ⟨hne, hlt⟩ := hlate listed inv.head hex
    refine ⟨fun hr => absurd hr hne, fun i hi => ?_⟩
    have hin := hlt i hi
    obtain ⟨hun, o, ho, hall⟩ := mem_ready.1 hi
    have ho' : ops[i]? = some o := by simpa using ho
    have hls : listed.size = ops.length := by rw [inv.head.size]; simp
    have hdep : Deps ops Φ a w o.after.toList := deps_of fun e he hb oj hoj => by
      have h1 := hall e (by simpa using he) hb
      refine inv.done e.on oj hoj ?_
      have h2 : e.on < listed.size := by
        rcases Nat.lt_or_ge e.on listed.size with h | h
        · exact h
        · simp [Array.getElem?_eq_none h] at h1
      simp [h2] at h1 ⊢; exact h1
    have hst := hstep i o hin ho' a w inv.ext (fun e => inv.ext0 (by rw [← e]; exact hun)) inv.outer hdep
    have next : ∀ v w', Es sp vo i w w' → Φ i (valOf o v) w' → wpAny P .any ops.toArray Q (fuel + g) (listed.setIfInBounds i true) (a.put o.dst v) w' := by
      intro v w' he hv
      refine ih _ _ _ ?_ (inv.next hB hmono hi hin ho' he hv)
      have := head_count (listed := listed) (i := i) (by omega) hun _ List.nodup_range (List.mem_range.2 hin)
      omega
    unfold wpOp
    rw [ho]
    dsimp only
    by_cases hw : Region.wanted o (yielded ops.toArray a.tmps) = true
    · rw [if_pos hw] at hst ⊢
      left
      refine Oper.wp_mono (fun a' w' h => ?_) hst
      obtain ⟨v, rfl, he, hv⟩ := h
      exact next v w' he hv
    · rw [if_neg hw] at hst ⊢
      refine next undef w (es_of_ext (Ext_refl w)) ?_
      have e : valOf o undef = undef := by unfold valOf; cases o.dst <;> rfl
      rw [e]; exact hst
end
section
variable {P : Program} {Q : Exit → Act → World → Prop} {a : Act} {w : World} {l : List Oper} {vo : Option Nat} {Φ : Nat → Value → World → Prop}
theorem rinv_start {n sp : Nat} (hn : n ≤ l.length) : RInv l a w.drew sp vo Φ n (Array.replicate l.length false) a w.drew :=
  ⟨⟨by simp, fun j oj _ hl => (by rw [getD_replicate_false] at hl; cases hl), fun t _ ht => getD_in (by simpa using ht) (getD_replicate_false _ _)⟩, ExtB_refl _ _, fun _ => Ext_refl _, ⟨rfl, rfl, fun _ _ => rfl⟩,
    fun i o ho hl => (by
      have hi := (List.getElem?_eq_some_iff.1 ho).1
      rw [getD_in (by simpa using hi) (getD_replicate_false _ _)] at hl; cases hl)⟩
theorem start_count (n N : Nat) (h : n ≤ N) : ((List.range n).filter (fun i => !(Array.replicate N false).getD i true)).length = n := by
  have e : (List.range n).filter (fun i => !(Array.replicate N false).getD i true) = List.range n := by
    rw [List.filter_eq_self]
    intro i hi
    have hi' := List.mem_range.1 hi
    rw [getD_in (by simp; omega) (getD_replicate_false _ _)]; rfl
  rw [e, List.length_range]
theorem wp_region_all {id : Nat} (sp : Nat) (vo : Option Nat) (Φ : Nat → Value → World → Prop) (hm : P.follows .mixedOrders = true) (hB : regOk l a.tmps.size = true)
    (hmono : ∀ i j v w1 w', i ≠ j → ExtB vo w.drew w1 → Es sp vo j w1 w' → Φ i v w1 → Φ i v w')
    (hstep : ∀ (i : Nat) o, i < l.length → l[i]? = some o → StepAt P l a w.drew sp vo Φ Q l.length i o)
    (hend : ∀ a' w', ExtB vo w.drew w' → Outer l a l.length a' → AllDone l Φ a' w' 0 l.length → Q .normal a' w') : (Code.region id l.toArray true).wp P Q a w := by
  refine wp_region_any hm ?_
  have H := wpAny_head (P := P) (ops := l) (a0 := a) (w0 := w.drew) (sp := sp) (vo := vo) (Φ := Φ) (Q := Q) (n := l.length) (g := 0) hB hmono (Nat.le_refl _) hstep
    (fun listed inv ⟨i, hi, hun⟩ => ⟨fun hr => (by
        have := all_of_ready_nil (a0 := a) hB (by rw [inv.size]; simp) hr i hi
        rw [hun] at this; cases this), fun t ht => (by
        obtain ⟨_, o, ho, _⟩ := mem_ready.1 ht
        have := (Array.getElem?_eq_some_iff.1 ho).1; simpa using this)⟩)
    (fun listed a' w' inv hall => ⟨(by
        rw [List.eq_nil_iff_forall_not_mem]
        intro i hi
        obtain ⟨h1, o, ho, _⟩ := mem_ready.1 hi
        have := hall i (by have := (Array.getElem?_eq_some_iff.1 ho).1; simpa using this)
        rw [h1] at this; cases this), hend a' w' inv.ext inv.outer (allDone_of _ _ fun j _ h2 o ho => inv.done j o ho (hall j (by omega)))⟩)
    l.length (Array.replicate l.length false) a w.drew (start_count _ _ (Nat.le_refl _)) (rinv_start (Nat.le_refl _))
  simpa using H
theorem headDone_of {n N : Nat} {listed : Array Bool} (hs : listed.size = N) (h1 : ∀ i, i < n → listed.getD i true = true) (h2 : ∀ i, n ≤ i → i < N → listed.getD i true = false) (hn : n ≤ N) : listed = headDone n N := by
  apply Array.ext
  · simp [headDone, hs]
  · intro i h3 h4
    have h5 : listed.getD i true = listed[i] := by simp [h3]
    have e : (headDone n N)[i] = decide (i < n) := by simp [headDone]
    rw [e, ← h5]
    rcases Nat.lt_or_ge i n with h | h
    · rw [h1 i h]; simp [h]
    · rw [h2 i h (by omega)]; simp; omega
theorem wp_region_tail {id : Nat} (n : Nat) (sp : Nat) (vo : Option Nat) (Φ : Nat → Value → World → Prop) (hm : P.follows .mixedOrders = true) (hB : regOk l a.tmps.size = true) (hT : regTail l n = true)
    (hmono : ∀ i j v w1 w', i ≠ j → ExtB vo w.drew w1 → Es sp vo j w1 w' → Φ i v w1 → Φ i v w')
    (hstep : ∀ (i : Nat) o, i < n → l[i]? = some o → StepAt P l a w.drew sp vo Φ Q n i o)
    (hend : ∀ a' w', ExtB vo w.drew w' → Outer l a n a' → AllDone l Φ a' w' 0 n → wpList P l.toArray Q (l.drop n) a' w') : (Code.region id l.toArray true).wp P Q a w := by
  unfold regTail at hT
  simp only [Bool.and_eq_true, decide_eq_true_eq] at hT
  obtain ⟨⟨⟨hn, hs⟩, hc⟩, hseq⟩ := hT
  refine wp_region_any hm ?_
  have H := wpAny_head (P := P) (ops := l) (a0 := a) (w0 := w.drew) (sp := sp) (vo := vo) (Φ := Φ) (Q := Q) (n := n) (g := l.length - n) hB hmono (by omega) hstep
    (fun listed inv ⟨i, hi, hun⟩ => ⟨fun hr => (by
        have := all_of_ready_nil (a0 := a) hB (by rw [inv.size]; simp) hr i (by omega)
        rw [hun] at this; cases this), fun t ht => (by
        rcases Nat.lt_or_ge t n with h | h
        · exact h
        · exact absurd ht (tail_waits hs hc (by simpa using hn) inv (n - i) i rfl hi hun t h))⟩)
    (fun listed a' w' inv hall => (by
        have e := headDone_of (n := n) (N := l.length) (by rw [inv.head.size]; simp) hall (fun i h1 h2 => inv.head.tail i h1 (by simpa using h2)) (by omega)
        have h := wpAny_of_seq (P := P) (md := .any) (Q' := Q) (ops := l.toArray) (l.drop n) n listed a' w' (fun j => by simp [List.getElem?_drop]) (by rw [List.length_drop, e]; exact hseq)
          (hend a' w' inv.ext inv.outer (allDone_of _ _ fun j _ h2 o ho => inv.done j o ho (hall j (by omega))))
        rwa [List.length_drop] at h))
    n (Array.replicate l.length false) a w.drew (start_count _ _ (by omega)) (rinv_start (by omega))
  rw [show n + (l.length - n) = l.length by omega] at H
  simpa using H
end
theorem ev_form (a : Act) (t : Nat) : a.eval (.tmp t) = a.tmps[t]?.getD undef := by show a.tmps.getD t undef = _; rw [Array.getD_eq_getD_getElem?]
theorem wp_of_call {P : Program} {o : Oper} {a : Act} {w : World} {v : Value} {f : FuncId} {args : Array Value} {K : Act → World → Prop} {Q : Exit → Act → World → Prop} (h : (execOp a.eval o).run P w = .ok (.enter f args) w)
    (hc : Calls P f args w (fun e w' => e = .returned v ∧ Below w.heap.size w w')) (hK : ∀ w', Below w.heap.size w w' → K (a.put o.dst v) w') : o.wp P a w K Q := by
  unfold Oper.wp; rw [h]
  exact hc.mono fun e w' ⟨he, hb⟩ => by subst he; exact hK w' hb
theorem extB_none {w w' : World} (h : ExtB none w w') : Below w.heap.size w w' := ⟨h.os, h.tape, h.output, h.size, fun i hi => h.block i hi (by simp)⟩
theorem of_drew {w w1 : World} (h : ExtB none w.drew w1) : Below w.heap.size w w1 := bnext (bdrew (Below.refl _ _)) (extB_none h)
def phis (L : List (Value → World → Prop)) (i : Nat) : Value → World → Prop := L.getD i (fun _ _ => True)
def MonoAll (sp : Nat) (vo : Option Nat) : Nat → List (Value → World → Prop) → Prop
  | _, [] => True
  | i, φ :: r => ((∀ v w1 w', Ext w1 w' → φ v w1 → φ v w') ∧ (i ≠ sp → ∀ v w1 w', ExtB vo w1 w' → φ v w1 → φ v w')) ∧ MonoAll sp vo (i + 1) r
theorem mono_at {sp : Nat} {vo : Option Nat} : ∀ {L : List (Value → World → Prop)} {k : Nat}, MonoAll sp vo k L → ∀ i v w1 w',
    (Ext w1 w' → L.getD i (fun _ _ => True) v w1 → L.getD i (fun _ _ => True) v w') ∧ (k + i ≠ sp → ExtB vo w1 w' → L.getD i (fun _ _ => True) v w1 → L.getD i (fun _ _ => True) v w')
  | [], _, _, _, _, _, _ => by simp
  | φ :: r, k, h, 0, v, w1, w' => ⟨h.1.1 v w1 w', fun hn => h.1.2 hn v w1 w'⟩
  | φ :: r, k, h, i + 1, v, w1, w' => by
    have := mono_at (L := r) h.2 i v w1 w'
    rw [Nat.add_assoc, Nat.add_comm 1 i] at this
    exact this
theorem mono_of {sp : Nat} {vo : Option Nat} {w0 : World} {L : List (Value → World → Prop)} (h : MonoAll sp vo 0 L) : ∀ i j v w1 w', i ≠ j → ExtB vo w0 w1 → Es sp vo j w1 w' → phis L i v w1 → phis L i v w' := by
  intro i j v w1 w' hij _ he hp
  have hh := mono_at h i v w1 w'
  rw [Nat.zero_add] at hh
  unfold Es at he
  split at he
  · rename_i hj; exact hh.2 (by rw [← hj]; exact hij) he hp
  · exact hh.1 he hp
theorem mono_eq {sp : Nat} {vo : Option Nat} {i : Nat} {f : Value → Prop} : (∀ v w1 w', Ext w1 w' → (fun v (_ : World) => f v) v w1 → (fun v (_ : World) => f v) v w') ∧ (i ≠ sp → ∀ v w1 w', ExtB vo w1 w' → (fun v (_ : World) => f v) v w1 → (fun v (_ : World) => f v) v w') :=
  ⟨fun _ _ _ _ h => h, fun _ _ _ _ _ h => h⟩
def StepsFrom (P : Program) (ops : List Oper) (a0 : Act) (w0 : World) (sp : Nat) (vo : Option Nat) (Φ : Nat → Value → World → Prop) (Q : Exit → Act → World → Prop) (hd : Nat) : Nat → Nat → List Oper → Prop
  | _, 0, _ => True
  | _, _ + 1, [] => True
  | i, n + 1, o :: r => StepAt P ops a0 w0 sp vo Φ Q hd i o ∧ StepsFrom P ops a0 w0 sp vo Φ Q hd (i + 1) n r
theorem steps_from {P : Program} {ops : List Oper} {a0 : Act} {w0 : World} {sp : Nat} {vo : Option Nat} {Φ : Nat → Value → World → Prop} {Q : Exit → Act → World → Prop} {hd : Nat} :
    ∀ (n k : Nat) (r : List Oper), StepsFrom P ops a0 w0 sp vo Φ Q hd k n r → ∀ (i : Nat) o, i < n → r[i]? = some o → StepAt P ops a0 w0 sp vo Φ Q hd (k + i) o
  | 0, _, _, _, _, _, h, _ => by omega
  | _ + 1, _, [], _, _, _, _, h => by simp at h
  | n + 1, k, x :: r, h, 0, o, _, ho => by simp at ho; subst ho; exact h.1
  | n + 1, k, x :: r, h, i + 1, o, hi, ho => by
    have := steps_from n (k + 1) r h.2 i o (by omega) (by simpa using ho)
    rwa [Nat.add_assoc, Nat.add_comm 1 i] at this
theorem steps_of {P : Program} {ops : List Oper} {a0 : Act} {w0 : World} {sp : Nat} {vo : Option Nat} {Φ : Nat → Value → World → Prop} {Q : Exit → Act → World → Prop} {hd : Nat} (n : Nat)
    (h : StepsFrom P ops a0 w0 sp vo Φ Q hd 0 n ops) : ∀ (i : Nat) o, i < n → ops[i]? = some o → StepAt P ops a0 w0 sp vo Φ Q hd i o := fun i o hi ho => by
  have := steps_from n 0 ops h i o hi ho
  rwa [Nat.zero_add] at this
section
variable {P : Program} {ops : List Oper} {a0 : Act} {w0 : World} {sp : Nat} {vo : Option Nat} {Φ : Nat → Value → World → Prop} {Q : Exit → Act → World → Prop} {hd : Nat} {i : Nat} {o : Oper}
theorem step_wp (h : ∀ a w1, ExtB vo w0 w1 → (i = sp → Ext w0 w1) → Outer ops a0 hd a → Deps ops Φ a w1 o.after.toList →
    Region.wanted o (yielded ops.toArray a.tmps) = true ∧ o.wp P a w1 (fun a' w' => ∃ v, a' = a.put o.dst v ∧ Es sp vo i w1 w' ∧ Φ i (valOf o v) w') Q) : StepAt P ops a0 w0 sp vo Φ Q hd i o := fun a w1 hE hS hO hD => by
  obtain ⟨h1, h2⟩ := h a w1 hE hS hO hD
  rw [if_pos h1]; exact h2
theorem step_val {v : Value} (h : ∀ a w1, ExtB vo w0 w1 → (i = sp → Ext w0 w1) → Outer ops a0 hd a → Deps ops Φ a w1 o.after.toList →
    Region.wanted o (yielded ops.toArray a.tmps) = true ∧ (execOp a.eval o).run P w1 = .ok (.value v) w1) (hφ : ∀ w1, Φ i (valOf o v) w1) : StepAt P ops a0 w0 sp vo Φ Q hd i o := fun a w1 hE hS hO hD => by
  obtain ⟨h1, h2⟩ := h a w1 hE hS hO hD
  rw [if_pos h1]
  unfold Oper.wp
  rw [h2]
  exact ⟨v, rfl, es_of_ext (Ext_refl w1), hφ w1⟩
theorem step_skip (h : ∀ a w1, ExtB vo w0 w1 → (i = sp → Ext w0 w1) → Outer ops a0 hd a → Deps ops Φ a w1 o.after.toList → Region.wanted o (yielded ops.toArray a.tmps) = false) (hφ : ∀ w1, Φ i undef w1) : StepAt P ops a0 w0 sp vo Φ Q hd i o := fun a w1 hE hS hO hD => by
  rw [if_neg (by rw [h a w1 hE hS hO hD]; exact Bool.false_ne_true)]; exact hφ w1
theorem yielded_of {ops : Array Oper} {j d : Nat} {oj : Oper} {a : Act} {b : Bool} (hj : ops[j]? = some oj) (hd : oj.dst = some d) (hv : a.eval (.tmp d) = .bool b) : yielded ops a.tmps j = some b := by
  have h : a.tmps.getD d undef = .bool b := hv
  unfold yielded
  rw [hj]
  simp only [Option.bind_some, hd]
  cases ht : a.tmps[d]? with
  | none =>
    rw [Array.getD_eq_getD_getElem?, ht] at h
    cases h
  | some x =>
    rw [Array.getD_eq_getD_getElem?, ht] at h
    simp at h; subst h; rfl
theorem wanted_of {l : List Oper} {o oj : Oper} {j d : Nat} {want b : Bool} {a : Act} (hg : o.guard = some (j, want)) (hj : l.toArray[j]? = some oj) (hd : oj.dst = some d) (hv : a.eval (.tmp d) = .bool b) :
    Region.wanted o (yielded l.toArray a.tmps) = (b == want) := by
  unfold Region.wanted
  rw [hg]
  simp only [yielded_of hj hd hv]
  cases b <;> cases want <;> rfl
theorem act_of_outer {a : Act} {ds : List Nat} (hds : dstsOf (ops.take hd) = ds) (h : Outer ops a0 hd a) (hB : regOk ops a0.tmps.size = true) : a = ds.foldl (fun b d => b.put (some d) (a.eval (.tmp d))) a0 := by
  subst hds
  have hdl : ∀ d ∈ dstsOf (ops.take hd), d < a0.tmps.size := by
    unfold regOk at hB; simp only [Bool.and_eq_true] at hB
    intro d hdd
    obtain ⟨o, ho, hd'⟩ := List.mem_filterMap.1 hdd
    simpa using List.all_eq_true.1 hB.2 d (List.mem_filterMap.2 ⟨o, List.mem_of_mem_take ho, hd'⟩)
  obtain ⟨h1, h2, h3⟩ := h
  have gen : ∀ (ds : List Nat) (b : Act), b.defers = a.defers → b.tmps.size = a.tmps.size → (∀ d ∈ ds, d < b.tmps.size) →
      (ds.foldl (fun b d => b.put (some d) (a.eval (.tmp d))) b).defers = a.defers ∧ (ds.foldl (fun b d => b.put (some d) (a.eval (.tmp d))) b).tmps.size = a.tmps.size ∧
      ∀ t, (ds.foldl (fun b d => b.put (some d) (a.eval (.tmp d))) b).eval (.tmp t) = if ds.contains t then a.eval (.tmp t) else b.eval (.tmp t) := by
    intro ds
    induction ds with
    | nil => intro b hb1 hb2 _; exact ⟨hb1, hb2, fun t => by simp⟩
    | cons d ds ih =>
      intro b hb1 hb2 hb3
      obtain ⟨i1, i2, i3⟩ := ih (b.put (some d) (a.eval (.tmp d))) hb1 (by simp [Act.put, hb2]) (fun d' hd' => by simp [Act.put]; exact hb3 d' (List.mem_cons_of_mem _ hd'))
      refine ⟨i1, i2, fun t => ?_⟩
      rw [List.foldl_cons, i3 t]
      by_cases ht : ds.contains t = true
      · simp at ht; simp [ht]
      · by_cases htd : t = d
        · subst htd
          rw [eval_put_same (hb3 t (List.mem_cons_self ..))]; simp
        · rw [eval_put_ne htd]
          simp at ht; simp [ht, htd]
  obtain ⟨g1, g2, g3⟩ := gen (dstsOf (ops.take hd)) a0 h1.symm h2.symm hdl
  have ext : ∀ (x y : Act), x.defers = y.defers → x.tmps.size = y.tmps.size → (∀ t, x.eval (.tmp t) = y.eval (.tmp t)) → x = y := by
    intro x y e1 e2 e3
    obtain ⟨xt, xd⟩ := x
    obtain ⟨yt, yd⟩ := y
    simp only at e1 e2
    subst e1
    have : xt = yt := by
      apply Array.ext e2
      intro k hk1 hk2
      have h : xt.getD k undef = yt.getD k undef := e3 k
      simpa [Array.getD_eq_getD_getElem?, hk1, hk2] using h
    rw [this]
  refine ext _ _ g1.symm g2.symm fun t => ?_
  rw [g3 t]
  cases hc : (dstsOf (ops.take hd)).contains t with
  | true => simp
  | false => simp only [Bool.false_eq_true, if_false]; exact h3 t hc
end
end Go.Proofs.YtpobhbdomldecaaGreatDoor
namespace Go.Proofs.YtpobhbdomldecaaGreatDoor
set_option linter.unusedSimpArgs false
set_option linter.unusedVariables false
open Go.RowKit
structure URow where
  lo : Int
  hi : Int
  size : Int
  least : Int
abbrev URow.val (r : URow) : Value := .agg #[.int .u8 r.lo, .int .u8 r.hi, .int .i64 r.size, .int .u64 r.least]
def URow.cells (r : URow) : List Value := [.int .u8 r.lo, .int .u8 r.hi, .int .i64 r.size, .int .u64 r.least]
theorem URow.cells_len (r : URow) : r.cells.length = 4 := rfl
theorem URow.cells_one (r : URow) : ∀ u ∈ r.cells, u.oneCell' = true := by intro u hu; simp only [URow.cells, List.mem_cons, List.not_mem_nil, or_false] at hu; rcases hu with rfl | rfl | rfl | rfl <;> rfl
def URow.zero : URow := ⟨0, 0, 0, 0⟩
def unth (l : List URow) (i : Nat) : URow := l.getD i URow.zero
theorem unth_eq (l : List URow) (i : Nat) (h : i < l.length) : unth l i = l[i] := by unfold unth; rw [List.getD_eq_getElem?_getD, List.getElem?_eq_getElem h]; rfl
structure URowAt (w : World) (b o : Nat) (r : URow) : Prop where
  c0 : w.cell? ⟨b, o, none⟩ = some (.int .u8 r.lo)
  c1 : w.cell? ⟨b, o + 1, none⟩ = some (.int .u8 r.hi)
  c2 : w.cell? ⟨b, o + 2, none⟩ = some (.int .i64 r.size)
  c3 : w.cell? ⟨b, o + 3, none⟩ = some (.int .u64 r.least)
theorem URowAt.below {w w' : World} {b o : Nat} {r : URow} (h : URowAt w b o r) (hb : Below w.heap.size w w') : URowAt w' b o r := by
  have hl := lt_of_cell h.c0
  have e : ∀ q, w'.cell? ⟨b, q, none⟩ = w.cell? ⟨b, q, none⟩ := fun q => hb.cell (p := ⟨b, q, none⟩) hl
  obtain ⟨c0, c1, c2, c3⟩ := h
  constructor <;> (rw [e]; assumption)
def URows (w : World) (a : Option Addr) (l : List URow) : Prop := ∀ i, i < len l → ∃ b off, a = some ⟨b, off, none⟩ ∧ URowAt w b (off + i * 4) (unth l i)
theorem URows.nil (w : World) (a : Option Addr) : URows w a [] := fun i hi => absurd hi (by simp [len])
theorem URows.below {w w' : World} {a : Option Addr} {l : List URow} (h : URows w a l) (hb : Below w.heap.size w w') : URows w' a l := fun i hi => by
  obtain ⟨b, off, rfl, hc⟩ := h i hi
  exact ⟨b, off, rfl, hc.below hb⟩
theorem URows.drew {w w' : World} {a : Option Addr} {l : List URow} (h : URows w a l) (hb : Drew w w') : URows w' a l := h.below (hb.below _)
theorem URows.take {w : World} {a : Option Addr} {l : List URow} (h : URows w a l) (k : Nat) : URows w a (l.take k) := fun i hi => by
  have hi2 : i < l.length ∧ i < k := by simp only [len, List.length_take] at hi; omega
  have hi3 : i < (l.take k).length := hi
  have e : unth (l.take k) i = unth l i := by rw [unth_eq l i hi2.1, unth_eq _ i hi3, List.getElem_take]
  rw [e]; exact h i hi2.1
theorem URows.drop {w : World} {b off : Nat} {l : List URow} (h : URows w (some ⟨b, off, none⟩) l) (k : Nat) : URows w (some ⟨b, off + k * 4, none⟩) (l.drop k) := fun i hi => by
  have hi2 : k + i < l.length := by simp only [len, List.length_drop] at hi; omega
  have hi3 : i < (l.drop k).length := hi
  have e : unth (l.drop k) i = unth l (k + i) := by rw [unth_eq l _ hi2, unth_eq _ i hi3, List.getElem_drop]
  obtain ⟨b', off', e2, hc⟩ := h (k + i) hi2
  cases e2
  exact ⟨b, _, rfl, by rw [e, show off + k * 4 + i * 4 = off + (k + i) * 4 by omega]; exact hc⟩
theorem URows.own {w : World} {base e n : Nat} {v : Value} {l : List URow} (h : w.ownsRow base e 4 v n (l.flatMap URow.cells)) : ∃ a cap, v = .slice a (len l) cap ∧ URows w a l ∧ len l ≤ cap := by
  have hn : len l = n := by have := h.1; rw [flat_length URow.cells 4 URow.cells_len] at this; rw [len_eq]; omega
  obtain ⟨h1, h2⟩ := h
  rcases h2 with ⟨rfl, h2⟩ | ⟨g, cap, cur, rfl, hg, hh, hc1, hc2, hc3, hc4⟩
  · obtain rfl : l = [] := List.eq_nil_of_length_eq_zero (by rw [← len_eq]; omega)
    exact ⟨none, 0, rfl, URows.nil _ _, Nat.le_refl _⟩
  · refine ⟨some ⟨g, 0, none⟩, cap, by rw [hn], fun i hi => ⟨g, 0, rfl, ?_⟩, by omega⟩
    have hown : w.ownsRow base e 4 (.slice (some ⟨g, 0, none⟩) n cap) n (l.flatMap URow.cells) := ⟨h1, .inr ⟨g, cap, cur, rfl, hg, hh, hc1, hc2, hc3, hc4⟩⟩
    have key : ∀ r, r < 4 → w.cell? ⟨g, 0 + i * 4 + r, none⟩ = (unth l i).cells[r]? := fun r hr => by
      have := hown.cellAt (i * 4 + r) (by rw [← hn]; omega)
      rw [Nat.zero_add, this, flat_get URow.cells 4 URow.cells_len l i r hi hr, unth_eq l i hi]
    exact ⟨key 0 (by decide), key 1 (by decide), key 2 (by decide), key 3 (by decide)⟩
theorem URows.block {w : World} {g : Nat} {l : List URow} {t : TypeId} {fr : Nat × Nat} (h : w.heap[g]? = some (.cells (l.flatMap URow.cells).toArray t fr)) : URows w (some ⟨g, 0, none⟩) l := fun i hi => ⟨g, 0, rfl, by
  have key : ∀ r, r < 4 → w.cell? ⟨g, 0 + i * 4 + r, none⟩ = (unth l i).cells[r]? := fun r hr => by
    rw [Nat.zero_add, block_cell h, List.getElem?_toArray, flat_get URow.cells 4 URow.cells_len l i r hi hr, unth_eq l i hi]
  exact ⟨key 0 (by decide), key 1 (by decide), key 2 (by decide), key 3 (by decide)⟩⟩
structure URow.Ok (r : URow) : Prop where
  lo0 : 0 ≤ r.lo
  hi1 : r.hi ≤ 255
  sz0 : 0 ≤ r.size
  sz1 : r.size ≤ 8
  le0 : 0 ≤ r.least
  le1 : r.least ≤ 4294967296
end Go.Proofs.YtpobhbdomldecaaGreatDoor
namespace Go.Proofs.YtpobhbdomldecaaGreatDoor
set_option linter.unusedSimpArgs false
set_option linter.unusedVariables false
open Go.RowKit
def RdB (w : World) (b : Nat) (s : ByteArray) (a most : Int) : Prop := w.heap[b]? = some (.cells #[.string s, .int .i64 a, .int .i64 most] 282 (0, 0))
theorem RdB.below {w w' : World} {b : Nat} {s : ByteArray} {a most : Int} (h : RdB w b s a most) (hb : Below w.heap.size w w') : RdB w' b s a most := (hb.block _ (lt_of_block h)).trans h
end Go.Proofs.YtpobhbdomldecaaGreatDoor
namespace Go.Proofs.YtpobhbdomldecaaGreatDoor
set_option linter.unusedSimpArgs false
set_option linter.unusedVariables false
open Go.RowKit
def numsL : List URow := [⟨0, 127, 0, 0⟩, ⟨204, 204, 1, 128⟩, ⟨205, 205, 2, 256⟩, ⟨206, 206, 4, 65536⟩, ⟨207, 207, 8, 4294967296⟩]
def binsL : List URow := [⟨196, 196, 1, 0⟩, ⟨197, 197, 2, 256⟩]
def strsL : List URow := [⟨160, 191, 0, 0⟩, ⟨217, 217, 1, 32⟩, ⟨218, 218, 2, 256⟩]
def pairsL : List URow := [⟨128, 143, 0, 0⟩, ⟨222, 222, 2, 16⟩]
def TabAt (B : Nat) (w : World) (g : Nat) (l : List URow) : Prop := ∃ tb tq rc, g < B ∧ tb < B ∧ B ≤ w.heap.size ∧ w.cell? ⟨g, 0, none⟩ = some (.slice (some ⟨tb, tq, none⟩) (len l) rc) ∧ URows w (some ⟨tb, tq, none⟩) l
theorem TabAt.ext {B : Nat} {w w' : World} {g b : Nat} {l : List URow} (h : TabAt B w g l) (hE : ExtB (some b) w w') (hb : B ≤ b) : TabAt B w' g l := by
  obtain ⟨tb, tq, rc, h1, h2, h5, h3, h4⟩ := h
  have e : ∀ x o, x < B → w'.cell? ⟨x, o, none⟩ = w.cell? ⟨x, o, none⟩ := fun x o hx => World.cell?_of_block (w := w) (hE.block x (by omega) (by intro e; cases e; omega))
  refine ⟨tb, tq, rc, h1, h2, Nat.le_trans h5 hE.size, by rw [e g 0 h1]; exact h3, fun i hi => ?_⟩
  obtain ⟨b', off', e2, ⟨c0, c1, c2, c3⟩⟩ := h4 i hi
  cases e2
  exact ⟨tb, tq, rfl, by rw [e tb _ h2]; exact c0, by rw [e tb _ h2]; exact c1, by rw [e tb _ h2]; exact c2, by rw [e tb _ h2]; exact c3⟩
theorem below_extB {w w' : World} (h : Below w.heap.size w w') (b : Nat) : ExtB (some b) w w' := ⟨h.os, h.tape, h.output, h.size, fun i hi _ => h.block i hi⟩
theorem TabAt.below {B : Nat} {w w' : World} {g : Nat} {l : List URow} (h : TabAt B w g l) (hb : Below w.heap.size w w') : TabAt B w' g l := by
  obtain ⟨tb, tq, rc, h1, h2, h5, h3, h4⟩ := h
  exact TabAt.ext ⟨tb, tq, rc, h1, h2, h5, h3, h4⟩ (below_extB hb B) (Nat.le_refl _)
def ListsAt (B : Nat) (w : World) : Prop := True
theorem ListsAt.imp {B : Nat} {w w' : World} (h : ListsAt B w) (k : ∀ g l, TabAt B w g l → TabAt B w' g l) : ListsAt B w' := trivial
structure Tabs (B : Nat) (w : World) : Prop where
  nums : TabAt B w 0 numsL
  lists : ListsAt B w
  bins : TabAt B w 6 binsL
  strs : TabAt B w 2 strsL
  pairs : TabAt B w 1 pairsL
theorem Tabs.ext {B : Nat} {w w' : World} {b : Nat} (h : Tabs B w) (hE : ExtB (some b) w w') (hb : B ≤ b) : Tabs B w' := ⟨h.nums.ext hE hb, h.lists.imp (fun _ _ h => h.ext hE hb), h.bins.ext hE hb, h.strs.ext hE hb, h.pairs.ext hE hb⟩
theorem Tabs.below {B : Nat} {w w' : World} (h : Tabs B w) (hb : Below w.heap.size w w') : Tabs B w' := ⟨h.nums.below hb, h.lists.imp (fun _ _ h => h.below hb), h.bins.below hb, h.strs.below hb, h.pairs.below hb⟩
end Go.Proofs.YtpobhbdomldecaaGreatDoor
namespace Go.Proofs.YtpobhbdomldecaaGreatDoor
set_option linter.unusedSimpArgs false
set_option linter.unusedVariables false
open Go.RowKit Go.Extern.Stop Go.Stop Go.Extern
def ErrType (w : World) : Prop := w.cell? ⟨3, 0, none⟩ = some (.iface 349 (.agg #[.pointer (some ⟨Tryz.prog.globals.size, 89, none⟩)]))
end Go.Proofs.YtpobhbdomldecaaGreatDoor
namespace Go.Proofs.YtpobhbdomldecaaGreatDoor
set_option linter.unusedSimpArgs false
set_option linter.unusedVariables false
open Go.RowKit
def FltB (w : World) (f : Nat) (k : Int) (a : Nat) : Prop := w.heap[f]? = some (.cells #[.int .i64 k, .int .i64 a] 145 (0, 0))
theorem FltB.below {w w' : World} {f : Nat} {k : Int} {a : Nat} (h : FltB w f k a) (hb : Below w.heap.size w w') : FltB w' f k a := (hb.block _ (lt_of_block h)).trans h
theorem ErrType.below {w w' : World} (h : ErrType w) (hb : Below w.heap.size w w') : ErrType w' := by
  unfold ErrType at *
  rw [hb.cell (p := ⟨_, 0, none⟩) (lt_of_cell h)]; exact h
def leftOf (s : ByteArray) (a : Nat) : Option Int := if a < s.size then some 5 else none
end Go.Proofs.YtpobhbdomldecaaGreatDoor
namespace Go.Proofs.YtpobhbdomldecaaGreatDoor
set_option linter.unusedSimpArgs false
open Go.RowKit
set_option linter.unusedVariables false
def EsV (VO : Nat → Option Nat) (X : Nat → World → World → Prop) (j : Nat) (w w' : World) : Prop := w.grownBy w' (VO j) ∧ X j w w'
structure ExtS (VO : Nat → Option Nat) (w w' : World) : Prop where
  os : w'.os = w.os
  tape : w'.tape = w.tape
  output : w'.output = w.output
  size : w.heap.size ≤ w'.heap.size
  block : ∀ k, k < w.heap.size → (∀ j, VO j ≠ some k) → w'.heap[k]? = w.heap[k]?
theorem ExtS.refl (VO : Nat → Option Nat) (w : World) : ExtS VO w w := ⟨rfl, rfl, rfl, Nat.le_refl _, fun _ _ _ => rfl⟩
theorem ExtS.step {VO : Nat → Option Nat} {X : Nat → World → World → Prop} {j : Nat} {a b c : World} (h : ExtS VO a b) (k' : EsV VO X j b c) : ExtS VO a c :=
  have k := k'.1
  ⟨k.os.trans h.os, k.tape.trans h.tape, k.output.trans h.output, Nat.le_trans h.size k.size, fun i hi hn => (k.block i (Nat.lt_of_lt_of_le hi h.size) (fun e => hn j e.symm)).trans (h.block i hi hn)⟩
structure Here (VO : Nat → Option Nat) (I : World → Prop) (ops : List Oper) (w0 w : World) (D : Nat → Prop) (i : Nat) : Prop where
  ext : ExtS VO w0 w
  inv : I w
  late : ∀ j, ¬ D j → ∀ b, VO j = some b → b < w0.heap.size → w.heap[b]? = w0.heap[b]?
  notyet : ∀ (j : Nat) oj, ops[j]? = some oj → ∀ e ∈ oj.after, Region.binds .any e = true → ¬ D e.on → ¬ D j
  me : ¬ D i
theorem Here.own {VO : Nat → Option Nat} {I : World → Prop} {ops : List Oper} {w0 w : World} {D : Nat → Prop} {i : Nat} (h : Here VO I ops w0 w D i) : ∀ b, VO i = some b → b < w0.heap.size → w.heap[b]? = w0.heap[b]? := h.late i h.me
section
variable (P : Program) (ops : List Oper) (a0 : Act) (w0 : World) (VO : Nat → Option Nat) (X : Nat → World → World → Prop) (I : World → Prop) (PR : Nat → Nat → Value → Value → World → Prop) (Φ : Nat → Value → World → Prop) (Q : Exit → Act → World → Prop)
def PairAt (D : Nat → Prop) (a : Act) (i : Nat) (v : Value) (w' : World) : Prop := ∀ j oj, ops[j]? = some oj → D j → j ≠ i → PR i j v (slotOf oj a) w' ∧ PR j i (slotOf oj a) v w'
structure RInvV (n : Nat) (listed : Array Bool) (a : Act) (w : World) : Prop where
  head : HeadInv .any ops.toArray n listed
  ext : ExtS VO w0 w
  inv : I w
  ext0 : ∀ i, listed.getD i true = false → ∀ b, VO i = some b → b < w0.heap.size → w.heap[b]? = w0.heap[b]?
  outer : Outer ops a0 n a
  done : ∀ (i : Nat) o, ops[i]? = some o → listed.getD i true = true → Φ i (slotOf o a) w
  pair : ∀ i j oi oj, ops[i]? = some oi → ops[j]? = some oj → listed.getD i true = true → listed.getD j true = true → i ≠ j → PR i j (slotOf oi a) (slotOf oj a) w
variable {P ops a0 w0 VO X I PR Φ Q}
theorem slotv_same {o : Oper} {i : Nat} {a : Act} {v : Value} (hB : regOk ops a0.tmps.size = true) (hs : a.tmps.size = a0.tmps.size) (ho : ops[i]? = some o) : slotOf o (a.put o.dst v) = valOf o v := by
  unfold slotOf valOf
  cases hd : o.dst with
  | none => rfl
  | some d =>
    have hdl : ∀ d ∈ dstsOf ops, d < a0.tmps.size := by
      unfold regOk at hB; simp only [Bool.and_eq_true] at hB
      intro d hd; simpa using List.all_eq_true.1 hB.2 d hd
    have hmem : d ∈ dstsOf ops := List.mem_filterMap.2 ⟨o, List.mem_of_getElem? ho, hd⟩
    exact eval_put_same (by rw [hs]; exact hdl d hmem)
theorem slot_other {o oj : Oper} {i j : Nat} {a : Act} {v : Value} (hB : regOk ops a0.tmps.size = true) (hij : i ≠ j) (ho : ops[i]? = some o) (hoj : ops[j]? = some oj) : slotOf oj (a.put o.dst v) = slotOf oj a := by
  have hnd : (dstsOf ops).Nodup := by unfold regOk at hB; simp only [Bool.and_eq_true, decide_eq_true_eq] at hB; exact hB.1.2
  unfold slotOf
  cases hdj : oj.dst with
  | none => rfl
  | some d =>
    cases hdo : o.dst with
    | none => rfl
    | some d' =>
      have hne : d ≠ d' := by
        rintro rfl
        exact dst_two hnd hij ho hoj hdo hdj
      exact eval_put_ne hne
theorem RInvV.next {n : Nat} (hB : regOk ops a0.tmps.size = true) (hVO : ∀ i j b, VO i = some b → VO j = some b → i = j)
    (hmono : ∀ i j v w w', i ≠ j → EsV VO X j w w' → Φ i v w → Φ i v w') (hI : ∀ j w w', EsV VO X j w w' → I w → I w') (hmonoP : ∀ i j k vi vj w w', k ≠ i → k ≠ j → EsV VO X k w w' → PR i j vi vj w → PR i j vi vj w') {listed : Array Bool} {a : Act} {w : World} (inv : RInvV ops a0 w0 VO I PR Φ n listed a w)
    {i : Nat} {o : Oper} (hi : i ∈ Region.ready .any ops.toArray listed) (hin : i < n) (ho' : ops[i]? = some o) {v : Value} {w' : World} (he : EsV VO X i w w') (hv : Φ i (valOf o v) w') (hpr : PairAt ops PR (fun j => listed.getD j true = true) a i (valOf o v) w') :
    RInvV ops a0 w0 VO I PR Φ n (listed.setIfInBounds i true) (a.put o.dst v) w' := by
  have hnd : (dstsOf ops).Nodup := by unfold regOk at hB; simp only [Bool.and_eq_true, decide_eq_true_eq] at hB; exact hB.1.2
  have hdl : ∀ d ∈ dstsOf ops, d < a0.tmps.size := by
    unfold regOk at hB; simp only [Bool.and_eq_true] at hB
    intro d hd; simpa using List.all_eq_true.1 hB.2 d hd
  refine ⟨inv.head.set hi hin, inv.ext.step he, hI _ _ _ he inv.inv, fun k hl b hb hlt => ?_, ?_, ?_, fun i1 j1 oi oj hoi hoj l1 l2 hne => ?_⟩
  · by_cases his : k = i
    · exfalso
      subst his
      obtain ⟨hun, o', ho, _⟩ := mem_ready.1 hi
      have hil : k < listed.size := by rw [inv.head.size]; exact (Array.getElem?_eq_some_iff.1 ho).1
      simp [hil] at hl
    · rw [getD_set_ne true (Ne.symm his)] at hl
      have h1 := inv.ext0 k hl b hb hlt
      rw [← h1]
      exact he.1.block b (Nat.lt_of_lt_of_le hlt inv.ext.size) (fun e => his (hVO k i b hb e.symm))
  · obtain ⟨h1, h2, h3⟩ := inv.outer
    cases hd : o.dst with
    | none => exact ⟨h1, h2, h3⟩
    | some d =>
      refine ⟨h1, by simp [Act.put, h2], fun t ht => ?_⟩
      have hmem : d ∈ dstsOf (ops.take n) := List.mem_filterMap.2 ⟨o, List.mem_of_getElem? (i := i) (by rw [List.getElem?_take, if_pos hin]; exact ho'), hd⟩
      rw [eval_put_ne (by rintro rfl; simp at ht; exact ht hmem)]; exact h3 t ht
  · intro j oj hoj hl
    by_cases hij : j = i
    · subst hij
      have : oj = o := Option.some.inj (hoj.symm.trans ho')
      subst this
      unfold slotOf
      unfold valOf at hv
      cases hd : oj.dst with
      | none => simpa [hd] using hv
      | some d =>
        simp only [hd] at hv
        have hmem : d ∈ dstsOf ops := List.mem_filterMap.2 ⟨oj, List.mem_of_getElem? ho', hd⟩
        simp only
        rw [eval_put_same (by rw [inv.outer.2.1]; exact hdl d hmem)]; exact hv
    · rw [getD_set_ne true (Ne.symm hij)] at hl
      have h1 := hmono j i _ w w' hij he (inv.done j oj hoj hl)
      unfold slotOf at h1 ⊢
      cases hdj : oj.dst with
      | none => first | exact h1 | simpa [hdj] using h1
      | some d =>
        try simp only [hdj] at h1 ⊢
        cases hdo : o.dst with
        | none => exact h1
        | some d' =>
          have hne : d ≠ d' := by
            rintro rfl
            exact dst_two hnd (Ne.symm hij) ho' hoj hdo hdj
          rw [eval_put_ne hne]; exact h1
  · by_cases h1 : i1 = i
    · subst h1
      have e : oi = o := Option.some.inj (hoi.symm.trans ho')
      subst e
      rw [slotv_same hB inv.outer.2.1 ho', slot_other hB hne ho' hoj]
      exact (hpr j1 oj hoj (by rwa [getD_set_ne true hne] at l2) (Ne.symm hne)).1
    · by_cases h2 : j1 = i
      · subst h2
        have e : oj = o := Option.some.inj (hoj.symm.trans ho')
        subst e
        rw [slotv_same hB inv.outer.2.1 ho', slot_other hB (Ne.symm hne) ho' hoi]
        exact (hpr i1 oi hoi (by rwa [getD_set_ne true (Ne.symm hne)] at l1) hne).2
      · rw [slot_other hB (Ne.symm h1) ho' hoi, slot_other hB (Ne.symm h2) ho' hoj]
        exact hmonoP i1 j1 i _ _ w w' (Ne.symm h1) (Ne.symm h2) he (inv.pair i1 j1 oi oj hoi hoj (by rwa [getD_set_ne true (Ne.symm h1)] at l1) (by rwa [getD_set_ne true (Ne.symm h2)] at l2) hne)
end
section
variable {P : Program} {Q : Exit → Act → World → Prop} {a : Act} {w : World} {l : List Oper} {VO : Nat → Option Nat} {X : Nat → World → World → Prop} {I : World → Prop} {PR : Nat → Nat → Value → Value → World → Prop} {Φ : Nat → Value → World → Prop}
end
section
variable {P : Program} {ops : List Oper} {a0 : Act} {w0 : World} {VO : Nat → Option Nat} {X : Nat → World → World → Prop} {I : World → Prop} {PR : Nat → Nat → Value → Value → World → Prop} {Φ : Nat → Value → World → Prop} {Q : Exit → Act → World → Prop} {hd : Nat} {i : Nat} {o : Oper}
end
end Go.Proofs.YtpobhbdomldecaaGreatDoor
namespace Go.Proofs.YtpobhbdomldecaaGreatDoor
open Go.RowKit
set_option linter.unusedSimpArgs false
set_option linter.unusedVariables false
structure RevD where
  pos : Int
  L : Int
  signed : Bool
  idx : Int
  ws : List ByteArray
  ps : List ByteArray
  root : ByteArray
  wt : Int
  first : Int
  life : Int
  keys : Int
inductive DV where
  | num (n : Int)
  | flag (q : Bool)
  | str (s : ByteArray)
  | strs (l : List ByteArray)
  | nums (l : List Int)
  | revs (l : List RevD)
abbrev Rcd := Nat → DV
def upd (x : Rcd) (o : Nat) (d : DV) : Rcd := fun i => if i = o then d else x i
theorem upd_at (x : Rcd) (o : Nat) (d : DV) : upd x o d o = d := if_pos rfl
theorem upd_ne {x : Rcd} {o i : Nat} {d : DV} (h : i ≠ o) : upd x o d i = x i := if_neg h
abbrev Flt := Int × Nat
structure GSpec where
  key : ByteArray
  must : Bool
  offs : List Nat
  empty : Rcd → Bool
  read : Rcd → Nat → Except Flt (Rcd × Nat)
def GSpec.zero : GSpec := ⟨ByteArray.empty, false, [], fun _ => true, fun x a => .ok (x, a)⟩
def gth (l : List GSpec) (i : Nat) : GSpec := l.getD i GSpec.zero
theorem gth_eq (l : List GSpec) (i : Nat) (h : i < l.length) : gth l i = l[i] := by unfold gth; rw [List.getD_eq_getElem?_getD, List.getElem?_eq_getElem h]; rfl
def DV.n : DV → Int | .num n => n | _ => 0
def DV.q : DV → Bool | .flag q => q | _ => false
def DV.s : DV → ByteArray | .str s => s | _ => ByteArray.empty
def DV.l : DV → List ByteArray | .strs l => l | _ => []
def DV.ns : DV → List Int | .nums l => l | _ => []
def DV.rs : DV → List RevD | .revs l => l | _ => []
def revC (r : RevD) : Rcd := fun i => match i with
  | 0 => .num r.pos | 1 => .num r.L | 2 => .flag r.signed | 3 => .num r.idx | 4 => .strs r.ws | 5 => .strs r.ps | 6 => .str r.root | 7 => .num r.wt | 8 => .num r.first | 9 => .num r.life | _ => .num r.keys
def GSpec.Frames (g : GSpec) : Prop := ∀ x a y, g.read x a = .ok y → ∀ i, i ∉ g.offs → y.1 i = x i
def kindD : DV → Nat
  | .num _ => 0 | .flag _ => 1 | .str _ => 2 | .strs _ => 3 | .nums _ => 4 | .revs _ => 5
def Kd (x0 x : Rcd) : Prop := ∀ i, kindD (x i) = kindD (x0 i)
def GSpec.Kinds (x0 : Rcd) (g : GSpec) : Prop := ∀ x a y, g.read x a = .ok y → Kd x0 x → Kd x0 y.1
theorem Kd.num {x0 x : Rcd} (h : Kd x0 x) {o : Nat} (h0 : kindD (x0 o) = 0) : ∃ n, x o = .num n := by
  have := (h o).trans h0
  cases hx : x o <;> rw [hx] at this <;> first | exact ⟨_, rfl⟩ | cases this
theorem Kd.flag {x0 x : Rcd} (h : Kd x0 x) {o : Nat} (h0 : kindD (x0 o) = 1) : ∃ n, x o = .flag n := by
  have := (h o).trans h0
  cases hx : x o <;> rw [hx] at this <;> first | exact ⟨_, rfl⟩ | cases this
end Go.Proofs.YtpobhbdomldecaaGreatDoor
namespace Go.Proofs.YtpobhbdomldecaaGreatDoor
open Go.RowKit
set_option linter.unusedSimpArgs false
set_option linter.unusedVariables false
def stopC (f : Nat) : List PanicEntry := [{ v := .iface 211 (.agg #[.iface 290 (.pointer (some ⟨f, 0, none⟩))]), recovered := false }]
structure RdEnv (B : Nat) (w : World) (qb rb : Nat) (s : ByteArray) (a : Nat) : Prop where
  q : w.heap[qb]? = some (.cells #[.pointer (some ⟨rb, 0, none⟩)] 217 (0, 0))
  r : RdB w rb s a 10240
  tabs : Tabs B w
  bq : B ≤ qb
  br : B ≤ rb
  ne : qb ≠ rb
  at_le : a ≤ s.size
  sz : s.size ≤ 9223372036854775807
theorem RdEnv.below {B : Nat} {w w' : World} {qb rb : Nat} {s : ByteArray} {a : Nat} (h : RdEnv B w qb rb s a) (hb : Below w.heap.size w w') : RdEnv B w' qb rb s a :=
  ⟨(hb.block _ (lt_of_block h.q)).trans h.q, h.r.below hb, h.tabs.below hb, h.bq, h.br, h.ne, h.at_le, h.sz⟩
theorem RdEnv.step {B : Nat} {w w' : World} {qb rb : Nat} {s : ByteArray} {a a' : Nat} (h : RdEnv B w qb rb s a) (hE : ExtB (some rb) w w') (hr : RdB w' rb s a' 10240) (ha : a' ≤ s.size) : RdEnv B w' qb rb s a' :=
  ⟨(hE.block _ (lt_of_block h.q) (by simpa using h.ne)).trans h.q, hr, h.tabs.ext hE h.br, h.bq, h.br, h.ne, ha, h.sz⟩
end Go.Proofs.YtpobhbdomldecaaGreatDoor
namespace Go.Proofs.YtpobhbdomldecaaGreatDoor
open Go.RowKit
set_option linter.unusedSimpArgs false
set_option linter.unusedVariables false
structure Rev where
  pos : Int
  L : Int
  signed : Bool
  idx : Int
  wa : Option Addr
  wn : Nat
  wc : Nat
  pa : Option Addr
  pn : Nat
  pc : Nat
  root : ByteArray
  wt : Int
  first : Int
  life : Int
  keys : Int
abbrev Rev.val (r : Rev) : Value := .agg #[.int .u64 r.pos, .int .u64 r.L, .bool r.signed, .int .u64 r.idx, .slice r.wa r.wn r.wc, .slice r.pa r.pn r.pc, .string r.root, .int .u64 r.wt, .int .u64 r.first, .int .u64 r.life, .int .u64 r.keys]
def Rev.zero : Rev := ⟨0, 0, false, 0, none, 0, 0, none, 0, 0, ByteArray.empty, 0, 0, 0, 0⟩
def revnth (l : List Rev) (i : Nat) : Rev := l.getD i Rev.zero
structure RevAt (w : World) (b o : Nat) (r : Rev) : Prop where
  c0 : w.cell? ⟨b, o, none⟩ = some (.int .u64 r.pos)
  c1 : w.cell? ⟨b, o + 1, none⟩ = some (.int .u64 r.L)
  c2 : w.cell? ⟨b, o + 2, none⟩ = some (.bool r.signed)
  c3 : w.cell? ⟨b, o + 3, none⟩ = some (.int .u64 r.idx)
  c4 : w.cell? ⟨b, o + 4, none⟩ = some (.slice r.wa r.wn r.wc)
  c5 : w.cell? ⟨b, o + 5, none⟩ = some (.slice r.pa r.pn r.pc)
  c6 : w.cell? ⟨b, o + 6, none⟩ = some (.string r.root)
  c7 : w.cell? ⟨b, o + 7, none⟩ = some (.int .u64 r.wt)
  c8 : w.cell? ⟨b, o + 8, none⟩ = some (.int .u64 r.first)
  c9 : w.cell? ⟨b, o + 9, none⟩ = some (.int .u64 r.life)
  c10 : w.cell? ⟨b, o + 10, none⟩ = some (.int .u64 r.keys)
theorem RevAt.below {w w' : World} {b o : Nat} {r : Rev} (h : RevAt w b o r) (hb : Below w.heap.size w w') : RevAt w' b o r := by
  have hl := lt_of_cell h.c0
  have e : ∀ q, w'.cell? ⟨b, q, none⟩ = w.cell? ⟨b, q, none⟩ := fun q => hb.cell (p := ⟨b, q, none⟩) hl
  obtain ⟨c0, c1, c2, c3, c4, c5, c6, c7, c8, c9, c10⟩ := h
  constructor <;> (rw [e]; assumption)
def Revs (w : World) (a : Option Addr) (l : List Rev) : Prop :=
  ∀ i, i < len l → ∃ b off, a = some ⟨b, off, none⟩ ∧ RevAt w b (off + i * 11) (revnth l i)
theorem Revs.below {w w' : World} {a : Option Addr} {l : List Rev} (h : Revs w a l) (hb : Below w.heap.size w w') : Revs w' a l := fun i hi => by
  obtain ⟨b, off, rfl, hc⟩ := h i hi
  exact ⟨b, off, rfl, hc.below hb⟩
theorem Revs.drew {w w' : World} {a : Option Addr} {l : List Rev} (h : Revs w a l) (hb : Drew w w') : Revs w' a l := h.below (hb.below _)
def Rev.cells (r : Rev) : List Value := [.int .u64 r.pos, .int .u64 r.L, .bool r.signed, .int .u64 r.idx, .slice r.wa r.wn r.wc, .slice r.pa r.pn r.pc, .string r.root, .int .u64 r.wt, .int .u64 r.first, .int .u64 r.life, .int .u64 r.keys]
end Go.Proofs.YtpobhbdomldecaaGreatDoor
namespace Go.Proofs.YtpobhbdomldecaaGreatDoor
open Go.RowKit
set_option linter.unusedSimpArgs false
set_option linter.unusedVariables false
def sth (l : List ByteArray) (i : Nat) : ByteArray := l.getD i ByteArray.empty
def Txs (w : World) (a : Option Addr) (l : List ByteArray) : Prop :=
  ∀ i, i < len l → ∃ b off, a = some ⟨b, off, none⟩ ∧ w.cell? ⟨b, off + i, none⟩ = some (.string (sth l i))
theorem Txs.below {w w' : World} {a : Option Addr} {l : List ByteArray} (h : Txs w a l) (hb : Below w.heap.size w w') : Txs w' a l := fun i hi => by
  obtain ⟨b, off, rfl, hc⟩ := h i hi
  exact ⟨b, off, rfl, by rw [hb.cell (p := ⟨b, off + i, none⟩) (lt_of_cell hc)]; exact hc⟩
theorem Txs.drew {w w' : World} {a : Option Addr} {l : List ByteArray} (h : Txs w a l) (hb : Drew w w') : Txs w' a l := h.below (hb.below _)
end Go.Proofs.YtpobhbdomldecaaGreatDoor
namespace Go.Proofs.YtpobhbdomldecaaGreatDoor
open Go.RowKit
set_option linter.unusedSimpArgs false
set_option linter.unusedVariables false
def hiL (n : Int) : Nat → List Int
  | 0 => []
  | k + 1 => (n / 256 ^ k % 256) :: hiL n k
theorem hiL_len (n : Int) : ∀ k, (hiL n k).length = k
  | 0 => rfl
  | k + 1 => by rw [hiL, List.length_cons, hiL_len n k]
def toB (x : Int) : UInt8 := UInt8.ofNat x.toNat
theorem nat_toB {x : Int} (h0 : 0 ≤ x) (h1 : x ≤ 255) : ((toB x).toNat : Int) = x := by
  unfold toB; rw [UInt8.toNat_ofNat']; omega
theorem ba_ext {s t : ByteArray} (h : s.data.toList = t.data.toList) : s = t := ByteArray.ext (Array.ext' h)
theorem ba_len (s : ByteArray) : s.data.toList.length = s.size := by rw [Array.length_toList]; rfl
def baL (l : List UInt8) : ByteArray := ⟨l.toArray⟩
theorem baL_list (l : List UInt8) : (baL l).data.toList = l := rfl
theorem baL_size (l : List UInt8) : (baL l).size = l.length := by show l.toArray.size = _; simp
theorem baL_app (a b : List UInt8) : baL (a ++ b) = baL a ++ baL b := ba_ext (by rw [baL_list, ByteArray.data_append, Array.toList_append, baL_list, baL_list])
structure PRow where
  below : Int
  first : Int
  size : Int
abbrev PRow.val (r : PRow) : Value := .agg #[.int .u64 r.below, .int .u8 r.first, .int .i64 r.size]
def PRow.cells (r : PRow) : List Value := [.int .u64 r.below, .int .u8 r.first, .int .i64 r.size]
theorem PRow.cells_len (r : PRow) : r.cells.length = 3 := rfl
theorem PRow.cells_one (r : PRow) : ∀ u ∈ r.cells, u.oneCell' = true := by intro u hu; simp only [PRow.cells, List.mem_cons, List.not_mem_nil, or_false] at hu; rcases hu with rfl | rfl | rfl <;> rfl
def PRow.zero : PRow := ⟨0, 0, 0⟩
def prth (l : List PRow) (i : Nat) : PRow := l.getD i PRow.zero
theorem prth_eq (l : List PRow) (i : Nat) (h : i < l.length) : prth l i = l[i] := by unfold prth; rw [List.getD_eq_getElem?_getD, List.getElem?_eq_getElem h]; rfl
structure PRowAt (w : World) (b o : Nat) (r : PRow) : Prop where
  c0 : w.cell? ⟨b, o, none⟩ = some (.int .u64 r.below)
  c1 : w.cell? ⟨b, o + 1, none⟩ = some (.int .u8 r.first)
  c2 : w.cell? ⟨b, o + 2, none⟩ = some (.int .i64 r.size)
theorem PRowAt.below {w w' : World} {b o : Nat} {r : PRow} (h : PRowAt w b o r) (hb : Below w.heap.size w w') : PRowAt w' b o r := by
  have hl := lt_of_cell h.c0
  have e : ∀ q, w'.cell? ⟨b, q, none⟩ = w.cell? ⟨b, q, none⟩ := fun q => hb.cell (p := ⟨b, q, none⟩) hl
  obtain ⟨c0, c1, c2⟩ := h
  constructor <;> (rw [e]; assumption)
def PRows (w : World) (a : Option Addr) (l : List PRow) : Prop := ∀ i, i < len l → ∃ b off, a = some ⟨b, off, none⟩ ∧ PRowAt w b (off + i * 3) (prth l i)
theorem PRows.nil (w : World) (a : Option Addr) : PRows w a [] := fun i hi => absurd hi (by simp [len])
theorem PRows.below {w w' : World} {a : Option Addr} {l : List PRow} (h : PRows w a l) (hb : Below w.heap.size w w') : PRows w' a l := fun i hi => by
  obtain ⟨b, off, rfl, hc⟩ := h i hi
  exact ⟨b, off, rfl, hc.below hb⟩
theorem PRows.drew {w w' : World} {a : Option Addr} {l : List PRow} (h : PRows w a l) (hb : Drew w w') : PRows w' a l := h.below (hb.below _)
theorem PRows.take {w : World} {a : Option Addr} {l : List PRow} (h : PRows w a l) (k : Nat) : PRows w a (l.take k) := fun i hi => by
  have hi2 : i < l.length ∧ i < k := by simp only [len, List.length_take] at hi; omega
  have hi3 : i < (l.take k).length := hi
  have e : prth (l.take k) i = prth l i := by rw [prth_eq l i hi2.1, prth_eq _ i hi3, List.getElem_take]
  rw [e]; exact h i hi2.1
theorem PRows.drop {w : World} {b off : Nat} {l : List PRow} (h : PRows w (some ⟨b, off, none⟩) l) (k : Nat) : PRows w (some ⟨b, off + k * 3, none⟩) (l.drop k) := fun i hi => by
  have hi2 : k + i < l.length := by simp only [len, List.length_drop] at hi; omega
  have hi3 : i < (l.drop k).length := hi
  have e : prth (l.drop k) i = prth l (k + i) := by rw [prth_eq l _ hi2, prth_eq _ i hi3, List.getElem_drop]
  obtain ⟨b', off', e2, hc⟩ := h (k + i) hi2
  cases e2
  exact ⟨b, _, rfl, by rw [e, show off + k * 3 + i * 3 = off + (k + i) * 3 by omega]; exact hc⟩
theorem PRows.own {w : World} {base e n : Nat} {v : Value} {l : List PRow} (h : w.ownsRow base e 3 v n (l.flatMap PRow.cells)) : ∃ a cap, v = .slice a (len l) cap ∧ PRows w a l ∧ len l ≤ cap := by
  have hn : len l = n := by have := h.1; rw [flat_length PRow.cells 3 PRow.cells_len] at this; rw [len_eq]; omega
  obtain ⟨h1, h2⟩ := h
  rcases h2 with ⟨rfl, h2⟩ | ⟨g, cap, cur, rfl, hg, hh, hc1, hc2, hc3, hc4⟩
  · obtain rfl : l = [] := List.eq_nil_of_length_eq_zero (by rw [← len_eq]; omega)
    exact ⟨none, 0, rfl, PRows.nil _ _, Nat.le_refl _⟩
  · refine ⟨some ⟨g, 0, none⟩, cap, by rw [hn], fun i hi => ⟨g, 0, rfl, ?_⟩, by omega⟩
    have hown : w.ownsRow base e 3 (.slice (some ⟨g, 0, none⟩) n cap) n (l.flatMap PRow.cells) := ⟨h1, .inr ⟨g, cap, cur, rfl, hg, hh, hc1, hc2, hc3, hc4⟩⟩
    have key : ∀ r, r < 3 → w.cell? ⟨g, 0 + i * 3 + r, none⟩ = (prth l i).cells[r]? := fun r hr => by
      have := hown.cellAt (i * 3 + r) (by rw [← hn]; omega)
      rw [Nat.zero_add, this, flat_get PRow.cells 3 PRow.cells_len l i r hi hr, prth_eq l i hi]
    exact ⟨key 0 (by decide), key 1 (by decide), key 2 (by decide)⟩
theorem PRows.block {w : World} {g : Nat} {l : List PRow} {t : TypeId} {fr : Nat × Nat} (h : w.heap[g]? = some (.cells (l.flatMap PRow.cells).toArray t fr)) : PRows w (some ⟨g, 0, none⟩) l := fun i hi => ⟨g, 0, rfl, by
  have key : ∀ r, r < 3 → w.cell? ⟨g, 0 + i * 3 + r, none⟩ = (prth l i).cells[r]? := fun r hr => by
    rw [Nat.zero_add, block_cell h, List.getElem?_toArray, flat_get PRow.cells 3 PRow.cells_len l i r hi hr, prth_eq l i hi]
  exact ⟨key 0 (by decide), key 1 (by decide), key 2 (by decide)⟩⟩
def rowB (r : PRow) (n : Int) : List UInt8 := if r.size = 0 then [toB (r.first + n)] else toB r.first :: (hiL n r.size.toNat).map toB
def hrowsP (sort : Nat) : List PRow :=
  match sort with
  | 1 => [⟨256, 196, 1⟩, ⟨65536, 197, 2⟩]
  | 2 => [⟨32, 160, 0⟩, ⟨256, 217, 1⟩, ⟨65536, 218, 2⟩]
  | 3 => [⟨16, 144, 0⟩, ⟨65536, 220, 2⟩]
  | 4 => [⟨16, 128, 0⟩, ⟨65536, 222, 2⟩]
  | _ => [⟨128, 0, 0⟩, ⟨256, 204, 1⟩, ⟨65536, 205, 2⟩, ⟨4294967296, 206, 4⟩, ⟨0, 207, 8⟩]
def headP (sort : Nat) (n : Int) : List UInt8 :=
  match (hrowsP sort).find? (fun r => decide (n < r.below ∨ r.below = 0)) with
  | some r => rowB r n
  | none => []
def laidP (sort : Nat) (n : Int) (t : ByteArray) : ByteArray := baL (headP sort n) ++ (if sort = 1 ∨ sort = 2 then t else ByteArray.empty)
theorem headP_len (sort : Nat) (n : Int) : (headP sort n).length ≤ 9 := by
  unfold headP
  split
  · rename_i r hr
    have hm := List.mem_of_find?_eq_some hr
    unfold rowB
    split
    · simp
    · rw [List.length_cons, List.length_map, hiL_len]
      unfold hrowsP at hm
      split at hm <;> simp at hm <;> (first | (rcases hm with rfl | rfl | rfl | rfl | rfl <;> simp) | (rcases hm with rfl | rfl | rfl <;> simp) | (rcases hm with rfl | rfl <;> simp))
  · simp
end Go.Proofs.YtpobhbdomldecaaGreatDoor
namespace Go.Proofs.YtpobhbdomldecaaGreatDoor
open Go.RowKit
set_option linter.unusedSimpArgs false
set_option linter.unusedVariables false
theorem info_u8 : (Tryz.prog.info? 5).map (fun i => (i.zero, i.size, i.bytes)) = some (some (.int .u8 0), 1, 1) := by kernel_rfl
theorem one_u8 (x : Int) : ∀ u ∈ [Value.int .u8 x], u.oneCell' = true := by
  intro u hu; simp at hu; subst hu; rfl
def Not8 (x : Obj) : Prop := ∀ cs fr, x ≠ .cells cs 5 fr
theorem not8_cells {cs : Array Value} {t : TypeId} {fr : Nat × Nat} (h : t ≠ 5) : Not8 (.cells cs t fr) := fun _ _ e => by cases e; exact h rfl
structure WK (base b : Nat) (w w' : World) : Prop where
  bel : Below base w w'
  keep : ∀ k x, w.heap[k]? = some x → k ≠ b → Not8 x → w'.heap[k]? = some x
theorem WK.refl (base b : Nat) (w : World) : WK base b w w := ⟨Below.refl _ _, fun _ _ h _ _ => h⟩
theorem WK.trans {base b : Nat} {w w' w'' : World} (h : WK base b w w') (k : WK base b w' w'') : WK base b w w'' := ⟨h.bel.trans k.bel, fun j x hx hj hn => k.keep j x (h.keep j x hx hj hn) hj hn⟩
theorem WK.of_below {base b : Nat} {w w' : World} (h : Below w.heap.size w w') (hb : base ≤ w.heap.size) : WK base b w w' := ⟨h.mono hb, fun k x hx _ _ => (h.block k (lt_of_block hx)).trans hx⟩
theorem WK.next {base b : Nat} {w w1 w2 : World} (h : WK base b w w1) (k : Below w1.heap.size w1 w2) (hb : base ≤ w.heap.size) : WK base b w w2 := h.trans (WK.of_below k (Nat.le_trans hb h.bel.size))
def WrB (w : World) (b base : Nat) (s : ByteArray) : Prop := base ≤ b ∧ ∃ v, w.heap[b]? = some (.cells #[v] 233 (0, 0)) ∧ w.ownsRow base 5 1 v s.size (Lib.strCells s)
theorem WrB.below {w w' : World} {b base : Nat} {s : ByteArray} (h : WrB w b base s) (hb : Below w.heap.size w w') : WrB w' b base s := by
  obtain ⟨h0, v, h1, h2⟩ := h
  exact ⟨h0, v, (hb.block _ (lt_of_block h1)).trans h1, own_below h2 hb⟩
theorem WrB.lt {w : World} {b base : Nat} {s : ByteArray} (h : WrB w b base s) : b < w.heap.size := by
  obtain ⟨h0, v, h1, h2⟩ := h; exact lt_of_block h1
theorem own_not8 {w : World} {base e n k : Nat} {v : Value} {xs : List Value} {x : Obj} (h : w.ownsRow base 5 e v n xs) (hk : w.heap[k]? = some x) (hx : Not8 x) : some k ≠ v.ownBlock := by
  rcases h.2 with ⟨rfl, _⟩ | ⟨g, cap, cur, rfl, _, hg, _⟩
  · intro e; cases e
  · intro e
    obtain rfl : k = g := by simpa [Value.ownBlock] using e
    rw [hg] at hk
    cases hk
    exact hx _ _ rfl
theorem wr_step {w w1 : World} {b base n : Nat} {v v' : Value} {xs ys : List Value} {s' : ByteArray} (hb : base ≤ b) (h1 : w.heap[b]? = some (.cells #[v] 233 (0, 0))) (hown : w.ownsRow base 5 1 v n xs) (hE : ExtB v.ownBlock w.drew w1)
    (hown' : w1.ownsRow base 5 1 v' s'.size ys) (hy : ys = Lib.strCells s') :
    w1.cell? ⟨b, 0, none⟩ = some v ∧ w1.frozen? ⟨b, 0, none⟩ = false ∧ WrB (w1.setCell ⟨b, 0, none⟩ v') b base s' ∧ WK base b w (w1.setCell ⟨b, 0, none⟩ v') := by
  have hn8 : Not8 (.cells #[v] 233 (0, 0)) := not8_cells (by decide)
  have hlt := lt_of_block h1
  have hb1 : w1.heap[b]? = some (.cells #[v] 233 (0, 0)) := by
    rw [hE.block b hlt (own_not8 hown h1 hn8)]; exact h1
  have hne := own_not8 hown' hb1 hn8
  refine ⟨block_cell hb1 0, block_free hb1 0, ⟨hb, v', block_setCell hb1 v', ?_⟩, ⟨?_, fun k x hx hk hnx => ?_⟩⟩
  · subst hy
    refine hown'.kept ⟨rfl, rfl, rfl, (by simp [World.setCell]), fun k _ hk => Below.heap_setCell _ _ _ k (fun e => hk (by rw [e]))⟩ (row := some b) (.inr (fun e => hne e.symm))
  · refine Below.setCell (Below.grown ((Below.refl base w).drew) hE (by show base ≤ w.heap.size; omega) (fun k hk => (hown.lt k hk).1)) hb v'
  · rw [Below.heap_setCell _ _ _ _ hk, hE.block k (lt_of_block hx) (own_not8 hown hx hnx)]; exact hx
theorem own_slice {w : World} {base e n : Nat} {v : Value} {xs : List Value} (h : w.ownsRow base e 1 v (n + 1) xs) : ∃ g cap, v = .slice (some ⟨g, 0, none⟩) (n + 1) cap := by
  rcases h.2 with ⟨_, h2⟩ | ⟨g, cap, cur, h3, _⟩
  · omega
  · exact ⟨g, cap, h3⟩
theorem strCells_app (s t : ByteArray) : Lib.strCells (s ++ t) = Lib.strCells s ++ Lib.strCells t := by
  unfold Lib.strCells; rw [ByteArray.data_append, Array.toList_append, List.map_append]
theorem strCells_one {y : Int} (h0 : 0 ≤ y) (h1 : y ≤ 255) : Lib.strCells (baL [toB y]) = [.int .u8 y] := by
  unfold Lib.strCells; rw [baL_list, List.map_cons, List.map_nil, nat_toB h0 h1]
theorem baL_one (s : ByteArray) (x : UInt8) : (s ++ baL [x]).size = s.size + 1 := by rw [ByteArray.size_append, baL_size]; rfl
end Go.Proofs.YtpobhbdomldecaaGreatDoor
namespace Go.Proofs.YtpobhbdomldecaaGreatDoor
open Go.RowKit
set_option linter.unusedSimpArgs false
set_option linter.unusedVariables false
structure PRow.Ok (r : PRow) (n : Int) : Prop where
  b0 : 0 ≤ r.below
  b1 : r.below ≤ 18446744073709551615
  f0 : 0 ≤ r.first
  f1 : r.first ≤ 255
  s0 : 0 ≤ r.size
  s1 : r.size ≤ 8
  fit : r.size = 0 → (n < r.below ∨ r.below = 0) → r.first + n ≤ 255
def Head1Is (r : PRow) (n : Int) (s : ByteArray) (b base : Nat) (w : World) (e : Ending) (w' : World) : Prop :=
  e = .returned (.bool (decide (n < r.below ∨ r.below = 0))) ∧ WrB w' b base (if n < r.below ∨ r.below = 0 then s ++ baL (rowB r n) else s) ∧ WK base b w w'
theorem hi_next (n : Int) (k i : Nat) (h : i < k) : (hiL n k).take (k - i) = (hiL n k).take (k - (i + 1)) ++ [n / 256 ^ i % 256] := by
  have hl := hiL_len n k
  have key : ∀ k, i < k → (hiL n k)[k - (i + 1)]? = some (n / 256 ^ i % 256) := by
    intro k
    induction k with
    | zero => intro h; omega
    | succ k ih =>
      intro h
      rw [hiL]
      by_cases e : i = k
      · subst e; simp
      · have h2 := ih (by omega)
        rw [show k + 1 - (i + 1) = (k - (i + 1)) + 1 by omega, List.getElem?_cons_succ]; exact h2
  have h3 := key k h
  rw [show k - i = k - (i + 1) + 1 by omega, List.take_add_one, h3]; rfl
set_option maxRecDepth 100000 in
set_option maxHeartbeats 4000000 in
theorem head1_any (r : PRow) (bn bw b base : Nat) (n : Int) (s : ByteArray) (w : World) (hn : w.heap[bn]? = some (.cells #[.int .u64 n] 23 (0, 0))) (hw : w.heap[bw]? = some (.cells #[.pointer (some ⟨b, 0, none⟩)] 177 (0, 0)))
    (hW : WrB w b base s) (h0 : 0 ≤ n) (h1 : n ≤ 18446744073709551615) (hr : r.Ok n) (hs : s.size ≤ 70000000000000) :
    Calls Tryz.prog 291 #[r.val, .pointer (some ⟨bn, 0, none⟩), .pointer (some ⟨bw, 0, none⟩)] w (Head1Is r n s b base w) := by
  have HR := Lib.hid hr
  have HN := Lib.hid hn
  have HW2 := Lib.hid hw
  have HWR := Lib.hid hW
  have cn := block_cell hn 0
  have cw := block_cell hw 0
  simp only [List.getElem?_toArray, List.getElem?_cons_zero] at cn cw
  have lbn := lt_of_block hn
  have lbw := lt_of_block hw
  clear hr hn hw hW
  unfold PRow.val
  by_cases hx : n < r.below ∨ r.below = 0
  · have HX : Hid (decide (n < r.below ∨ r.below = 0) = true) := Lib.hid (decide_eq_true hx)
    have hcase : decide (r.below ≤ n) = false ∨ (decide (r.below ≤ n) = true ∧ decide (0 < r.below) = false) := by
      rcases hx with h | h
      · exact .inl (decide_eq_false (by omega))
      · exact .inr ⟨decide_eq_true (by omega), decide_eq_false (by omega)⟩
    have HCS := Lib.hid hcase
    have hfit := fun h => HR.out.fit h hx
    have HFIT := Lib.hid hfit
    have HIF : Hid ((if n < r.below ∨ r.below = 0 then s ++ baL (rowB r n) else s) = s ++ baL (rowB r n)) := Lib.hid (if_pos hx)
    have f0 := HR.out.f0
    have f1 := HR.out.f1
    have s0 := HR.out.s0
    have s1 := HR.out.s1
    clear hx hfit hcase
    obtain ⟨hbase, v, hv, hown⟩ := HWR.out
    have n8w : Not8 (.cells #[v] 233 (0, 0)) := not8_cells (by decide)
    have n8n : Not8 (.cells #[.int .u64 n] 23 (0, 0)) := not8_cells (by decide)
    have n8b : Not8 (.cells #[.pointer (some ⟨b, 0, none⟩)] 177 (0, 0)) := not8_cells (by decide)
    have n8r : Not8 (.cells #[.int .u64 r.below, .int .u8 r.first, .int .i64 r.size] 336 (0, 0)) := not8_cells (by decide)
    obtain ⟨i0, hi, hz0, hz1, hz2⟩ := info_parts info_u8
    have cb := block_cell hv 0
    simp only [List.getElem?_toArray, List.getElem?_cons_zero] at cb
    have HV := Lib.hid hv
    have HOWN0 := Lib.hid hown
    have hltb := HWR.out.lt
    have HBS : Hid (base ≤ w.heap.size) := Lib.hid (by omega)
    clear hv hown
    have hcs := HCS.out
    clear HCS
    rcases hcs with g1 | ⟨g1, g2⟩
    · skip
      go_enter Tryz.func291, Tryz.ntmps291
      by_cases hsz : r.size = 0
      · have e0 : (r.size == 0) = true := by simpa using hsz
        have HSZ := Lib.hid hsz
        clear hsz
        go_upto_region 4 with fail
        obtain ⟨br, hbr⟩ : ∃ br, w.heap.size = br := ⟨_, rfl⟩
        obtain ⟨V, hV⟩ : ∃ V, w.alloc (.cells #[.int .u64 r.below, .int .u8 r.first, .int .i64 r.size] 336) = V := ⟨_, rfl⟩
        have VB : Hid (Below w.heap.size w V) := Lib.hid (by rw [← hV]; exact balloc (Below.refl _ _) _)
        have VR : Hid (V.heap[br]? = some (.cells #[.int .u64 r.below, .int .u8 r.first, .int .i64 r.size] 336 (0, 0))) := Lib.hid (by rw [← hV, ← hbr]; exact heap_alloc_new _ _)
        have VN : Hid (V.heap[bn]? = some (.cells #[.int .u64 n] 23 (0, 0))) := Lib.hid ((VB.out.block _ (lt_of_block HN.out)).trans HN.out)
        have VW : Hid (V.heap[bw]? = some (.cells #[.pointer (some ⟨b, 0, none⟩)] 177 (0, 0))) := Lib.hid ((VB.out.block _ (lt_of_block HW2.out)).trans HW2.out)
        have VV : Hid (V.heap[b]? = some (.cells #[v] 233 (0, 0))) := Lib.hid ((VB.out.block _ hltb).trans HV.out)
        have HOWN := Lib.hid (own_below HOWN0.out VB.out)
        have HQ : Hid (∀ g, v.ownBlock = some g → base ≤ g ∧ g < V.heap.size) := Lib.hid (fun g hg => HOWN.out.lt g hg)
        have n1 := own_not8 HOWN.out VN.out n8n
        have n2 := own_not8 HOWN.out VW.out n8b
        have n3 := own_not8 HOWN.out VR.out n8r
        have n4 := own_not8 HOWN.out VV.out n8w
        have c1 : V.cell? ⟨bn, 0, none⟩ = some (.int .u64 n) := block_cell VN.out 0
        have c2 : V.cell? ⟨bw, 0, none⟩ = some (.pointer (some ⟨b, 0, none⟩)) := block_cell VW.out 0
        have c3 : V.cell? ⟨br, 1, none⟩ = some (.int .u8 r.first) := block_cell VR.out 1
        have c4 : V.cell? ⟨b, 0, none⟩ = some v := block_cell VV.out 0
        have hbV : base ≤ V.heap.size := Nat.le_trans hbase (Nat.le_of_lt (lt_of_block VV.out))
        obtain ⟨y, hy⟩ : ∃ y, r.first + n = y := ⟨_, rfl⟩
        have hy1 : y ≤ 255 := by rw [← hy]; exact HFIT.out HSZ.out
        have y0 : IntKind.u8.wrap n = n := IntWalk.u8_in _ (by omega)
        have y1 : IntKind.u8.wrap (r.first + n) = y := by rw [hy]; exact IntWalk.u8_in _ (by omega)
        have hy0 : 0 ≤ y := by omega
        have HY := Lib.hid hy
        rw [hbr]
        try rw [hV]
        clear hV hbr hy cn cw cb
        refine wp_region_tail 14 11 (v.ownBlock) (phis [fun u _ => u = (.pointer (some ⟨b, 0, none⟩)), fun u _ => u = (.pointer (some ⟨b, 0, none⟩)), fun u _ => u = (.pointer (some ⟨b, 0, none⟩)), fun u _ => u = (.pointer (some ⟨b, 0, none⟩)), fun u _ => u = (v), fun u _ => u = (.pointer (some ⟨br, 1, none⟩)), fun u _ => u = (.int .u8 r.first), fun u _ => u = (.int .u64 n), fun u _ => u = (.int .u8 n), fun u _ => u = (.int .u8 y), fun u w' => ∃ b, u = .slice (some ⟨b, 0, none⟩) 1 1 ∧ some b ≠ v.ownBlock ∧ w'.heap[b]? = some (.cells ([.int .u8 y]).toArray 5 (0, 0)), fun u w' => w'.ownsRow (base) 5 1 u (s.size + 1) (Lib.strCells s ++ [.int .u8 y]), fun u _ => u = (.pointer (some ⟨b, 0, none⟩)), fun u _ => u = (.pointer (some ⟨b, 0, none⟩))]) rfl (by kernel_rfl) (by kernel_rfl) (mono_of ⟨mono_eq, mono_eq, mono_eq, mono_eq, mono_eq, mono_eq, mono_eq, mono_eq, mono_eq, mono_eq, ?m10, ?m11, mono_eq, mono_eq, trivial⟩) (steps_of 14 ⟨?s0, ?s1, ?s2, ?s3, ?s4, ?s5, ?s6, ?s7, ?s8, ?s9, ?s10, ?s11, ?s12, ?s13, trivial⟩) ?_
        case m10 =>
          exact ⟨fun u w1 w' h ⟨b, h1, hb, hb'⟩ => ⟨b, h1, hb, ext_block h hb'⟩, fun _ u w1 w' h ⟨b, h1, hb, hb'⟩ => ⟨b, h1, hb, extB_block h hb hb'⟩⟩
        case m11 =>
          exact ⟨fun u w1 w' h hu => own_below hu h, fun hn => absurd rfl hn⟩
        case s0 =>
          refine step_val (v := (.pointer (some ⟨b, 0, none⟩))) (fun av wv hE hS hO hD => ?_) (fun _ => rfl)
          have h2 : av.eval (.tmp 2) = (.pointer (some ⟨bw, 0, none⟩)) := hO.2.2 2 rfl
          have f2 := (ev_form av 2).symm.trans h2
          have c1 := extB_cell hE n1 c1
          have c2 := extB_cell hE n2 c2
          have c3 := extB_cell hE n3 c3
          have c4 := extB_cell hE n4 c4
          refine ⟨rfl, ?_⟩
          simp [go_sem, f2, c1, c2, c3, c4, y0, y1]
        case s1 =>
          refine step_val (v := (.pointer (some ⟨b, 0, none⟩))) (fun av wv hE hS hO hD => ?_) (fun _ => rfl)
          have h2 : av.eval (.tmp 2) = (.pointer (some ⟨bw, 0, none⟩)) := hO.2.2 2 rfl
          have f2 := (ev_form av 2).symm.trans h2
          have c1 := extB_cell hE n1 c1
          have c2 := extB_cell hE n2 c2
          have c3 := extB_cell hE n3 c3
          have c4 := extB_cell hE n4 c4
          refine ⟨rfl, ?_⟩
          simp [go_sem, f2, c1, c2, c3, c4, y0, y1]
        case s2 =>
          refine step_val (v := (.pointer (some ⟨b, 0, none⟩))) (fun av wv hE hS hO hD => ?_) (fun _ => rfl)
          have d19 : av.eval (.tmp 19) = (.pointer (some ⟨b, 0, none⟩)) := hD.1 rfl _ rfl
          have f19 := (ev_form av 19).symm.trans d19
          refine ⟨rfl, ?_⟩
          simp [go_sem, f19, y0, y1]
        case s3 =>
          refine step_val (v := (.pointer (some ⟨b, 0, none⟩))) (fun av wv hE hS hO hD => ?_) (fun _ => rfl)
          have d20 : av.eval (.tmp 20) = (.pointer (some ⟨b, 0, none⟩)) := hD.1 rfl _ rfl
          have f20 := (ev_form av 20).symm.trans d20
          refine ⟨rfl, ?_⟩
          simp [go_sem, f20, y0, y1]
        case s4 =>
          refine step_val (v := (v)) (fun av wv hE hS hO hD => ?_) (fun _ => rfl)
          have d21 : av.eval (.tmp 21) = (.pointer (some ⟨b, 0, none⟩)) := hD.1 rfl _ rfl
          have f21 := (ev_form av 21).symm.trans d21
          have c1 := extB_cell hE n1 c1
          have c2 := extB_cell hE n2 c2
          have c3 := extB_cell hE n3 c3
          have c4 := extB_cell hE n4 c4
          refine ⟨rfl, ?_⟩
          simp [go_sem, f21, c1, c2, c3, c4, y0, y1]
        case s5 =>
          refine step_val (v := (.pointer (some ⟨br, 1, none⟩))) (fun av wv hE hS hO hD => ?_) (fun _ => rfl)
          have h3 : av.eval (.tmp 3) = (.pointer (some ⟨br, 0, none⟩)) := hO.2.2 3 rfl
          have f3 := (ev_form av 3).symm.trans h3
          refine ⟨rfl, ?_⟩
          simp [go_sem, f3, y0, y1]
        case s6 =>
          refine step_val (v := (.int .u8 r.first)) (fun av wv hE hS hO hD => ?_) (fun _ => rfl)
          have d23 : av.eval (.tmp 23) = (.pointer (some ⟨br, 1, none⟩)) := hD.1 rfl _ rfl
          have f23 := (ev_form av 23).symm.trans d23
          have c1 := extB_cell hE n1 c1
          have c2 := extB_cell hE n2 c2
          have c3 := extB_cell hE n3 c3
          have c4 := extB_cell hE n4 c4
          refine ⟨rfl, ?_⟩
          simp [go_sem, f23, c1, c2, c3, c4, y0, y1]
        case s7 =>
          refine step_val (v := (.int .u64 n)) (fun av wv hE hS hO hD => ?_) (fun _ => rfl)
          have h1 : av.eval (.tmp 1) = (.pointer (some ⟨bn, 0, none⟩)) := hO.2.2 1 rfl
          have f1 := (ev_form av 1).symm.trans h1
          have c1 := extB_cell hE n1 c1
          have c2 := extB_cell hE n2 c2
          have c3 := extB_cell hE n3 c3
          have c4 := extB_cell hE n4 c4
          refine ⟨rfl, ?_⟩
          simp [go_sem, f1, c1, c2, c3, c4, y0, y1]
        case s8 =>
          refine step_val (v := (.int .u8 n)) (fun av wv hE hS hO hD => ?_) (fun _ => rfl)
          have d25 : av.eval (.tmp 25) = (.int .u64 n) := hD.1 rfl _ rfl
          have f25 := (ev_form av 25).symm.trans d25
          refine ⟨rfl, ?_⟩
          simp [go_sem, f25, y0, y1]
        case s9 =>
          refine step_val (v := (.int .u8 y)) (fun av wv hE hS hO hD => ?_) (fun _ => rfl)
          have d24 : av.eval (.tmp 24) = (.int .u8 r.first) := hD.1 rfl _ rfl
          have f24 := (ev_form av 24).symm.trans d24
          have d26 : av.eval (.tmp 26) = (.int .u8 n) := hD.2.1 rfl _ rfl
          have f26 := (ev_form av 26).symm.trans d26
          refine ⟨rfl, ?_⟩
          simp [go_sem, f24, f26, y0, y1]
        case s10 =>
          refine step_wp (fun av wv hE hS hO hD => ?_)
          have d27 : av.eval (.tmp 27) = (.int .u8 y) := hD.1 rfl _ rfl
          have f27 := (ev_form av 27).symm.trans d27
          refine ⟨rfl, ?_⟩
          refine wp_of_run (v := .slice (some ⟨wv.heap.size, 0, none⟩) 1 1) (w' := wv.alloc (.cells ([.int .u8 y]).toArray 5)) (by first | (simp [go_sem, f27, y0, y1]; done) | (simp [go_sem, f27, y0, y1]; rfl)) ⟨_, rfl, es_of_ext (balloc (Ext_refl _) _), wv.heap.size, rfl, ?_, heap_alloc_new _ _⟩
          exact fun e => absurd (HQ.out _ e.symm).2 (by have := hE.size; simp at this; omega)
        case s11 =>
          refine step_wp (fun av wv hE hS hO hD => ?_)
          have d22 : av.eval (.tmp 22) = (v) := hD.1 rfl _ rfl
          have f22 := (ev_form av 22).symm.trans d22
          have d28 : (fun u w' => ∃ b, u = .slice (some ⟨b, 0, none⟩) 1 1 ∧ some b ≠ v.ownBlock ∧ w'.heap[b]? = some (.cells ([.int .u8 y]).toArray 5 (0, 0))) (av.eval (.tmp 28)) wv := hD.2.1 rfl _ rfl
          refine ⟨rfl, ?_⟩
          obtain ⟨bS, hS1, hbS, hcS⟩ := d28
          have hown1 : wv.ownsRow (base) 5 1 (v) (s.size) (Lib.strCells s) := own_below (w := World.drew _) (HOWN.out) (hS rfl)
          refine wp_append_lies wv _ _ _ rfl (base) 5 i0 (.int .u8 0) 1 1 Tryz.underlying41 hi hz0 hz1 hz2 rfl (by decide) (v) (s.size) _ d22 hown1 ⟨bS, 0, none⟩ 1 1 ([.int .u8 y]) (by exact hS1) rfl (World.news_of_block hcS) (one_u8 _) (by decide) (by unfold maxLen; omega) (by omega) (by have := hE.size; simp at this; omega) _ rfl ?_
          intro g cap1 w2 hown2 hgrow hat hlt2
          exact ⟨_, rfl, es_sp hgrow, hown2⟩
        case s12 =>
          refine step_val (v := (.pointer (some ⟨b, 0, none⟩))) (fun av wv hE hS hO hD => ?_) (fun _ => rfl)
          have d18 : av.eval (.tmp 18) = (.pointer (some ⟨b, 0, none⟩)) := hD.1 rfl _ rfl
          have f18 := (ev_form av 18).symm.trans d18
          refine ⟨rfl, ?_⟩
          simp [go_sem, f18, y0, y1]
        case s13 =>
          refine step_val (v := (.pointer (some ⟨b, 0, none⟩))) (fun av wv hE hS hO hD => ?_) (fun _ => rfl)
          have d30 : av.eval (.tmp 30) = (.pointer (some ⟨b, 0, none⟩)) := hD.1 rfl _ rfl
          have f30 := (ev_form av 30).symm.trans d30
          refine ⟨rfl, ?_⟩
          simp [go_sem, f30, y0, y1]
        intro a' w' hE hO hall
        have hA := act_of_outer (ds := [18, 19, 20, 21, 22, 23, 24, 25, 26, 27, 28, 29, 30, 31]) rfl hO (by kernel_rfl)
        have e18 : (fun u _ => u = (.pointer (some ⟨b, 0, none⟩))) (a'.eval (.tmp 18)) w' := hall.1 _ rfl
        have e19 : (fun u _ => u = (.pointer (some ⟨b, 0, none⟩))) (a'.eval (.tmp 19)) w' := hall.2.1 _ rfl
        have e20 : (fun u _ => u = (.pointer (some ⟨b, 0, none⟩))) (a'.eval (.tmp 20)) w' := hall.2.2.1 _ rfl
        have e21 : (fun u _ => u = (.pointer (some ⟨b, 0, none⟩))) (a'.eval (.tmp 21)) w' := hall.2.2.2.1 _ rfl
        have e22 : (fun u _ => u = (v)) (a'.eval (.tmp 22)) w' := hall.2.2.2.2.1 _ rfl
        have e23 : (fun u _ => u = (.pointer (some ⟨br, 1, none⟩))) (a'.eval (.tmp 23)) w' := hall.2.2.2.2.2.1 _ rfl
        have e24 : (fun u _ => u = (.int .u8 r.first)) (a'.eval (.tmp 24)) w' := hall.2.2.2.2.2.2.1 _ rfl
        have e25 : (fun u _ => u = (.int .u64 n)) (a'.eval (.tmp 25)) w' := hall.2.2.2.2.2.2.2.1 _ rfl
        have e26 : (fun u _ => u = (.int .u8 n)) (a'.eval (.tmp 26)) w' := hall.2.2.2.2.2.2.2.2.1 _ rfl
        have e27 : (fun u _ => u = (.int .u8 y)) (a'.eval (.tmp 27)) w' := hall.2.2.2.2.2.2.2.2.2.1 _ rfl
        have e28 : (fun u w' => ∃ b, u = .slice (some ⟨b, 0, none⟩) 1 1 ∧ some b ≠ v.ownBlock ∧ w'.heap[b]? = some (.cells ([.int .u8 y]).toArray 5 (0, 0))) (a'.eval (.tmp 28)) w' := hall.2.2.2.2.2.2.2.2.2.2.1 _ rfl
        have e29 : (fun u w' => w'.ownsRow (base) 5 1 u (s.size + 1) (Lib.strCells s ++ [.int .u8 y])) (a'.eval (.tmp 29)) w' := hall.2.2.2.2.2.2.2.2.2.2.2.1 _ rfl
        have e30 : (fun u _ => u = (.pointer (some ⟨b, 0, none⟩))) (a'.eval (.tmp 30)) w' := hall.2.2.2.2.2.2.2.2.2.2.2.2.1 _ rfl
        have e31 : (fun u _ => u = (.pointer (some ⟨b, 0, none⟩))) (a'.eval (.tmp 31)) w' := hall.2.2.2.2.2.2.2.2.2.2.2.2.2.1 _ rfl
        obtain ⟨v28, hv28⟩ : ∃ v, a'.eval (.tmp 28) = v := ⟨_, rfl⟩
        rw [hv28] at e28
        obtain ⟨v29, hv29⟩ : ∃ v, a'.eval (.tmp 29) = v := ⟨_, rfl⟩
        rw [hv29] at e29
        simp only [List.foldl_cons, List.foldl_nil, Act.put, List.setIfInBounds_toArray, List.set_cons_succ, List.set_cons_zero, e18, e19, e20, e21, e22, e23, e24, e25, e26, e27, hv28, hv29, e30, e31] at hA
        clear hO hall e18 e19 e20 e21 e22 e23 e24 e25 e26 e27 hv28 hv29 e30 e31
        subst hA
        obtain ⟨ga, gc, rfl⟩ := own_slice e29
        have hst := wr_step (s' := s ++ baL [toB y]) hbase VV.out HOWN.out hE (by rw [baL_one]; exact e29) (by rw [strCells_app, strCells_one hy0 hy1])
        have HST := Lib.hid hst
        have hc4 := hst.1
        have hf4 := hst.2.1
        clear hst hE e29
        go_wp2
        go_ret
        refine ⟨ret_bool HX.out.symm, ?_, (WK.of_below VB.out HBS.out).trans HST.out.2.2.2⟩
        rw [HIF.out]
        have e4 : rowB r n = [toB y] := by unfold rowB; rw [if_pos HSZ.out, HY.out]
        rw [e4]; exact HST.out.2.2.1
      · have e0 : (r.size == 0) = false := by simpa using hsz
        have HSZ := Lib.hid hsz
        clear hsz
        go_upto_region 6 with fail
        obtain ⟨br, hbr⟩ : ∃ br, w.heap.size = br := ⟨_, rfl⟩
        obtain ⟨V, hV⟩ : ∃ V, w.alloc (.cells #[.int .u64 r.below, .int .u8 r.first, .int .i64 r.size] 336) = V := ⟨_, rfl⟩
        have VB : Hid (Below w.heap.size w V) := Lib.hid (by rw [← hV]; exact balloc (Below.refl _ _) _)
        have VR : Hid (V.heap[br]? = some (.cells #[.int .u64 r.below, .int .u8 r.first, .int .i64 r.size] 336 (0, 0))) := Lib.hid (by rw [← hV, ← hbr]; exact heap_alloc_new _ _)
        have VN : Hid (V.heap[bn]? = some (.cells #[.int .u64 n] 23 (0, 0))) := Lib.hid ((VB.out.block _ (lt_of_block HN.out)).trans HN.out)
        have VW : Hid (V.heap[bw]? = some (.cells #[.pointer (some ⟨b, 0, none⟩)] 177 (0, 0))) := Lib.hid ((VB.out.block _ (lt_of_block HW2.out)).trans HW2.out)
        have VV : Hid (V.heap[b]? = some (.cells #[v] 233 (0, 0))) := Lib.hid ((VB.out.block _ hltb).trans HV.out)
        have HOWN := Lib.hid (own_below HOWN0.out VB.out)
        have HQ : Hid (∀ g, v.ownBlock = some g → base ≤ g ∧ g < V.heap.size) := Lib.hid (fun g hg => HOWN.out.lt g hg)
        have n1 := own_not8 HOWN.out VN.out n8n
        have n2 := own_not8 HOWN.out VW.out n8b
        have n3 := own_not8 HOWN.out VR.out n8r
        have n4 := own_not8 HOWN.out VV.out n8w
        have c1 : V.cell? ⟨bn, 0, none⟩ = some (.int .u64 n) := block_cell VN.out 0
        have c2 : V.cell? ⟨bw, 0, none⟩ = some (.pointer (some ⟨b, 0, none⟩)) := block_cell VW.out 0
        have c3 : V.cell? ⟨br, 1, none⟩ = some (.int .u8 r.first) := block_cell VR.out 1
        have c4 : V.cell? ⟨b, 0, none⟩ = some v := block_cell VV.out 0
        have hbV : base ≤ V.heap.size := Nat.le_trans hbase (Nat.le_of_lt (lt_of_block VV.out))
        rw [hbr]
        try rw [hV]
        clear hV hbr cn cw cb
        refine wp_region_tail 11 8 (v.ownBlock) (phis [fun u _ => u = (.pointer (some ⟨b, 0, none⟩)), fun u _ => u = (.pointer (some ⟨b, 0, none⟩)), fun u _ => u = (.pointer (some ⟨b, 0, none⟩)), fun u _ => u = (.pointer (some ⟨b, 0, none⟩)), fun u _ => u = (v), fun u _ => u = (.pointer (some ⟨br, 1, none⟩)), fun u _ => u = (.int .u8 r.first), fun u w' => ∃ b, u = .slice (some ⟨b, 0, none⟩) 1 1 ∧ some b ≠ v.ownBlock ∧ w'.heap[b]? = some (.cells ([.int .u8 r.first]).toArray 5 (0, 0)), fun u w' => w'.ownsRow (base) 5 1 u (s.size + 1) (Lib.strCells s ++ [.int .u8 r.first]), fun u _ => u = (.pointer (some ⟨b, 0, none⟩)), fun u _ => u = (.pointer (some ⟨b, 0, none⟩))]) rfl (by kernel_rfl) (by kernel_rfl) (mono_of ⟨mono_eq, mono_eq, mono_eq, mono_eq, mono_eq, mono_eq, mono_eq, ?m7, ?m8, mono_eq, mono_eq, trivial⟩) (steps_of 11 ⟨?s0, ?s1, ?s2, ?s3, ?s4, ?s5, ?s6, ?s7, ?s8, ?s9, ?s10, trivial⟩) ?_
        case m7 =>
          exact ⟨fun u w1 w' h ⟨b, h1, hb, hb'⟩ => ⟨b, h1, hb, ext_block h hb'⟩, fun _ u w1 w' h ⟨b, h1, hb, hb'⟩ => ⟨b, h1, hb, extB_block h hb hb'⟩⟩
        case m8 =>
          exact ⟨fun u w1 w' h hu => own_below hu h, fun hn => absurd rfl hn⟩
        case s0 =>
          refine step_val (v := (.pointer (some ⟨b, 0, none⟩))) (fun av wv hE hS hO hD => ?_) (fun _ => rfl)
          have h2 : av.eval (.tmp 2) = (.pointer (some ⟨bw, 0, none⟩)) := hO.2.2 2 rfl
          have f2 := (ev_form av 2).symm.trans h2
          have c1 := extB_cell hE n1 c1
          have c2 := extB_cell hE n2 c2
          have c3 := extB_cell hE n3 c3
          have c4 := extB_cell hE n4 c4
          refine ⟨rfl, ?_⟩
          simp [go_sem, f2, c1, c2, c3, c4]
        case s1 =>
          refine step_val (v := (.pointer (some ⟨b, 0, none⟩))) (fun av wv hE hS hO hD => ?_) (fun _ => rfl)
          have h2 : av.eval (.tmp 2) = (.pointer (some ⟨bw, 0, none⟩)) := hO.2.2 2 rfl
          have f2 := (ev_form av 2).symm.trans h2
          have c1 := extB_cell hE n1 c1
          have c2 := extB_cell hE n2 c2
          have c3 := extB_cell hE n3 c3
          have c4 := extB_cell hE n4 c4
          refine ⟨rfl, ?_⟩
          simp [go_sem, f2, c1, c2, c3, c4]
        case s2 =>
          refine step_val (v := (.pointer (some ⟨b, 0, none⟩))) (fun av wv hE hS hO hD => ?_) (fun _ => rfl)
          have d33 : av.eval (.tmp 33) = (.pointer (some ⟨b, 0, none⟩)) := hD.1 rfl _ rfl
          have f33 := (ev_form av 33).symm.trans d33
          refine ⟨rfl, ?_⟩
          simp [go_sem, f33]
        case s3 =>
          refine step_val (v := (.pointer (some ⟨b, 0, none⟩))) (fun av wv hE hS hO hD => ?_) (fun _ => rfl)
          have d34 : av.eval (.tmp 34) = (.pointer (some ⟨b, 0, none⟩)) := hD.1 rfl _ rfl
          have f34 := (ev_form av 34).symm.trans d34
          refine ⟨rfl, ?_⟩
          simp [go_sem, f34]
        case s4 =>
          refine step_val (v := (v)) (fun av wv hE hS hO hD => ?_) (fun _ => rfl)
          have d35 : av.eval (.tmp 35) = (.pointer (some ⟨b, 0, none⟩)) := hD.1 rfl _ rfl
          have f35 := (ev_form av 35).symm.trans d35
          have c1 := extB_cell hE n1 c1
          have c2 := extB_cell hE n2 c2
          have c3 := extB_cell hE n3 c3
          have c4 := extB_cell hE n4 c4
          refine ⟨rfl, ?_⟩
          simp [go_sem, f35, c1, c2, c3, c4]
        case s5 =>
          refine step_val (v := (.pointer (some ⟨br, 1, none⟩))) (fun av wv hE hS hO hD => ?_) (fun _ => rfl)
          have h3 : av.eval (.tmp 3) = (.pointer (some ⟨br, 0, none⟩)) := hO.2.2 3 rfl
          have f3 := (ev_form av 3).symm.trans h3
          refine ⟨rfl, ?_⟩
          simp [go_sem, f3]
        case s6 =>
          refine step_val (v := (.int .u8 r.first)) (fun av wv hE hS hO hD => ?_) (fun _ => rfl)
          have d37 : av.eval (.tmp 37) = (.pointer (some ⟨br, 1, none⟩)) := hD.1 rfl _ rfl
          have f37 := (ev_form av 37).symm.trans d37
          have c1 := extB_cell hE n1 c1
          have c2 := extB_cell hE n2 c2
          have c3 := extB_cell hE n3 c3
          have c4 := extB_cell hE n4 c4
          refine ⟨rfl, ?_⟩
          simp [go_sem, f37, c1, c2, c3, c4]
        case s7 =>
          refine step_wp (fun av wv hE hS hO hD => ?_)
          have d38 : av.eval (.tmp 38) = (.int .u8 r.first) := hD.1 rfl _ rfl
          have f38 := (ev_form av 38).symm.trans d38
          refine ⟨rfl, ?_⟩
          refine wp_of_run (v := .slice (some ⟨wv.heap.size, 0, none⟩) 1 1) (w' := wv.alloc (.cells ([.int .u8 r.first]).toArray 5)) (by first | (simp [go_sem, f38]; done) | (simp [go_sem, f38]; rfl)) ⟨_, rfl, es_of_ext (balloc (Ext_refl _) _), wv.heap.size, rfl, ?_, heap_alloc_new _ _⟩
          exact fun e => absurd (HQ.out _ e.symm).2 (by have := hE.size; simp at this; omega)
        case s8 =>
          refine step_wp (fun av wv hE hS hO hD => ?_)
          have d36 : av.eval (.tmp 36) = (v) := hD.1 rfl _ rfl
          have f36 := (ev_form av 36).symm.trans d36
          have d39 : (fun u w' => ∃ b, u = .slice (some ⟨b, 0, none⟩) 1 1 ∧ some b ≠ v.ownBlock ∧ w'.heap[b]? = some (.cells ([.int .u8 r.first]).toArray 5 (0, 0))) (av.eval (.tmp 39)) wv := hD.2.1 rfl _ rfl
          refine ⟨rfl, ?_⟩
          obtain ⟨bS, hS1, hbS, hcS⟩ := d39
          have hown1 : wv.ownsRow (base) 5 1 (v) (s.size) (Lib.strCells s) := own_below (w := World.drew _) (HOWN.out) (hS rfl)
          refine wp_append_lies wv _ _ _ rfl (base) 5 i0 (.int .u8 0) 1 1 Tryz.underlying41 hi hz0 hz1 hz2 rfl (by decide) (v) (s.size) _ d36 hown1 ⟨bS, 0, none⟩ 1 1 ([.int .u8 r.first]) (by exact hS1) rfl (World.news_of_block hcS) (one_u8 _) (by decide) (by unfold maxLen; omega) (by omega) (by have := hE.size; simp at this; omega) _ rfl ?_
          intro g cap1 w2 hown2 hgrow hat hlt2
          exact ⟨_, rfl, es_sp hgrow, hown2⟩
        case s9 =>
          refine step_val (v := (.pointer (some ⟨b, 0, none⟩))) (fun av wv hE hS hO hD => ?_) (fun _ => rfl)
          have d32 : av.eval (.tmp 32) = (.pointer (some ⟨b, 0, none⟩)) := hD.1 rfl _ rfl
          have f32 := (ev_form av 32).symm.trans d32
          refine ⟨rfl, ?_⟩
          simp [go_sem, f32]
        case s10 =>
          refine step_val (v := (.pointer (some ⟨b, 0, none⟩))) (fun av wv hE hS hO hD => ?_) (fun _ => rfl)
          have d41 : av.eval (.tmp 41) = (.pointer (some ⟨b, 0, none⟩)) := hD.1 rfl _ rfl
          have f41 := (ev_form av 41).symm.trans d41
          refine ⟨rfl, ?_⟩
          simp [go_sem, f41]
        intro a' w' hE hO hall
        have hA := act_of_outer (ds := [32, 33, 34, 35, 36, 37, 38, 39, 40, 41, 42]) rfl hO (by kernel_rfl)
        have e32 : (fun u _ => u = (.pointer (some ⟨b, 0, none⟩))) (a'.eval (.tmp 32)) w' := hall.1 _ rfl
        have e33 : (fun u _ => u = (.pointer (some ⟨b, 0, none⟩))) (a'.eval (.tmp 33)) w' := hall.2.1 _ rfl
        have e34 : (fun u _ => u = (.pointer (some ⟨b, 0, none⟩))) (a'.eval (.tmp 34)) w' := hall.2.2.1 _ rfl
        have e35 : (fun u _ => u = (.pointer (some ⟨b, 0, none⟩))) (a'.eval (.tmp 35)) w' := hall.2.2.2.1 _ rfl
        have e36 : (fun u _ => u = (v)) (a'.eval (.tmp 36)) w' := hall.2.2.2.2.1 _ rfl
        have e37 : (fun u _ => u = (.pointer (some ⟨br, 1, none⟩))) (a'.eval (.tmp 37)) w' := hall.2.2.2.2.2.1 _ rfl
        have e38 : (fun u _ => u = (.int .u8 r.first)) (a'.eval (.tmp 38)) w' := hall.2.2.2.2.2.2.1 _ rfl
        have e39 : (fun u w' => ∃ b, u = .slice (some ⟨b, 0, none⟩) 1 1 ∧ some b ≠ v.ownBlock ∧ w'.heap[b]? = some (.cells ([.int .u8 r.first]).toArray 5 (0, 0))) (a'.eval (.tmp 39)) w' := hall.2.2.2.2.2.2.2.1 _ rfl
        have e40 : (fun u w' => w'.ownsRow (base) 5 1 u (s.size + 1) (Lib.strCells s ++ [.int .u8 r.first])) (a'.eval (.tmp 40)) w' := hall.2.2.2.2.2.2.2.2.1 _ rfl
        have e41 : (fun u _ => u = (.pointer (some ⟨b, 0, none⟩))) (a'.eval (.tmp 41)) w' := hall.2.2.2.2.2.2.2.2.2.1 _ rfl
        have e42 : (fun u _ => u = (.pointer (some ⟨b, 0, none⟩))) (a'.eval (.tmp 42)) w' := hall.2.2.2.2.2.2.2.2.2.2.1 _ rfl
        obtain ⟨v39, hv39⟩ : ∃ v, a'.eval (.tmp 39) = v := ⟨_, rfl⟩
        rw [hv39] at e39
        obtain ⟨v40, hv40⟩ : ∃ v, a'.eval (.tmp 40) = v := ⟨_, rfl⟩
        rw [hv40] at e40
        simp only [List.foldl_cons, List.foldl_nil, Act.put, List.setIfInBounds_toArray, List.set_cons_succ, List.set_cons_zero, e32, e33, e34, e35, e36, e37, e38, hv39, hv40, e41, e42] at hA
        clear hO hall e32 e33 e34 e35 e36 e37 e38 hv39 hv40 e41 e42
        subst hA
        obtain ⟨ga, gc, rfl⟩ := own_slice e40
        have hst := wr_step (s' := s ++ baL [toB r.first]) hbase VV.out HOWN.out hE (by rw [baL_one]; exact e40) (by rw [strCells_app, strCells_one f0 f1])
        have HST := Lib.hid hst
        have hc4 := hst.1
        have hf4 := hst.2.1
        have HBR : Hid (w'.cell? ⟨br, 2, none⟩ = some (.int .i64 r.size)) := Lib.hid (extB_cell hE n3 (block_cell VR.out 2))
        clear hst hE e40 c1 c2 c3 c4
        have hne : br ≠ b := fun e => by have h1 := VR.out; rw [e, VV.out] at h1; cases h1
        have c5 : (w'.setCell ⟨b, 0, none⟩ (.slice (some ⟨ga, 0, none⟩) (s.size + 1) gc)).cell? ⟨br, 2, none⟩ = some (.int .i64 r.size) := by
          have h := (HST.out.2.2.2).keep br _ VR.out hne n8r
          exact block_cell h 2
        obtain ⟨k, hk⟩ := Int.eq_ofNat_of_zero_le s0
        have HKK := Lib.hid hk
        have k8 : k ≤ 8 := by omega
        rw [hk] at c5
        have hw1 : IntKind.i64.wrap ((k : Int) - 1) = (k : Int) - 1 := IntWalk.i64_in _ (by omega)
        clear hk HBR
        go_wp2
        obtain ⟨V2, hV2⟩ : ∃ V2, w'.setCell ⟨b, 0, none⟩ (.slice (some ⟨ga, 0, none⟩) (s.size + 1) gc) = V2 := ⟨_, rfl⟩
        have HWR2 : Hid (WrB V2 b base (s ++ baL (toB r.first :: ((hiL n k).take (k - k)).map toB))) := Lib.hid (by rw [← hV2, Nat.sub_self]; exact HST.out.2.2.1)
        have HWK2 : Hid (WK base b V V2) := Lib.hid (by rw [← hV2]; exact HST.out.2.2.2)
        try rw [hV2]
        clear hV2 HST hc4 hf4 c5 hw1 HWR
        have nbn : bn ≠ b := fun e => by have h1 := VN.out; rw [e, VV.out] at h1; cases h1
        have nbw : bw ≠ b := fun e => by have h1 := VW.out; rw [e, VV.out] at h1; cases h1
        have hbVS : base ≤ V.heap.size := hbV
        clear n1 n2 n3 n4 hbV hltb HQ
        go_loopg [5] k (fun g i wr => g ≤ k ∧ i = .int .i64 ((g : Int) - 1) ∧ Hid (WrB wr b base (s ++ baL (toB r.first :: ((hiL n k).take (k - g)).map toB))) ∧ Hid (WK base b V wr))
        case atStart => exact ⟨Nat.le_refl _, rfl, HWR2.out, HWK2.out⟩
        case round =>
          clear HWR2 HWK2
          obtain ⟨hgk, rfl, HWR, HWK⟩ := hrel
          obtain ⟨G, hG⟩ : ∃ G, G = gk := ⟨_, rfl⟩
          subst hG
          cases G with
          | zero =>
            have e2 : ((0 : Nat) : Int) - 1 = -1 := rfl
            rw [e2]
            clear e2
            go_wp2
            go_ret
            refine ⟨ret_bool HX.out.symm, ?_, (WK.of_below VB.out HBS.out).trans HWK.out⟩
            rw [HIF.out]
            have e4 : rowB r n = toB r.first :: ((hiL n k).take (k - 0)).map toB := by
              unfold rowB
              rw [if_neg HSZ.out, HKK.out, Nat.sub_zero, List.take_of_length_le (by rw [hiL_len]; exact Nat.le_refl _)]; rfl
            rw [e4]; exact HWR.out
          | succ i =>
            have e2 : ((i + 1 : Nat) : Int) - 1 = (i : Int) := by omega
            rw [e2]
            obtain ⟨t, ht⟩ : ∃ t, s ++ baL (toB r.first :: ((hiL n k).take (k - (i + 1))).map toB) = t := ⟨_, rfl⟩
            have hts : t.size ≤ 70000000000009 := by
              rw [← ht, ByteArray.size_append, baL_size, List.length_cons, List.length_map, List.length_take, hiL_len]; omega
            obtain ⟨x, hx⟩ : ∃ x, n / 2 ^ (8 * i) % 256 = x := ⟨_, rfl⟩
            have hx0 : 0 ≤ x ∧ x ≤ 255 := by rw [← hx]; omega
            have HT : Hid (s ++ baL (toB r.first :: ((hiL n k).take (k - i)).map toB) = t ++ baL [toB x]) := Lib.hid (by
              rw [← ht, hi_next n k i (by omega), show (256 : Int) ^ i = 2 ^ (8 * i) by rw [Int.pow_mul]; rfl, hx, List.map_append, ← List.cons_append, baL_app, ByteArray.append_assoc]; rfl)
            rw [ht] at HWR
            have y0 : IntKind.u8.wrap (n / 2 ^ (8 * i)) = x := by rw [IntKind.wrap_u8]; exact hx
            have y1 : IntKind.i64.wrap (8 * (i : Int)) = 8 * (i : Int) := IntWalk.i64_in _ (by omega)
            have y2 : 0 ≤ 8 * (i : Int) := by omega
            have y3 : (8 * (i : Int)).toNat = 8 * i := by omega
            clear ht e2 hx
            obtain ⟨-, v, hv, hown⟩ := HWR.out
            have VV2 := Lib.hid hv
            have HOWN := Lib.hid hown
            have VN2 := Lib.hid (HWK.out.keep _ _ VN.out nbn n8n)
            have VW2 := Lib.hid (HWK.out.keep _ _ VW.out nbw n8b)
            have n8w : Not8 (.cells #[v] 233 (0, 0)) := not8_cells (by decide)
            have HQ : Hid (∀ g, v.ownBlock = some g → base ≤ g ∧ g < wr.heap.size) := Lib.hid (fun g hg => HOWN.out.lt g hg)
            have n1 := own_not8 HOWN.out VN2.out n8n
            have n2 := own_not8 HOWN.out VW2.out n8b
            have n4 := own_not8 HOWN.out VV2.out n8w
            have c1 : wr.cell? ⟨bn, 0, none⟩ = some (.int .u64 n) := block_cell VN2.out 0
            have c2 : wr.cell? ⟨bw, 0, none⟩ = some (.pointer (some ⟨b, 0, none⟩)) := block_cell VW2.out 0
            have c4 : wr.cell? ⟨b, 0, none⟩ = some v := block_cell VV2.out 0
            have hbV : base ≤ wr.heap.size := Nat.le_trans hbase (Nat.le_of_lt (lt_of_block VV2.out))
            clear hv hown
            go_upto_region 10 with fail
            refine wp_region_tail 14 11 (v.ownBlock) (phis [fun u _ => u = (.pointer (some ⟨b, 0, none⟩)), fun u _ => u = (.pointer (some ⟨b, 0, none⟩)), fun u _ => u = (.pointer (some ⟨b, 0, none⟩)), fun u _ => u = (.pointer (some ⟨b, 0, none⟩)), fun u _ => u = (v), fun u _ => u = (.int .u64 n), fun u _ => u = (.int .i64 i), fun u _ => u = (.int .i64 (8 * (i : Int))), fun u _ => u = (.int .u64 (n / 2 ^ (8 * i))), fun u _ => u = (.int .u8 x), fun u w' => ∃ b, u = .slice (some ⟨b, 0, none⟩) 1 1 ∧ some b ≠ v.ownBlock ∧ w'.heap[b]? = some (.cells ([.int .u8 x]).toArray 5 (0, 0)), fun u w' => w'.ownsRow (base) 5 1 u (t.size + 1) (Lib.strCells t ++ [.int .u8 x]), fun u _ => u = (.pointer (some ⟨b, 0, none⟩)), fun u _ => u = (.pointer (some ⟨b, 0, none⟩))]) rfl (by kernel_rfl) (by kernel_rfl) (mono_of ⟨mono_eq, mono_eq, mono_eq, mono_eq, mono_eq, mono_eq, mono_eq, mono_eq, mono_eq, mono_eq, ?m10, ?m11, mono_eq, mono_eq, trivial⟩) (steps_of 14 ⟨?s0, ?s1, ?s2, ?s3, ?s4, ?s5, ?s6, ?s7, ?s8, ?s9, ?s10, ?s11, ?s12, ?s13, trivial⟩) ?_
            case m10 =>
              exact ⟨fun u w1 w' h ⟨b, h1, hb, hb'⟩ => ⟨b, h1, hb, ext_block h hb'⟩, fun _ u w1 w' h ⟨b, h1, hb, hb'⟩ => ⟨b, h1, hb, extB_block h hb hb'⟩⟩
            case m11 =>
              exact ⟨fun u w1 w' h hu => own_below hu h, fun hn => absurd rfl hn⟩
            case s0 =>
              refine step_val (v := (.pointer (some ⟨b, 0, none⟩))) (fun av wv hE hS hO hD => ?_) (fun _ => rfl)
              have h2 : av.eval (.tmp 2) = (.pointer (some ⟨bw, 0, none⟩)) := hO.2.2 2 rfl
              have f2 := (ev_form av 2).symm.trans h2
              have c1 := extB_cell hE n1 c1
              have c2 := extB_cell hE n2 c2
              have c4 := extB_cell hE n4 c4
              refine ⟨rfl, ?_⟩
              simp [go_sem, f2, c1, c2, c4, y0, y1, y2, y3]
            case s1 =>
              refine step_val (v := (.pointer (some ⟨b, 0, none⟩))) (fun av wv hE hS hO hD => ?_) (fun _ => rfl)
              have h2 : av.eval (.tmp 2) = (.pointer (some ⟨bw, 0, none⟩)) := hO.2.2 2 rfl
              have f2 := (ev_form av 2).symm.trans h2
              have c1 := extB_cell hE n1 c1
              have c2 := extB_cell hE n2 c2
              have c4 := extB_cell hE n4 c4
              refine ⟨rfl, ?_⟩
              simp [go_sem, f2, c1, c2, c4, y0, y1, y2, y3]
            case s2 =>
              refine step_val (v := (.pointer (some ⟨b, 0, none⟩))) (fun av wv hE hS hO hD => ?_) (fun _ => rfl)
              have d51 : av.eval (.tmp 51) = (.pointer (some ⟨b, 0, none⟩)) := hD.1 rfl _ rfl
              have f51 := (ev_form av 51).symm.trans d51
              refine ⟨rfl, ?_⟩
              simp [go_sem, f51, y0, y1, y2, y3]
            case s3 =>
              refine step_val (v := (.pointer (some ⟨b, 0, none⟩))) (fun av wv hE hS hO hD => ?_) (fun _ => rfl)
              have d52 : av.eval (.tmp 52) = (.pointer (some ⟨b, 0, none⟩)) := hD.1 rfl _ rfl
              have f52 := (ev_form av 52).symm.trans d52
              refine ⟨rfl, ?_⟩
              simp [go_sem, f52, y0, y1, y2, y3]
            case s4 =>
              refine step_val (v := (v)) (fun av wv hE hS hO hD => ?_) (fun _ => rfl)
              have d53 : av.eval (.tmp 53) = (.pointer (some ⟨b, 0, none⟩)) := hD.1 rfl _ rfl
              have f53 := (ev_form av 53).symm.trans d53
              have c1 := extB_cell hE n1 c1
              have c2 := extB_cell hE n2 c2
              have c4 := extB_cell hE n4 c4
              refine ⟨rfl, ?_⟩
              simp [go_sem, f53, c1, c2, c4, y0, y1, y2, y3]
            case s5 =>
              refine step_val (v := (.int .u64 n)) (fun av wv hE hS hO hD => ?_) (fun _ => rfl)
              have h1 : av.eval (.tmp 1) = (.pointer (some ⟨bn, 0, none⟩)) := hO.2.2 1 rfl
              have f1 := (ev_form av 1).symm.trans h1
              have c1 := extB_cell hE n1 c1
              have c2 := extB_cell hE n2 c2
              have c4 := extB_cell hE n4 c4
              refine ⟨rfl, ?_⟩
              simp [go_sem, f1, c1, c2, c4, y0, y1, y2, y3]
            case s6 =>
              refine step_val (v := (.int .i64 i)) (fun av wv hE hS hO hD => ?_) (fun _ => rfl)
              have h5 : av.eval (.tmp 5) = (.int .i64 i) := hO.2.2 5 rfl
              have f5 := (ev_form av 5).symm.trans h5
              refine ⟨rfl, ?_⟩
              simp [go_sem, f5, y0, y1, y2, y3]
            case s7 =>
              refine step_val (v := (.int .i64 (8 * (i : Int)))) (fun av wv hE hS hO hD => ?_) (fun _ => rfl)
              have d56 : av.eval (.tmp 56) = (.int .i64 i) := hD.1 rfl _ rfl
              have f56 := (ev_form av 56).symm.trans d56
              refine ⟨rfl, ?_⟩
              simp [go_sem, f56, y0, y1, y2, y3]
            case s8 =>
              refine step_val (v := (.int .u64 (n / 2 ^ (8 * i)))) (fun av wv hE hS hO hD => ?_) (fun _ => rfl)
              have d55 : av.eval (.tmp 55) = (.int .u64 n) := hD.1 rfl _ rfl
              have f55 := (ev_form av 55).symm.trans d55
              have d57 : av.eval (.tmp 57) = (.int .i64 (8 * (i : Int))) := hD.2.1 rfl _ rfl
              have f57 := (ev_form av 57).symm.trans d57
              refine ⟨rfl, ?_⟩
              simp [go_sem, f55, f57, y0, y1, y2, y3]
            case s9 =>
              refine step_val (v := (.int .u8 x)) (fun av wv hE hS hO hD => ?_) (fun _ => rfl)
              have d58 : av.eval (.tmp 58) = (.int .u64 (n / 2 ^ (8 * i))) := hD.1 rfl _ rfl
              have f58 := (ev_form av 58).symm.trans d58
              refine ⟨rfl, ?_⟩
              simp [go_sem, f58, y0, y1, y2, y3]
            case s10 =>
              refine step_wp (fun av wv hE hS hO hD => ?_)
              have d59 : av.eval (.tmp 59) = (.int .u8 x) := hD.1 rfl _ rfl
              have f59 := (ev_form av 59).symm.trans d59
              refine ⟨rfl, ?_⟩
              refine wp_of_run (v := .slice (some ⟨wv.heap.size, 0, none⟩) 1 1) (w' := wv.alloc (.cells ([.int .u8 x]).toArray 5)) (by first | (simp [go_sem, f59, y0, y1, y2, y3]; done) | (simp [go_sem, f59, y0, y1, y2, y3]; rfl)) ⟨_, rfl, es_of_ext (balloc (Ext_refl _) _), wv.heap.size, rfl, ?_, heap_alloc_new _ _⟩
              exact fun e => absurd (HQ.out _ e.symm).2 (by have := hE.size; simp at this; omega)
            case s11 =>
              refine step_wp (fun av wv hE hS hO hD => ?_)
              have d54 : av.eval (.tmp 54) = (v) := hD.1 rfl _ rfl
              have f54 := (ev_form av 54).symm.trans d54
              have d60 : (fun u w' => ∃ b, u = .slice (some ⟨b, 0, none⟩) 1 1 ∧ some b ≠ v.ownBlock ∧ w'.heap[b]? = some (.cells ([.int .u8 x]).toArray 5 (0, 0))) (av.eval (.tmp 60)) wv := hD.2.1 rfl _ rfl
              refine ⟨rfl, ?_⟩
              obtain ⟨bS, hS1, hbS, hcS⟩ := d60
              have hown1 : wv.ownsRow (base) 5 1 (v) (t.size) (Lib.strCells t) := own_below (w := World.drew _) (HOWN.out) (hS rfl)
              refine wp_append_lies wv _ _ _ rfl (base) 5 i0 (.int .u8 0) 1 1 Tryz.underlying41 hi hz0 hz1 hz2 rfl (by decide) (v) (t.size) _ d54 hown1 ⟨bS, 0, none⟩ 1 1 ([.int .u8 x]) (by exact hS1) rfl (World.news_of_block hcS) (one_u8 _) (by decide) (by unfold maxLen; omega) (by omega) (by have := hE.size; simp at this; omega) _ rfl ?_
              intro g cap1 w2 hown2 hgrow hat hlt2
              exact ⟨_, rfl, es_sp hgrow, hown2⟩
            case s12 =>
              refine step_val (v := (.pointer (some ⟨b, 0, none⟩))) (fun av wv hE hS hO hD => ?_) (fun _ => rfl)
              have d50 : av.eval (.tmp 50) = (.pointer (some ⟨b, 0, none⟩)) := hD.1 rfl _ rfl
              have f50 := (ev_form av 50).symm.trans d50
              refine ⟨rfl, ?_⟩
              simp [go_sem, f50, y0, y1, y2, y3]
            case s13 =>
              refine step_val (v := (.pointer (some ⟨b, 0, none⟩))) (fun av wv hE hS hO hD => ?_) (fun _ => rfl)
              have d62 : av.eval (.tmp 62) = (.pointer (some ⟨b, 0, none⟩)) := hD.1 rfl _ rfl
              have f62 := (ev_form av 62).symm.trans d62
              refine ⟨rfl, ?_⟩
              simp [go_sem, f62, y0, y1, y2, y3]
            intro a' w' hE hO hall
            have hA := act_of_outer (ds := [50, 51, 52, 53, 54, 55, 56, 57, 58, 59, 60, 61, 62, 63]) rfl hO (by kernel_rfl)
            have e50 : (fun u _ => u = (.pointer (some ⟨b, 0, none⟩))) (a'.eval (.tmp 50)) w' := hall.1 _ rfl
            have e51 : (fun u _ => u = (.pointer (some ⟨b, 0, none⟩))) (a'.eval (.tmp 51)) w' := hall.2.1 _ rfl
            have e52 : (fun u _ => u = (.pointer (some ⟨b, 0, none⟩))) (a'.eval (.tmp 52)) w' := hall.2.2.1 _ rfl
            have e53 : (fun u _ => u = (.pointer (some ⟨b, 0, none⟩))) (a'.eval (.tmp 53)) w' := hall.2.2.2.1 _ rfl
            have e54 : (fun u _ => u = (v)) (a'.eval (.tmp 54)) w' := hall.2.2.2.2.1 _ rfl
            have e55 : (fun u _ => u = (.int .u64 n)) (a'.eval (.tmp 55)) w' := hall.2.2.2.2.2.1 _ rfl
            have e56 : (fun u _ => u = (.int .i64 i)) (a'.eval (.tmp 56)) w' := hall.2.2.2.2.2.2.1 _ rfl
            have e57 : (fun u _ => u = (.int .i64 (8 * (i : Int)))) (a'.eval (.tmp 57)) w' := hall.2.2.2.2.2.2.2.1 _ rfl
            have e58 : (fun u _ => u = (.int .u64 (n / 2 ^ (8 * i)))) (a'.eval (.tmp 58)) w' := hall.2.2.2.2.2.2.2.2.1 _ rfl
            have e59 : (fun u _ => u = (.int .u8 x)) (a'.eval (.tmp 59)) w' := hall.2.2.2.2.2.2.2.2.2.1 _ rfl
            have e60 : (fun u w' => ∃ b, u = .slice (some ⟨b, 0, none⟩) 1 1 ∧ some b ≠ v.ownBlock ∧ w'.heap[b]? = some (.cells ([.int .u8 x]).toArray 5 (0, 0))) (a'.eval (.tmp 60)) w' := hall.2.2.2.2.2.2.2.2.2.2.1 _ rfl
            have e61 : (fun u w' => w'.ownsRow (base) 5 1 u (t.size + 1) (Lib.strCells t ++ [.int .u8 x])) (a'.eval (.tmp 61)) w' := hall.2.2.2.2.2.2.2.2.2.2.2.1 _ rfl
            have e62 : (fun u _ => u = (.pointer (some ⟨b, 0, none⟩))) (a'.eval (.tmp 62)) w' := hall.2.2.2.2.2.2.2.2.2.2.2.2.1 _ rfl
            have e63 : (fun u _ => u = (.pointer (some ⟨b, 0, none⟩))) (a'.eval (.tmp 63)) w' := hall.2.2.2.2.2.2.2.2.2.2.2.2.2.1 _ rfl
            obtain ⟨v60, hv60⟩ : ∃ v, a'.eval (.tmp 60) = v := ⟨_, rfl⟩
            rw [hv60] at e60
            obtain ⟨v61, hv61⟩ : ∃ v, a'.eval (.tmp 61) = v := ⟨_, rfl⟩
            rw [hv61] at e61
            simp only [List.foldl_cons, List.foldl_nil, Act.put, List.setIfInBounds_toArray, List.set_cons_succ, List.set_cons_zero, e50, e51, e52, e53, e54, e55, e56, e57, e58, e59, hv60, hv61, e62, e63] at hA
            clear hO hall e50 e51 e52 e53 e54 e55 e56 e57 e58 e59 hv60 hv61 e62 e63
            subst hA
            obtain ⟨ga, gc, rfl⟩ := own_slice e61
            have hst := wr_step (s' := t ++ baL [toB x]) hbase VV2.out HOWN.out hE (by rw [baL_one]; exact e61) (by rw [strCells_app, strCells_one hx0.1 hx0.2])
            have HST := Lib.hid hst
            have hc4 := hst.1
            have hf4 := hst.2.1
            clear hst hE e61 c1 c2 c4 n1 n2 n4
            go_wp2
            go_roundg i
            case rel => exact ⟨by omega, by go_num, by rw [HT.out]; exact HST.out.2.2.1, HWK.out.trans HST.out.2.2.2⟩
            case measure => omega
    · skip
      go_enter Tryz.func291, Tryz.ntmps291
      by_cases hsz : r.size = 0
      · have e0 : (r.size == 0) = true := by simpa using hsz
        have HSZ := Lib.hid hsz
        clear hsz
        go_upto_region 4 with fail
        obtain ⟨br, hbr⟩ : ∃ br, w.heap.size = br := ⟨_, rfl⟩
        obtain ⟨V, hV⟩ : ∃ V, w.alloc (.cells #[.int .u64 r.below, .int .u8 r.first, .int .i64 r.size] 336) = V := ⟨_, rfl⟩
        have VB : Hid (Below w.heap.size w V) := Lib.hid (by rw [← hV]; exact balloc (Below.refl _ _) _)
        have VR : Hid (V.heap[br]? = some (.cells #[.int .u64 r.below, .int .u8 r.first, .int .i64 r.size] 336 (0, 0))) := Lib.hid (by rw [← hV, ← hbr]; exact heap_alloc_new _ _)
        have VN : Hid (V.heap[bn]? = some (.cells #[.int .u64 n] 23 (0, 0))) := Lib.hid ((VB.out.block _ (lt_of_block HN.out)).trans HN.out)
        have VW : Hid (V.heap[bw]? = some (.cells #[.pointer (some ⟨b, 0, none⟩)] 177 (0, 0))) := Lib.hid ((VB.out.block _ (lt_of_block HW2.out)).trans HW2.out)
        have VV : Hid (V.heap[b]? = some (.cells #[v] 233 (0, 0))) := Lib.hid ((VB.out.block _ hltb).trans HV.out)
        have HOWN := Lib.hid (own_below HOWN0.out VB.out)
        have HQ : Hid (∀ g, v.ownBlock = some g → base ≤ g ∧ g < V.heap.size) := Lib.hid (fun g hg => HOWN.out.lt g hg)
        have n1 := own_not8 HOWN.out VN.out n8n
        have n2 := own_not8 HOWN.out VW.out n8b
        have n3 := own_not8 HOWN.out VR.out n8r
        have n4 := own_not8 HOWN.out VV.out n8w
        have c1 : V.cell? ⟨bn, 0, none⟩ = some (.int .u64 n) := block_cell VN.out 0
        have c2 : V.cell? ⟨bw, 0, none⟩ = some (.pointer (some ⟨b, 0, none⟩)) := block_cell VW.out 0
        have c3 : V.cell? ⟨br, 1, none⟩ = some (.int .u8 r.first) := block_cell VR.out 1
        have c4 : V.cell? ⟨b, 0, none⟩ = some v := block_cell VV.out 0
        have hbV : base ≤ V.heap.size := Nat.le_trans hbase (Nat.le_of_lt (lt_of_block VV.out))
        obtain ⟨y, hy⟩ : ∃ y, r.first + n = y := ⟨_, rfl⟩
        have hy1 : y ≤ 255 := by rw [← hy]; exact HFIT.out HSZ.out
        have y0 : IntKind.u8.wrap n = n := IntWalk.u8_in _ (by omega)
        have y1 : IntKind.u8.wrap (r.first + n) = y := by rw [hy]; exact IntWalk.u8_in _ (by omega)
        have hy0 : 0 ≤ y := by omega
        have HY := Lib.hid hy
        rw [hbr]
        try rw [hV]
        clear hV hbr hy cn cw cb
        refine wp_region_tail 14 11 (v.ownBlock) (phis [fun u _ => u = (.pointer (some ⟨b, 0, none⟩)), fun u _ => u = (.pointer (some ⟨b, 0, none⟩)), fun u _ => u = (.pointer (some ⟨b, 0, none⟩)), fun u _ => u = (.pointer (some ⟨b, 0, none⟩)), fun u _ => u = (v), fun u _ => u = (.pointer (some ⟨br, 1, none⟩)), fun u _ => u = (.int .u8 r.first), fun u _ => u = (.int .u64 n), fun u _ => u = (.int .u8 n), fun u _ => u = (.int .u8 y), fun u w' => ∃ b, u = .slice (some ⟨b, 0, none⟩) 1 1 ∧ some b ≠ v.ownBlock ∧ w'.heap[b]? = some (.cells ([.int .u8 y]).toArray 5 (0, 0)), fun u w' => w'.ownsRow (base) 5 1 u (s.size + 1) (Lib.strCells s ++ [.int .u8 y]), fun u _ => u = (.pointer (some ⟨b, 0, none⟩)), fun u _ => u = (.pointer (some ⟨b, 0, none⟩))]) rfl (by kernel_rfl) (by kernel_rfl) (mono_of ⟨mono_eq, mono_eq, mono_eq, mono_eq, mono_eq, mono_eq, mono_eq, mono_eq, mono_eq, mono_eq, ?m10, ?m11, mono_eq, mono_eq, trivial⟩) (steps_of 14 ⟨?s0, ?s1, ?s2, ?s3, ?s4, ?s5, ?s6, ?s7, ?s8, ?s9, ?s10, ?s11, ?s12, ?s13, trivial⟩) ?_
        case m10 =>
          exact ⟨fun u w1 w' h ⟨b, h1, hb, hb'⟩ => ⟨b, h1, hb, ext_block h hb'⟩, fun _ u w1 w' h ⟨b, h1, hb, hb'⟩ => ⟨b, h1, hb, extB_block h hb hb'⟩⟩
        case m11 =>
          exact ⟨fun u w1 w' h hu => own_below hu h, fun hn => absurd rfl hn⟩
        case s0 =>
          refine step_val (v := (.pointer (some ⟨b, 0, none⟩))) (fun av wv hE hS hO hD => ?_) (fun _ => rfl)
          have h2 : av.eval (.tmp 2) = (.pointer (some ⟨bw, 0, none⟩)) := hO.2.2 2 rfl
          have f2 := (ev_form av 2).symm.trans h2
          have c1 := extB_cell hE n1 c1
          have c2 := extB_cell hE n2 c2
          have c3 := extB_cell hE n3 c3
          have c4 := extB_cell hE n4 c4
          refine ⟨rfl, ?_⟩
          simp [go_sem, f2, c1, c2, c3, c4, y0, y1]
        case s1 =>
          refine step_val (v := (.pointer (some ⟨b, 0, none⟩))) (fun av wv hE hS hO hD => ?_) (fun _ => rfl)
          have h2 : av.eval (.tmp 2) = (.pointer (some ⟨bw, 0, none⟩)) := hO.2.2 2 rfl
          have f2 := (ev_form av 2).symm.trans h2
          have c1 := extB_cell hE n1 c1
          have c2 := extB_cell hE n2 c2
          have c3 := extB_cell hE n3 c3
          have c4 := extB_cell hE n4 c4
          refine ⟨rfl, ?_⟩
          simp [go_sem, f2, c1, c2, c3, c4, y0, y1]
        case s2 =>
          refine step_val (v := (.pointer (some ⟨b, 0, none⟩))) (fun av wv hE hS hO hD => ?_) (fun _ => rfl)
          have d19 : av.eval (.tmp 19) = (.pointer (some ⟨b, 0, none⟩)) := hD.1 rfl _ rfl
          have f19 := (ev_form av 19).symm.trans d19
          refine ⟨rfl, ?_⟩
          simp [go_sem, f19, y0, y1]
        case s3 =>
          refine step_val (v := (.pointer (some ⟨b, 0, none⟩))) (fun av wv hE hS hO hD => ?_) (fun _ => rfl)
          have d20 : av.eval (.tmp 20) = (.pointer (some ⟨b, 0, none⟩)) := hD.1 rfl _ rfl
          have f20 := (ev_form av 20).symm.trans d20
          refine ⟨rfl, ?_⟩
          simp [go_sem, f20, y0, y1]
        case s4 =>
          refine step_val (v := (v)) (fun av wv hE hS hO hD => ?_) (fun _ => rfl)
          have d21 : av.eval (.tmp 21) = (.pointer (some ⟨b, 0, none⟩)) := hD.1 rfl _ rfl
          have f21 := (ev_form av 21).symm.trans d21
          have c1 := extB_cell hE n1 c1
          have c2 := extB_cell hE n2 c2
          have c3 := extB_cell hE n3 c3
          have c4 := extB_cell hE n4 c4
          refine ⟨rfl, ?_⟩
          simp [go_sem, f21, c1, c2, c3, c4, y0, y1]
        case s5 =>
          refine step_val (v := (.pointer (some ⟨br, 1, none⟩))) (fun av wv hE hS hO hD => ?_) (fun _ => rfl)
          have h3 : av.eval (.tmp 3) = (.pointer (some ⟨br, 0, none⟩)) := hO.2.2 3 rfl
          have f3 := (ev_form av 3).symm.trans h3
          refine ⟨rfl, ?_⟩
          simp [go_sem, f3, y0, y1]
        case s6 =>
          refine step_val (v := (.int .u8 r.first)) (fun av wv hE hS hO hD => ?_) (fun _ => rfl)
          have d23 : av.eval (.tmp 23) = (.pointer (some ⟨br, 1, none⟩)) := hD.1 rfl _ rfl
          have f23 := (ev_form av 23).symm.trans d23
          have c1 := extB_cell hE n1 c1
          have c2 := extB_cell hE n2 c2
          have c3 := extB_cell hE n3 c3
          have c4 := extB_cell hE n4 c4
          refine ⟨rfl, ?_⟩
          simp [go_sem, f23, c1, c2, c3, c4, y0, y1]
        case s7 =>
          refine step_val (v := (.int .u64 n)) (fun av wv hE hS hO hD => ?_) (fun _ => rfl)
          have h1 : av.eval (.tmp 1) = (.pointer (some ⟨bn, 0, none⟩)) := hO.2.2 1 rfl
          have f1 := (ev_form av 1).symm.trans h1
          have c1 := extB_cell hE n1 c1
          have c2 := extB_cell hE n2 c2
          have c3 := extB_cell hE n3 c3
          have c4 := extB_cell hE n4 c4
          refine ⟨rfl, ?_⟩
          simp [go_sem, f1, c1, c2, c3, c4, y0, y1]
        case s8 =>
          refine step_val (v := (.int .u8 n)) (fun av wv hE hS hO hD => ?_) (fun _ => rfl)
          have d25 : av.eval (.tmp 25) = (.int .u64 n) := hD.1 rfl _ rfl
          have f25 := (ev_form av 25).symm.trans d25
          refine ⟨rfl, ?_⟩
          simp [go_sem, f25, y0, y1]
        case s9 =>
          refine step_val (v := (.int .u8 y)) (fun av wv hE hS hO hD => ?_) (fun _ => rfl)
          have d24 : av.eval (.tmp 24) = (.int .u8 r.first) := hD.1 rfl _ rfl
          have f24 := (ev_form av 24).symm.trans d24
          have d26 : av.eval (.tmp 26) = (.int .u8 n) := hD.2.1 rfl _ rfl
          have f26 := (ev_form av 26).symm.trans d26
          refine ⟨rfl, ?_⟩
          simp [go_sem, f24, f26, y0, y1]
        case s10 =>
          refine step_wp (fun av wv hE hS hO hD => ?_)
          have d27 : av.eval (.tmp 27) = (.int .u8 y) := hD.1 rfl _ rfl
          have f27 := (ev_form av 27).symm.trans d27
          refine ⟨rfl, ?_⟩
          refine wp_of_run (v := .slice (some ⟨wv.heap.size, 0, none⟩) 1 1) (w' := wv.alloc (.cells ([.int .u8 y]).toArray 5)) (by first | (simp [go_sem, f27, y0, y1]; done) | (simp [go_sem, f27, y0, y1]; rfl)) ⟨_, rfl, es_of_ext (balloc (Ext_refl _) _), wv.heap.size, rfl, ?_, heap_alloc_new _ _⟩
          exact fun e => absurd (HQ.out _ e.symm).2 (by have := hE.size; simp at this; omega)
        case s11 =>
          refine step_wp (fun av wv hE hS hO hD => ?_)
          have d22 : av.eval (.tmp 22) = (v) := hD.1 rfl _ rfl
          have f22 := (ev_form av 22).symm.trans d22
          have d28 : (fun u w' => ∃ b, u = .slice (some ⟨b, 0, none⟩) 1 1 ∧ some b ≠ v.ownBlock ∧ w'.heap[b]? = some (.cells ([.int .u8 y]).toArray 5 (0, 0))) (av.eval (.tmp 28)) wv := hD.2.1 rfl _ rfl
          refine ⟨rfl, ?_⟩
          obtain ⟨bS, hS1, hbS, hcS⟩ := d28
          have hown1 : wv.ownsRow (base) 5 1 (v) (s.size) (Lib.strCells s) := own_below (w := World.drew _) (HOWN.out) (hS rfl)
          refine wp_append_lies wv _ _ _ rfl (base) 5 i0 (.int .u8 0) 1 1 Tryz.underlying41 hi hz0 hz1 hz2 rfl (by decide) (v) (s.size) _ d22 hown1 ⟨bS, 0, none⟩ 1 1 ([.int .u8 y]) (by exact hS1) rfl (World.news_of_block hcS) (one_u8 _) (by decide) (by unfold maxLen; omega) (by omega) (by have := hE.size; simp at this; omega) _ rfl ?_
          intro g cap1 w2 hown2 hgrow hat hlt2
          exact ⟨_, rfl, es_sp hgrow, hown2⟩
        case s12 =>
          refine step_val (v := (.pointer (some ⟨b, 0, none⟩))) (fun av wv hE hS hO hD => ?_) (fun _ => rfl)
          have d18 : av.eval (.tmp 18) = (.pointer (some ⟨b, 0, none⟩)) := hD.1 rfl _ rfl
          have f18 := (ev_form av 18).symm.trans d18
          refine ⟨rfl, ?_⟩
          simp [go_sem, f18, y0, y1]
        case s13 =>
          refine step_val (v := (.pointer (some ⟨b, 0, none⟩))) (fun av wv hE hS hO hD => ?_) (fun _ => rfl)
          have d30 : av.eval (.tmp 30) = (.pointer (some ⟨b, 0, none⟩)) := hD.1 rfl _ rfl
          have f30 := (ev_form av 30).symm.trans d30
          refine ⟨rfl, ?_⟩
          simp [go_sem, f30, y0, y1]
        intro a' w' hE hO hall
        have hA := act_of_outer (ds := [18, 19, 20, 21, 22, 23, 24, 25, 26, 27, 28, 29, 30, 31]) rfl hO (by kernel_rfl)
        have e18 : (fun u _ => u = (.pointer (some ⟨b, 0, none⟩))) (a'.eval (.tmp 18)) w' := hall.1 _ rfl
        have e19 : (fun u _ => u = (.pointer (some ⟨b, 0, none⟩))) (a'.eval (.tmp 19)) w' := hall.2.1 _ rfl
        have e20 : (fun u _ => u = (.pointer (some ⟨b, 0, none⟩))) (a'.eval (.tmp 20)) w' := hall.2.2.1 _ rfl
        have e21 : (fun u _ => u = (.pointer (some ⟨b, 0, none⟩))) (a'.eval (.tmp 21)) w' := hall.2.2.2.1 _ rfl
        have e22 : (fun u _ => u = (v)) (a'.eval (.tmp 22)) w' := hall.2.2.2.2.1 _ rfl
        have e23 : (fun u _ => u = (.pointer (some ⟨br, 1, none⟩))) (a'.eval (.tmp 23)) w' := hall.2.2.2.2.2.1 _ rfl
        have e24 : (fun u _ => u = (.int .u8 r.first)) (a'.eval (.tmp 24)) w' := hall.2.2.2.2.2.2.1 _ rfl
        have e25 : (fun u _ => u = (.int .u64 n)) (a'.eval (.tmp 25)) w' := hall.2.2.2.2.2.2.2.1 _ rfl
        have e26 : (fun u _ => u = (.int .u8 n)) (a'.eval (.tmp 26)) w' := hall.2.2.2.2.2.2.2.2.1 _ rfl
        have e27 : (fun u _ => u = (.int .u8 y)) (a'.eval (.tmp 27)) w' := hall.2.2.2.2.2.2.2.2.2.1 _ rfl
        have e28 : (fun u w' => ∃ b, u = .slice (some ⟨b, 0, none⟩) 1 1 ∧ some b ≠ v.ownBlock ∧ w'.heap[b]? = some (.cells ([.int .u8 y]).toArray 5 (0, 0))) (a'.eval (.tmp 28)) w' := hall.2.2.2.2.2.2.2.2.2.2.1 _ rfl
        have e29 : (fun u w' => w'.ownsRow (base) 5 1 u (s.size + 1) (Lib.strCells s ++ [.int .u8 y])) (a'.eval (.tmp 29)) w' := hall.2.2.2.2.2.2.2.2.2.2.2.1 _ rfl
        have e30 : (fun u _ => u = (.pointer (some ⟨b, 0, none⟩))) (a'.eval (.tmp 30)) w' := hall.2.2.2.2.2.2.2.2.2.2.2.2.1 _ rfl
        have e31 : (fun u _ => u = (.pointer (some ⟨b, 0, none⟩))) (a'.eval (.tmp 31)) w' := hall.2.2.2.2.2.2.2.2.2.2.2.2.2.1 _ rfl
        obtain ⟨v28, hv28⟩ : ∃ v, a'.eval (.tmp 28) = v := ⟨_, rfl⟩
        rw [hv28] at e28
        obtain ⟨v29, hv29⟩ : ∃ v, a'.eval (.tmp 29) = v := ⟨_, rfl⟩
        rw [hv29] at e29
        simp only [List.foldl_cons, List.foldl_nil, Act.put, List.setIfInBounds_toArray, List.set_cons_succ, List.set_cons_zero, e18, e19, e20, e21, e22, e23, e24, e25, e26, e27, hv28, hv29, e30, e31] at hA
        clear hO hall e18 e19 e20 e21 e22 e23 e24 e25 e26 e27 hv28 hv29 e30 e31
        subst hA
        obtain ⟨ga, gc, rfl⟩ := own_slice e29
        have hst := wr_step (s' := s ++ baL [toB y]) hbase VV.out HOWN.out hE (by rw [baL_one]; exact e29) (by rw [strCells_app, strCells_one hy0 hy1])
        have HST := Lib.hid hst
        have hc4 := hst.1
        have hf4 := hst.2.1
        clear hst hE e29
        go_wp2
        go_ret
        refine ⟨ret_bool HX.out.symm, ?_, (WK.of_below VB.out HBS.out).trans HST.out.2.2.2⟩
        rw [HIF.out]
        have e4 : rowB r n = [toB y] := by unfold rowB; rw [if_pos HSZ.out, HY.out]
        rw [e4]; exact HST.out.2.2.1
      · have e0 : (r.size == 0) = false := by simpa using hsz
        have HSZ := Lib.hid hsz
        clear hsz
        go_upto_region 6 with fail
        obtain ⟨br, hbr⟩ : ∃ br, w.heap.size = br := ⟨_, rfl⟩
        obtain ⟨V, hV⟩ : ∃ V, w.alloc (.cells #[.int .u64 r.below, .int .u8 r.first, .int .i64 r.size] 336) = V := ⟨_, rfl⟩
        have VB : Hid (Below w.heap.size w V) := Lib.hid (by rw [← hV]; exact balloc (Below.refl _ _) _)
        have VR : Hid (V.heap[br]? = some (.cells #[.int .u64 r.below, .int .u8 r.first, .int .i64 r.size] 336 (0, 0))) := Lib.hid (by rw [← hV, ← hbr]; exact heap_alloc_new _ _)
        have VN : Hid (V.heap[bn]? = some (.cells #[.int .u64 n] 23 (0, 0))) := Lib.hid ((VB.out.block _ (lt_of_block HN.out)).trans HN.out)
        have VW : Hid (V.heap[bw]? = some (.cells #[.pointer (some ⟨b, 0, none⟩)] 177 (0, 0))) := Lib.hid ((VB.out.block _ (lt_of_block HW2.out)).trans HW2.out)
        have VV : Hid (V.heap[b]? = some (.cells #[v] 233 (0, 0))) := Lib.hid ((VB.out.block _ hltb).trans HV.out)
        have HOWN := Lib.hid (own_below HOWN0.out VB.out)
        have HQ : Hid (∀ g, v.ownBlock = some g → base ≤ g ∧ g < V.heap.size) := Lib.hid (fun g hg => HOWN.out.lt g hg)
        have n1 := own_not8 HOWN.out VN.out n8n
        have n2 := own_not8 HOWN.out VW.out n8b
        have n3 := own_not8 HOWN.out VR.out n8r
        have n4 := own_not8 HOWN.out VV.out n8w
        have c1 : V.cell? ⟨bn, 0, none⟩ = some (.int .u64 n) := block_cell VN.out 0
        have c2 : V.cell? ⟨bw, 0, none⟩ = some (.pointer (some ⟨b, 0, none⟩)) := block_cell VW.out 0
        have c3 : V.cell? ⟨br, 1, none⟩ = some (.int .u8 r.first) := block_cell VR.out 1
        have c4 : V.cell? ⟨b, 0, none⟩ = some v := block_cell VV.out 0
        have hbV : base ≤ V.heap.size := Nat.le_trans hbase (Nat.le_of_lt (lt_of_block VV.out))
        rw [hbr]
        try rw [hV]
        clear hV hbr cn cw cb
        refine wp_region_tail 11 8 (v.ownBlock) (phis [fun u _ => u = (.pointer (some ⟨b, 0, none⟩)), fun u _ => u = (.pointer (some ⟨b, 0, none⟩)), fun u _ => u = (.pointer (some ⟨b, 0, none⟩)), fun u _ => u = (.pointer (some ⟨b, 0, none⟩)), fun u _ => u = (v), fun u _ => u = (.pointer (some ⟨br, 1, none⟩)), fun u _ => u = (.int .u8 r.first), fun u w' => ∃ b, u = .slice (some ⟨b, 0, none⟩) 1 1 ∧ some b ≠ v.ownBlock ∧ w'.heap[b]? = some (.cells ([.int .u8 r.first]).toArray 5 (0, 0)), fun u w' => w'.ownsRow (base) 5 1 u (s.size + 1) (Lib.strCells s ++ [.int .u8 r.first]), fun u _ => u = (.pointer (some ⟨b, 0, none⟩)), fun u _ => u = (.pointer (some ⟨b, 0, none⟩))]) rfl (by kernel_rfl) (by kernel_rfl) (mono_of ⟨mono_eq, mono_eq, mono_eq, mono_eq, mono_eq, mono_eq, mono_eq, ?m7, ?m8, mono_eq, mono_eq, trivial⟩) (steps_of 11 ⟨?s0, ?s1, ?s2, ?s3, ?s4, ?s5, ?s6, ?s7, ?s8, ?s9, ?s10, trivial⟩) ?_
        case m7 =>
          exact ⟨fun u w1 w' h ⟨b, h1, hb, hb'⟩ => ⟨b, h1, hb, ext_block h hb'⟩, fun _ u w1 w' h ⟨b, h1, hb, hb'⟩ => ⟨b, h1, hb, extB_block h hb hb'⟩⟩
        case m8 =>
          exact ⟨fun u w1 w' h hu => own_below hu h, fun hn => absurd rfl hn⟩
        case s0 =>
          refine step_val (v := (.pointer (some ⟨b, 0, none⟩))) (fun av wv hE hS hO hD => ?_) (fun _ => rfl)
          have h2 : av.eval (.tmp 2) = (.pointer (some ⟨bw, 0, none⟩)) := hO.2.2 2 rfl
          have f2 := (ev_form av 2).symm.trans h2
          have c1 := extB_cell hE n1 c1
          have c2 := extB_cell hE n2 c2
          have c3 := extB_cell hE n3 c3
          have c4 := extB_cell hE n4 c4
          refine ⟨rfl, ?_⟩
          simp [go_sem, f2, c1, c2, c3, c4]
        case s1 =>
          refine step_val (v := (.pointer (some ⟨b, 0, none⟩))) (fun av wv hE hS hO hD => ?_) (fun _ => rfl)
          have h2 : av.eval (.tmp 2) = (.pointer (some ⟨bw, 0, none⟩)) := hO.2.2 2 rfl
          have f2 := (ev_form av 2).symm.trans h2
          have c1 := extB_cell hE n1 c1
          have c2 := extB_cell hE n2 c2
          have c3 := extB_cell hE n3 c3
          have c4 := extB_cell hE n4 c4
          refine ⟨rfl, ?_⟩
          simp [go_sem, f2, c1, c2, c3, c4]
        case s2 =>
          refine step_val (v := (.pointer (some ⟨b, 0, none⟩))) (fun av wv hE hS hO hD => ?_) (fun _ => rfl)
          have d33 : av.eval (.tmp 33) = (.pointer (some ⟨b, 0, none⟩)) := hD.1 rfl _ rfl
          have f33 := (ev_form av 33).symm.trans d33
          refine ⟨rfl, ?_⟩
          simp [go_sem, f33]
        case s3 =>
          refine step_val (v := (.pointer (some ⟨b, 0, none⟩))) (fun av wv hE hS hO hD => ?_) (fun _ => rfl)
          have d34 : av.eval (.tmp 34) = (.pointer (some ⟨b, 0, none⟩)) := hD.1 rfl _ rfl
          have f34 := (ev_form av 34).symm.trans d34
          refine ⟨rfl, ?_⟩
          simp [go_sem, f34]
        case s4 =>
          refine step_val (v := (v)) (fun av wv hE hS hO hD => ?_) (fun _ => rfl)
          have d35 : av.eval (.tmp 35) = (.pointer (some ⟨b, 0, none⟩)) := hD.1 rfl _ rfl
          have f35 := (ev_form av 35).symm.trans d35
          have c1 := extB_cell hE n1 c1
          have c2 := extB_cell hE n2 c2
          have c3 := extB_cell hE n3 c3
          have c4 := extB_cell hE n4 c4
          refine ⟨rfl, ?_⟩
          simp [go_sem, f35, c1, c2, c3, c4]
        case s5 =>
          refine step_val (v := (.pointer (some ⟨br, 1, none⟩))) (fun av wv hE hS hO hD => ?_) (fun _ => rfl)
          have h3 : av.eval (.tmp 3) = (.pointer (some ⟨br, 0, none⟩)) := hO.2.2 3 rfl
          have f3 := (ev_form av 3).symm.trans h3
          refine ⟨rfl, ?_⟩
          simp [go_sem, f3]
        case s6 =>
          refine step_val (v := (.int .u8 r.first)) (fun av wv hE hS hO hD => ?_) (fun _ => rfl)
          have d37 : av.eval (.tmp 37) = (.pointer (some ⟨br, 1, none⟩)) := hD.1 rfl _ rfl
          have f37 := (ev_form av 37).symm.trans d37
          have c1 := extB_cell hE n1 c1
          have c2 := extB_cell hE n2 c2
          have c3 := extB_cell hE n3 c3
          have c4 := extB_cell hE n4 c4
          refine ⟨rfl, ?_⟩
          simp [go_sem, f37, c1, c2, c3, c4]
        case s7 =>
          refine step_wp (fun av wv hE hS hO hD => ?_)
          have d38 : av.eval (.tmp 38) = (.int .u8 r.first) := hD.1 rfl _ rfl
          have f38 := (ev_form av 38).symm.trans d38
          refine ⟨rfl, ?_⟩
          refine wp_of_run (v := .slice (some ⟨wv.heap.size, 0, none⟩) 1 1) (w' := wv.alloc (.cells ([.int .u8 r.first]).toArray 5)) (by first | (simp [go_sem, f38]; done) | (simp [go_sem, f38]; rfl)) ⟨_, rfl, es_of_ext (balloc (Ext_refl _) _), wv.heap.size, rfl, ?_, heap_alloc_new _ _⟩
          exact fun e => absurd (HQ.out _ e.symm).2 (by have := hE.size; simp at this; omega)
        case s8 =>
          refine step_wp (fun av wv hE hS hO hD => ?_)
          have d36 : av.eval (.tmp 36) = (v) := hD.1 rfl _ rfl
          have f36 := (ev_form av 36).symm.trans d36
          have d39 : (fun u w' => ∃ b, u = .slice (some ⟨b, 0, none⟩) 1 1 ∧ some b ≠ v.ownBlock ∧ w'.heap[b]? = some (.cells ([.int .u8 r.first]).toArray 5 (0, 0))) (av.eval (.tmp 39)) wv := hD.2.1 rfl _ rfl
          refine ⟨rfl, ?_⟩
          obtain ⟨bS, hS1, hbS, hcS⟩ := d39
          have hown1 : wv.ownsRow (base) 5 1 (v) (s.size) (Lib.strCells s) := own_below (w := World.drew _) (HOWN.out) (hS rfl)
          refine wp_append_lies wv _ _ _ rfl (base) 5 i0 (.int .u8 0) 1 1 Tryz.underlying41 hi hz0 hz1 hz2 rfl (by decide) (v) (s.size) _ d36 hown1 ⟨bS, 0, none⟩ 1 1 ([.int .u8 r.first]) (by exact hS1) rfl (World.news_of_block hcS) (one_u8 _) (by decide) (by unfold maxLen; omega) (by omega) (by have := hE.size; simp at this; omega) _ rfl ?_
          intro g cap1 w2 hown2 hgrow hat hlt2
          exact ⟨_, rfl, es_sp hgrow, hown2⟩
        case s9 =>
          refine step_val (v := (.pointer (some ⟨b, 0, none⟩))) (fun av wv hE hS hO hD => ?_) (fun _ => rfl)
          have d32 : av.eval (.tmp 32) = (.pointer (some ⟨b, 0, none⟩)) := hD.1 rfl _ rfl
          have f32 := (ev_form av 32).symm.trans d32
          refine ⟨rfl, ?_⟩
          simp [go_sem, f32]
        case s10 =>
          refine step_val (v := (.pointer (some ⟨b, 0, none⟩))) (fun av wv hE hS hO hD => ?_) (fun _ => rfl)
          have d41 : av.eval (.tmp 41) = (.pointer (some ⟨b, 0, none⟩)) := hD.1 rfl _ rfl
          have f41 := (ev_form av 41).symm.trans d41
          refine ⟨rfl, ?_⟩
          simp [go_sem, f41]
        intro a' w' hE hO hall
        have hA := act_of_outer (ds := [32, 33, 34, 35, 36, 37, 38, 39, 40, 41, 42]) rfl hO (by kernel_rfl)
        have e32 : (fun u _ => u = (.pointer (some ⟨b, 0, none⟩))) (a'.eval (.tmp 32)) w' := hall.1 _ rfl
        have e33 : (fun u _ => u = (.pointer (some ⟨b, 0, none⟩))) (a'.eval (.tmp 33)) w' := hall.2.1 _ rfl
        have e34 : (fun u _ => u = (.pointer (some ⟨b, 0, none⟩))) (a'.eval (.tmp 34)) w' := hall.2.2.1 _ rfl
        have e35 : (fun u _ => u = (.pointer (some ⟨b, 0, none⟩))) (a'.eval (.tmp 35)) w' := hall.2.2.2.1 _ rfl
        have e36 : (fun u _ => u = (v)) (a'.eval (.tmp 36)) w' := hall.2.2.2.2.1 _ rfl
        have e37 : (fun u _ => u = (.pointer (some ⟨br, 1, none⟩))) (a'.eval (.tmp 37)) w' := hall.2.2.2.2.2.1 _ rfl
        have e38 : (fun u _ => u = (.int .u8 r.first)) (a'.eval (.tmp 38)) w' := hall.2.2.2.2.2.2.1 _ rfl
        have e39 : (fun u w' => ∃ b, u = .slice (some ⟨b, 0, none⟩) 1 1 ∧ some b ≠ v.ownBlock ∧ w'.heap[b]? = some (.cells ([.int .u8 r.first]).toArray 5 (0, 0))) (a'.eval (.tmp 39)) w' := hall.2.2.2.2.2.2.2.1 _ rfl
        have e40 : (fun u w' => w'.ownsRow (base) 5 1 u (s.size + 1) (Lib.strCells s ++ [.int .u8 r.first])) (a'.eval (.tmp 40)) w' := hall.2.2.2.2.2.2.2.2.1 _ rfl
        have e41 : (fun u _ => u = (.pointer (some ⟨b, 0, none⟩))) (a'.eval (.tmp 41)) w' := hall.2.2.2.2.2.2.2.2.2.1 _ rfl
        have e42 : (fun u _ => u = (.pointer (some ⟨b, 0, none⟩))) (a'.eval (.tmp 42)) w' := hall.2.2.2.2.2.2.2.2.2.2.1 _ rfl
        obtain ⟨v39, hv39⟩ : ∃ v, a'.eval (.tmp 39) = v := ⟨_, rfl⟩
        rw [hv39] at e39
        obtain ⟨v40, hv40⟩ : ∃ v, a'.eval (.tmp 40) = v := ⟨_, rfl⟩
        rw [hv40] at e40
        simp only [List.foldl_cons, List.foldl_nil, Act.put, List.setIfInBounds_toArray, List.set_cons_succ, List.set_cons_zero, e32, e33, e34, e35, e36, e37, e38, hv39, hv40, e41, e42] at hA
        clear hO hall e32 e33 e34 e35 e36 e37 e38 hv39 hv40 e41 e42
        subst hA
        obtain ⟨ga, gc, rfl⟩ := own_slice e40
        have hst := wr_step (s' := s ++ baL [toB r.first]) hbase VV.out HOWN.out hE (by rw [baL_one]; exact e40) (by rw [strCells_app, strCells_one f0 f1])
        have HST := Lib.hid hst
        have hc4 := hst.1
        have hf4 := hst.2.1
        have HBR : Hid (w'.cell? ⟨br, 2, none⟩ = some (.int .i64 r.size)) := Lib.hid (extB_cell hE n3 (block_cell VR.out 2))
        clear hst hE e40 c1 c2 c3 c4
        have hne : br ≠ b := fun e => by have h1 := VR.out; rw [e, VV.out] at h1; cases h1
        have c5 : (w'.setCell ⟨b, 0, none⟩ (.slice (some ⟨ga, 0, none⟩) (s.size + 1) gc)).cell? ⟨br, 2, none⟩ = some (.int .i64 r.size) := by
          have h := (HST.out.2.2.2).keep br _ VR.out hne n8r
          exact block_cell h 2
        obtain ⟨k, hk⟩ := Int.eq_ofNat_of_zero_le s0
        have HKK := Lib.hid hk
        have k8 : k ≤ 8 := by omega
        rw [hk] at c5
        have hw1 : IntKind.i64.wrap ((k : Int) - 1) = (k : Int) - 1 := IntWalk.i64_in _ (by omega)
        clear hk HBR
        go_wp2
        obtain ⟨V2, hV2⟩ : ∃ V2, w'.setCell ⟨b, 0, none⟩ (.slice (some ⟨ga, 0, none⟩) (s.size + 1) gc) = V2 := ⟨_, rfl⟩
        have HWR2 : Hid (WrB V2 b base (s ++ baL (toB r.first :: ((hiL n k).take (k - k)).map toB))) := Lib.hid (by rw [← hV2, Nat.sub_self]; exact HST.out.2.2.1)
        have HWK2 : Hid (WK base b V V2) := Lib.hid (by rw [← hV2]; exact HST.out.2.2.2)
        try rw [hV2]
        clear hV2 HST hc4 hf4 c5 hw1 HWR
        have nbn : bn ≠ b := fun e => by have h1 := VN.out; rw [e, VV.out] at h1; cases h1
        have nbw : bw ≠ b := fun e => by have h1 := VW.out; rw [e, VV.out] at h1; cases h1
        have hbVS : base ≤ V.heap.size := hbV
        clear n1 n2 n3 n4 hbV hltb HQ
        go_loopg [5] k (fun g i wr => g ≤ k ∧ i = .int .i64 ((g : Int) - 1) ∧ Hid (WrB wr b base (s ++ baL (toB r.first :: ((hiL n k).take (k - g)).map toB))) ∧ Hid (WK base b V wr))
        case atStart => exact ⟨Nat.le_refl _, rfl, HWR2.out, HWK2.out⟩
        case round =>
          clear HWR2 HWK2
          obtain ⟨hgk, rfl, HWR, HWK⟩ := hrel
          obtain ⟨G, hG⟩ : ∃ G, G = gk := ⟨_, rfl⟩
          subst hG
          cases G with
          | zero =>
            have e2 : ((0 : Nat) : Int) - 1 = -1 := rfl
            rw [e2]
            clear e2
            go_wp2
            go_ret
            refine ⟨ret_bool HX.out.symm, ?_, (WK.of_below VB.out HBS.out).trans HWK.out⟩
            rw [HIF.out]
            have e4 : rowB r n = toB r.first :: ((hiL n k).take (k - 0)).map toB := by
              unfold rowB
              rw [if_neg HSZ.out, HKK.out, Nat.sub_zero, List.take_of_length_le (by rw [hiL_len]; exact Nat.le_refl _)]; rfl
            rw [e4]; exact HWR.out
          | succ i =>
            have e2 : ((i + 1 : Nat) : Int) - 1 = (i : Int) := by omega
            rw [e2]
            obtain ⟨t, ht⟩ : ∃ t, s ++ baL (toB r.first :: ((hiL n k).take (k - (i + 1))).map toB) = t := ⟨_, rfl⟩
            have hts : t.size ≤ 70000000000009 := by
              rw [← ht, ByteArray.size_append, baL_size, List.length_cons, List.length_map, List.length_take, hiL_len]; omega
            obtain ⟨x, hx⟩ : ∃ x, n / 2 ^ (8 * i) % 256 = x := ⟨_, rfl⟩
            have hx0 : 0 ≤ x ∧ x ≤ 255 := by rw [← hx]; omega
            have HT : Hid (s ++ baL (toB r.first :: ((hiL n k).take (k - i)).map toB) = t ++ baL [toB x]) := Lib.hid (by
              rw [← ht, hi_next n k i (by omega), show (256 : Int) ^ i = 2 ^ (8 * i) by rw [Int.pow_mul]; rfl, hx, List.map_append, ← List.cons_append, baL_app, ByteArray.append_assoc]; rfl)
            rw [ht] at HWR
            have y0 : IntKind.u8.wrap (n / 2 ^ (8 * i)) = x := by rw [IntKind.wrap_u8]; exact hx
            have y1 : IntKind.i64.wrap (8 * (i : Int)) = 8 * (i : Int) := IntWalk.i64_in _ (by omega)
            have y2 : 0 ≤ 8 * (i : Int) := by omega
            have y3 : (8 * (i : Int)).toNat = 8 * i := by omega
            clear ht e2 hx
            obtain ⟨-, v, hv, hown⟩ := HWR.out
            have VV2 := Lib.hid hv
            have HOWN := Lib.hid hown
            have VN2 := Lib.hid (HWK.out.keep _ _ VN.out nbn n8n)
            have VW2 := Lib.hid (HWK.out.keep _ _ VW.out nbw n8b)
            have n8w : Not8 (.cells #[v] 233 (0, 0)) := not8_cells (by decide)
            have HQ : Hid (∀ g, v.ownBlock = some g → base ≤ g ∧ g < wr.heap.size) := Lib.hid (fun g hg => HOWN.out.lt g hg)
            have n1 := own_not8 HOWN.out VN2.out n8n
            have n2 := own_not8 HOWN.out VW2.out n8b
            have n4 := own_not8 HOWN.out VV2.out n8w
            have c1 : wr.cell? ⟨bn, 0, none⟩ = some (.int .u64 n) := block_cell VN2.out 0
            have c2 : wr.cell? ⟨bw, 0, none⟩ = some (.pointer (some ⟨b, 0, none⟩)) := block_cell VW2.out 0
            have c4 : wr.cell? ⟨b, 0, none⟩ = some v := block_cell VV2.out 0
            have hbV : base ≤ wr.heap.size := Nat.le_trans hbase (Nat.le_of_lt (lt_of_block VV2.out))
            clear hv hown
            go_upto_region 10 with fail
            refine wp_region_tail 14 11 (v.ownBlock) (phis [fun u _ => u = (.pointer (some ⟨b, 0, none⟩)), fun u _ => u = (.pointer (some ⟨b, 0, none⟩)), fun u _ => u = (.pointer (some ⟨b, 0, none⟩)), fun u _ => u = (.pointer (some ⟨b, 0, none⟩)), fun u _ => u = (v), fun u _ => u = (.int .u64 n), fun u _ => u = (.int .i64 i), fun u _ => u = (.int .i64 (8 * (i : Int))), fun u _ => u = (.int .u64 (n / 2 ^ (8 * i))), fun u _ => u = (.int .u8 x), fun u w' => ∃ b, u = .slice (some ⟨b, 0, none⟩) 1 1 ∧ some b ≠ v.ownBlock ∧ w'.heap[b]? = some (.cells ([.int .u8 x]).toArray 5 (0, 0)), fun u w' => w'.ownsRow (base) 5 1 u (t.size + 1) (Lib.strCells t ++ [.int .u8 x]), fun u _ => u = (.pointer (some ⟨b, 0, none⟩)), fun u _ => u = (.pointer (some ⟨b, 0, none⟩))]) rfl (by kernel_rfl) (by kernel_rfl) (mono_of ⟨mono_eq, mono_eq, mono_eq, mono_eq, mono_eq, mono_eq, mono_eq, mono_eq, mono_eq, mono_eq, ?m10, ?m11, mono_eq, mono_eq, trivial⟩) (steps_of 14 ⟨?s0, ?s1, ?s2, ?s3, ?s4, ?s5, ?s6, ?s7, ?s8, ?s9, ?s10, ?s11, ?s12, ?s13, trivial⟩) ?_
            case m10 =>
              exact ⟨fun u w1 w' h ⟨b, h1, hb, hb'⟩ => ⟨b, h1, hb, ext_block h hb'⟩, fun _ u w1 w' h ⟨b, h1, hb, hb'⟩ => ⟨b, h1, hb, extB_block h hb hb'⟩⟩
            case m11 =>
              exact ⟨fun u w1 w' h hu => own_below hu h, fun hn => absurd rfl hn⟩
            case s0 =>
              refine step_val (v := (.pointer (some ⟨b, 0, none⟩))) (fun av wv hE hS hO hD => ?_) (fun _ => rfl)
              have h2 : av.eval (.tmp 2) = (.pointer (some ⟨bw, 0, none⟩)) := hO.2.2 2 rfl
              have f2 := (ev_form av 2).symm.trans h2
              have c1 := extB_cell hE n1 c1
              have c2 := extB_cell hE n2 c2
              have c4 := extB_cell hE n4 c4
              refine ⟨rfl, ?_⟩
              simp [go_sem, f2, c1, c2, c4, y0, y1, y2, y3]
            case s1 =>
              refine step_val (v := (.pointer (some ⟨b, 0, none⟩))) (fun av wv hE hS hO hD => ?_) (fun _ => rfl)
              have h2 : av.eval (.tmp 2) = (.pointer (some ⟨bw, 0, none⟩)) := hO.2.2 2 rfl
              have f2 := (ev_form av 2).symm.trans h2
              have c1 := extB_cell hE n1 c1
              have c2 := extB_cell hE n2 c2
              have c4 := extB_cell hE n4 c4
              refine ⟨rfl, ?_⟩
              simp [go_sem, f2, c1, c2, c4, y0, y1, y2, y3]
            case s2 =>
              refine step_val (v := (.pointer (some ⟨b, 0, none⟩))) (fun av wv hE hS hO hD => ?_) (fun _ => rfl)
              have d51 : av.eval (.tmp 51) = (.pointer (some ⟨b, 0, none⟩)) := hD.1 rfl _ rfl
              have f51 := (ev_form av 51).symm.trans d51
              refine ⟨rfl, ?_⟩
              simp [go_sem, f51, y0, y1, y2, y3]
            case s3 =>
              refine step_val (v := (.pointer (some ⟨b, 0, none⟩))) (fun av wv hE hS hO hD => ?_) (fun _ => rfl)
              have d52 : av.eval (.tmp 52) = (.pointer (some ⟨b, 0, none⟩)) := hD.1 rfl _ rfl
              have f52 := (ev_form av 52).symm.trans d52
              refine ⟨rfl, ?_⟩
              simp [go_sem, f52, y0, y1, y2, y3]
            case s4 =>
              refine step_val (v := (v)) (fun av wv hE hS hO hD => ?_) (fun _ => rfl)
              have d53 : av.eval (.tmp 53) = (.pointer (some ⟨b, 0, none⟩)) := hD.1 rfl _ rfl
              have f53 := (ev_form av 53).symm.trans d53
              have c1 := extB_cell hE n1 c1
              have c2 := extB_cell hE n2 c2
              have c4 := extB_cell hE n4 c4
              refine ⟨rfl, ?_⟩
              simp [go_sem, f53, c1, c2, c4, y0, y1, y2, y3]
            case s5 =>
              refine step_val (v := (.int .u64 n)) (fun av wv hE hS hO hD => ?_) (fun _ => rfl)
              have h1 : av.eval (.tmp 1) = (.pointer (some ⟨bn, 0, none⟩)) := hO.2.2 1 rfl
              have f1 := (ev_form av 1).symm.trans h1
              have c1 := extB_cell hE n1 c1
              have c2 := extB_cell hE n2 c2
              have c4 := extB_cell hE n4 c4
              refine ⟨rfl, ?_⟩
              simp [go_sem, f1, c1, c2, c4, y0, y1, y2, y3]
            case s6 =>
              refine step_val (v := (.int .i64 i)) (fun av wv hE hS hO hD => ?_) (fun _ => rfl)
              have h5 : av.eval (.tmp 5) = (.int .i64 i) := hO.2.2 5 rfl
              have f5 := (ev_form av 5).symm.trans h5
              refine ⟨rfl, ?_⟩
              simp [go_sem, f5, y0, y1, y2, y3]
            case s7 =>
              refine step_val (v := (.int .i64 (8 * (i : Int)))) (fun av wv hE hS hO hD => ?_) (fun _ => rfl)
              have d56 : av.eval (.tmp 56) = (.int .i64 i) := hD.1 rfl _ rfl
              have f56 := (ev_form av 56).symm.trans d56
              refine ⟨rfl, ?_⟩
              simp [go_sem, f56, y0, y1, y2, y3]
            case s8 =>
              refine step_val (v := (.int .u64 (n / 2 ^ (8 * i)))) (fun av wv hE hS hO hD => ?_) (fun _ => rfl)
              have d55 : av.eval (.tmp 55) = (.int .u64 n) := hD.1 rfl _ rfl
              have f55 := (ev_form av 55).symm.trans d55
              have d57 : av.eval (.tmp 57) = (.int .i64 (8 * (i : Int))) := hD.2.1 rfl _ rfl
              have f57 := (ev_form av 57).symm.trans d57
              refine ⟨rfl, ?_⟩
              simp [go_sem, f55, f57, y0, y1, y2, y3]
            case s9 =>
              refine step_val (v := (.int .u8 x)) (fun av wv hE hS hO hD => ?_) (fun _ => rfl)
              have d58 : av.eval (.tmp 58) = (.int .u64 (n / 2 ^ (8 * i))) := hD.1 rfl _ rfl
              have f58 := (ev_form av 58).symm.trans d58
              refine ⟨rfl, ?_⟩
              simp [go_sem, f58, y0, y1, y2, y3]
            case s10 =>
              refine step_wp (fun av wv hE hS hO hD => ?_)
              have d59 : av.eval (.tmp 59) = (.int .u8 x) := hD.1 rfl _ rfl
              have f59 := (ev_form av 59).symm.trans d59
              refine ⟨rfl, ?_⟩
              refine wp_of_run (v := .slice (some ⟨wv.heap.size, 0, none⟩) 1 1) (w' := wv.alloc (.cells ([.int .u8 x]).toArray 5)) (by first | (simp [go_sem, f59, y0, y1, y2, y3]; done) | (simp [go_sem, f59, y0, y1, y2, y3]; rfl)) ⟨_, rfl, es_of_ext (balloc (Ext_refl _) _), wv.heap.size, rfl, ?_, heap_alloc_new _ _⟩
              exact fun e => absurd (HQ.out _ e.symm).2 (by have := hE.size; simp at this; omega)
            case s11 =>
              refine step_wp (fun av wv hE hS hO hD => ?_)
              have d54 : av.eval (.tmp 54) = (v) := hD.1 rfl _ rfl
              have f54 := (ev_form av 54).symm.trans d54
              have d60 : (fun u w' => ∃ b, u = .slice (some ⟨b, 0, none⟩) 1 1 ∧ some b ≠ v.ownBlock ∧ w'.heap[b]? = some (.cells ([.int .u8 x]).toArray 5 (0, 0))) (av.eval (.tmp 60)) wv := hD.2.1 rfl _ rfl
              refine ⟨rfl, ?_⟩
              obtain ⟨bS, hS1, hbS, hcS⟩ := d60
              have hown1 : wv.ownsRow (base) 5 1 (v) (t.size) (Lib.strCells t) := own_below (w := World.drew _) (HOWN.out) (hS rfl)
              refine wp_append_lies wv _ _ _ rfl (base) 5 i0 (.int .u8 0) 1 1 Tryz.underlying41 hi hz0 hz1 hz2 rfl (by decide) (v) (t.size) _ d54 hown1 ⟨bS, 0, none⟩ 1 1 ([.int .u8 x]) (by exact hS1) rfl (World.news_of_block hcS) (one_u8 _) (by decide) (by unfold maxLen; omega) (by omega) (by have := hE.size; simp at this; omega) _ rfl ?_
              intro g cap1 w2 hown2 hgrow hat hlt2
              exact ⟨_, rfl, es_sp hgrow, hown2⟩
            case s12 =>
              refine step_val (v := (.pointer (some ⟨b, 0, none⟩))) (fun av wv hE hS hO hD => ?_) (fun _ => rfl)
              have d50 : av.eval (.tmp 50) = (.pointer (some ⟨b, 0, none⟩)) := hD.1 rfl _ rfl
              have f50 := (ev_form av 50).symm.trans d50
              refine ⟨rfl, ?_⟩
              simp [go_sem, f50, y0, y1, y2, y3]
            case s13 =>
              refine step_val (v := (.pointer (some ⟨b, 0, none⟩))) (fun av wv hE hS hO hD => ?_) (fun _ => rfl)
              have d62 : av.eval (.tmp 62) = (.pointer (some ⟨b, 0, none⟩)) := hD.1 rfl _ rfl
              have f62 := (ev_form av 62).symm.trans d62
              refine ⟨rfl, ?_⟩
              simp [go_sem, f62, y0, y1, y2, y3]
            intro a' w' hE hO hall
            have hA := act_of_outer (ds := [50, 51, 52, 53, 54, 55, 56, 57, 58, 59, 60, 61, 62, 63]) rfl hO (by kernel_rfl)
            have e50 : (fun u _ => u = (.pointer (some ⟨b, 0, none⟩))) (a'.eval (.tmp 50)) w' := hall.1 _ rfl
            have e51 : (fun u _ => u = (.pointer (some ⟨b, 0, none⟩))) (a'.eval (.tmp 51)) w' := hall.2.1 _ rfl
            have e52 : (fun u _ => u = (.pointer (some ⟨b, 0, none⟩))) (a'.eval (.tmp 52)) w' := hall.2.2.1 _ rfl
            have e53 : (fun u _ => u = (.pointer (some ⟨b, 0, none⟩))) (a'.eval (.tmp 53)) w' := hall.2.2.2.1 _ rfl
            have e54 : (fun u _ => u = (v)) (a'.eval (.tmp 54)) w' := hall.2.2.2.2.1 _ rfl
            have e55 : (fun u _ => u = (.int .u64 n)) (a'.eval (.tmp 55)) w' := hall.2.2.2.2.2.1 _ rfl
            have e56 : (fun u _ => u = (.int .i64 i)) (a'.eval (.tmp 56)) w' := hall.2.2.2.2.2.2.1 _ rfl
            have e57 : (fun u _ => u = (.int .i64 (8 * (i : Int)))) (a'.eval (.tmp 57)) w' := hall.2.2.2.2.2.2.2.1 _ rfl
            have e58 : (fun u _ => u = (.int .u64 (n / 2 ^ (8 * i)))) (a'.eval (.tmp 58)) w' := hall.2.2.2.2.2.2.2.2.1 _ rfl
            have e59 : (fun u _ => u = (.int .u8 x)) (a'.eval (.tmp 59)) w' := hall.2.2.2.2.2.2.2.2.2.1 _ rfl
            have e60 : (fun u w' => ∃ b, u = .slice (some ⟨b, 0, none⟩) 1 1 ∧ some b ≠ v.ownBlock ∧ w'.heap[b]? = some (.cells ([.int .u8 x]).toArray 5 (0, 0))) (a'.eval (.tmp 60)) w' := hall.2.2.2.2.2.2.2.2.2.2.1 _ rfl
            have e61 : (fun u w' => w'.ownsRow (base) 5 1 u (t.size + 1) (Lib.strCells t ++ [.int .u8 x])) (a'.eval (.tmp 61)) w' := hall.2.2.2.2.2.2.2.2.2.2.2.1 _ rfl
            have e62 : (fun u _ => u = (.pointer (some ⟨b, 0, none⟩))) (a'.eval (.tmp 62)) w' := hall.2.2.2.2.2.2.2.2.2.2.2.2.1 _ rfl
            have e63 : (fun u _ => u = (.pointer (some ⟨b, 0, none⟩))) (a'.eval (.tmp 63)) w' := hall.2.2.2.2.2.2.2.2.2.2.2.2.2.1 _ rfl
            obtain ⟨v60, hv60⟩ : ∃ v, a'.eval (.tmp 60) = v := ⟨_, rfl⟩
            rw [hv60] at e60
            obtain ⟨v61, hv61⟩ : ∃ v, a'.eval (.tmp 61) = v := ⟨_, rfl⟩
            rw [hv61] at e61
            simp only [List.foldl_cons, List.foldl_nil, Act.put, List.setIfInBounds_toArray, List.set_cons_succ, List.set_cons_zero, e50, e51, e52, e53, e54, e55, e56, e57, e58, e59, hv60, hv61, e62, e63] at hA
            clear hO hall e50 e51 e52 e53 e54 e55 e56 e57 e58 e59 hv60 hv61 e62 e63
            subst hA
            obtain ⟨ga, gc, rfl⟩ := own_slice e61
            have hst := wr_step (s' := t ++ baL [toB x]) hbase VV2.out HOWN.out hE (by rw [baL_one]; exact e61) (by rw [strCells_app, strCells_one hx0.1 hx0.2])
            have HST := Lib.hid hst
            have hc4 := hst.1
            have hf4 := hst.2.1
            clear hst hE e61 c1 c2 c4 n1 n2 n4
            go_wp2
            go_roundg i
            case rel => exact ⟨by omega, by go_num, by rw [HT.out]; exact HST.out.2.2.1, HWK.out.trans HST.out.2.2.2⟩
            case measure => omega
  · have HX : Hid (decide (n < r.below ∨ r.below = 0) = false) := Lib.hid (decide_eq_false hx)
    have g1 : decide (r.below ≤ n) = true := by simp; omega
    have g2 : decide (0 < r.below) = true := by have := HR.out.b0; simp; omega
    have HNX := Lib.hid hx
    clear hx
    go_enter Tryz.func291, Tryz.ntmps291
    go_wp2
    go_ret
    exact ⟨ret_bool HX.out.symm, by rw [if_neg HNX.out]; exact HWR.out.below (by (repeat (first | exact Below.refl _ _ | assumption | (refine bdrew ?_) | (refine bdrewN ?_ _) | (refine balloc ?_ _) | (refine bset ?_ (by first | omega | (simp; done) | (simp; omega)) _) | (refine bnext ?_ (by assumption))))), WK.of_below (by (repeat (first | exact Below.refl _ _ | assumption | (refine bdrew ?_) | (refine bdrewN ?_ _) | (refine balloc ?_ _) | (refine bset ?_ (by first | omega | (simp; done) | (simp; omega)) _) | (refine bnext ?_ (by assumption))))) (by have := HWR.out.1; have := HWR.out.lt; omega)⟩
end Go.Proofs.YtpobhbdomldecaaGreatDoor
namespace Go.Proofs.YtpobhbdomldecaaGreatDoor
open Go.RowKit
set_option linter.unusedSimpArgs false
set_option linter.unusedVariables false
structure PTab (B : Nat) (w : World) : Prop where
  glob : 5 < B
  size : B ≤ w.heap.size
  tab : ∀ k, k < 5 → ∃ tb tq rc, tb < B ∧ w.cell? ⟨5, k, none⟩ = some (.slice (some ⟨tb, tq, none⟩) (len (hrowsP k)) rc) ∧ PRows w (some ⟨tb, tq, none⟩) (hrowsP k)
theorem PTab.keep {B B' : Nat} {w w' : World} (h : PTab B w) (hb : Below B' w w') (hB : B ≤ B') : PTab B w' := by
  refine ⟨h.glob, Nat.le_trans h.size hb.size, fun k hk => ?_⟩
  obtain ⟨tb, tq, rc, h1, h2, h3⟩ := h.tab k hk
  have e : ∀ b o, b < B → w'.cell? ⟨b, o, none⟩ = w.cell? ⟨b, o, none⟩ := fun b o hb2 => hb.cell (p := ⟨b, o, none⟩) (Nat.lt_of_lt_of_le hb2 hB)
  refine ⟨tb, tq, rc, h1, (e _ _ h.glob).trans h2, fun i hi => ?_⟩
  obtain ⟨b, off, e2, c0, c1, c2⟩ := h3 i hi
  cases e2
  exact ⟨tb, tq, rfl, (e _ _ h1).trans c0, (e _ _ h1).trans c1, (e _ _ h1).trans c2⟩
theorem rowsP_pos (k : Nat) : 0 < len (hrowsP k) := by
  unfold hrowsP; split <;> simp [len]
theorem rowsP_ok {sort : Nat} {n : Int} (h0 : 0 ≤ n) (i : Nat) (hi : i < len (hrowsP sort)) : (prth (hrowsP sort) i).Ok n := by
  have hi' : i < (hrowsP sort).length := hi
  rw [prth_eq _ i hi']
  have hm : (hrowsP sort)[i] ∈ hrowsP sort := List.getElem_mem _
  generalize (hrowsP sort)[i] = r at hm
  unfold hrowsP at hm
  split at hm <;> simp at hm
  · rcases hm with rfl | rfl <;> exact ⟨by decide, by decide, by decide, by decide, by decide, by decide, fun h => by simp at h⟩
  · rcases hm with rfl | rfl | rfl
    · exact ⟨by decide, by decide, by decide, by decide, by decide, by decide, fun _ h => by simp at h; simp; omega⟩
    · exact ⟨by decide, by decide, by decide, by decide, by decide, by decide, fun h => by simp at h⟩
    · exact ⟨by decide, by decide, by decide, by decide, by decide, by decide, fun h => by simp at h⟩
  · rcases hm with rfl | rfl
    · exact ⟨by decide, by decide, by decide, by decide, by decide, by decide, fun _ h => by simp at h; simp; omega⟩
    · exact ⟨by decide, by decide, by decide, by decide, by decide, by decide, fun h => by simp at h⟩
  · rcases hm with rfl | rfl
    · exact ⟨by decide, by decide, by decide, by decide, by decide, by decide, fun _ h => by simp at h; simp; omega⟩
    · exact ⟨by decide, by decide, by decide, by decide, by decide, by decide, fun h => by simp at h⟩
  · rcases hm with rfl | rfl | rfl | rfl | rfl
    · exact ⟨by decide, by decide, by decide, by decide, by decide, by decide, fun _ h => by simp at h; simp; omega⟩
    all_goals exact ⟨by decide, by decide, by decide, by decide, by decide, by decide, fun h => by simp at h⟩
theorem headP_at {sort i : Nat} {n : Int} (hi : i < len (hrowsP sort)) (hn : ∀ j, j < i → ¬ (n < (prth (hrowsP sort) j).below ∨ (prth (hrowsP sort) j).below = 0)) (hy : n < (prth (hrowsP sort) i).below ∨ (prth (hrowsP sort) i).below = 0) : headP sort n = rowB (prth (hrowsP sort) i) n := by
  have hi' : i < (hrowsP sort).length := hi
  have hf : (hrowsP sort).find? (fun r => decide (n < r.below ∨ r.below = 0)) = some (prth (hrowsP sort) i) := by
    rw [prth_eq _ i hi'] at hy ⊢
    rw [List.find?_eq_some_iff_getElem]
    refine ⟨by simpa using hy, i, hi', rfl, fun j hj => ?_⟩
    have := hn j hj
    rw [prth_eq _ j (by omega)] at this
    simpa using this
  unfold headP
  rw [hf]
theorem headP_end {sort : Nat} {n : Int} (hn : ∀ j, j < len (hrowsP sort) → ¬ (n < (prth (hrowsP sort) j).below ∨ (prth (hrowsP sort) j).below = 0)) : headP sort n = [] := by
  have hf : (hrowsP sort).find? (fun r => decide (n < r.below ∨ r.below = 0)) = none := by
    rw [List.find?_eq_none]
    intro x hx
    obtain ⟨j, hj, rfl⟩ := List.getElem_of_mem hx
    have := hn j hj
    rw [prth_eq _ j hj] at this
    simpa using this
  unfold headP
  rw [hf]
theorem prows_keep {w w' : World} {tb tq B B' : Nat} {l : List PRow} (h : PRows w (some ⟨tb, tq, none⟩) l) (htb : tb < B) (hb : Below B' w w') (hB : B ≤ B') : PRows w' (some ⟨tb, tq, none⟩) l := fun i hi => by
  have e : ∀ o, w'.cell? ⟨tb, o, none⟩ = w.cell? ⟨tb, o, none⟩ := fun o => hb.cell (p := ⟨tb, o, none⟩) (Nat.lt_of_lt_of_le htb hB)
  obtain ⟨b, off, e2, c0, c1, c2⟩ := h i hi
  cases e2
  exact ⟨tb, tq, rfl, (e _).trans c0, (e _).trans c1, (e _).trans c2⟩
def HeadOut (s' : ByteArray) (b base : Nat) (w : World) (e : Ending) (w' : World) : Prop := e = .returned (.tuple #[]) ∧ WrB w' b base s' ∧ WK base b w w'
set_option maxRecDepth 100000 in
set_option maxHeartbeats 4000000 in
theorem phead_any (B b base sort : Nat) (n : Int) (s : ByteArray) (w : World) (ht : PTab B w) (hB : B ≤ base) (hW : WrB w b base s) (h5 : sort < 5) (h0 : 0 ≤ n) (h1 : n ≤ 18446744073709551615) (hs : s.size ≤ 70000000000000) :
    Calls Tryz.prog 263 #[.pointer (some ⟨b, 0, none⟩), .int .i64 sort, .int .u64 n] w (HeadOut (s ++ baL (headP sort n)) b base w) := by
  have HT := Lib.hid ht
  have HWR := Lib.hid hW
  obtain ⟨tb, tq, rc, htb, hg, hrows⟩ := ht.tab sort h5
  have HROWS := Lib.hid hrows
  have HBS : Hid (base ≤ w.heap.size) := Lib.hid (by have := hW.1; have := hW.lt; omega)
  have hgl : 5 < w.heap.size := lt_of_cell hg
  have i5 : (sort : Int) < 5 := by omega
  have eg := enters_of Tryz.func291 (by kernel_rfl) rfl
  clear hrows ht hW
  obtain ⟨nr, hnr⟩ : ∃ nr, len (hrowsP sort) = nr := ⟨_, rfl⟩
  have HNR := Lib.hid hnr
  have nr5 : nr ≤ 5 := by rw [← hnr]; unfold hrowsP; split <;> simp [len]
  rw [hnr] at hg
  clear hnr
  go_enter Tryz.func263, Tryz.ntmps263
  go_wp2
  obtain ⟨bw, hbw⟩ : ∃ bw, w.heap.size = bw := ⟨_, rfl⟩
  obtain ⟨V, hV⟩ : ∃ V, (w.alloc (.cells #[.pointer (some ⟨b, 0, none⟩)] 177)).alloc (.cells #[.int .u64 n] 23) = V := ⟨_, rfl⟩
  have VW : Hid (V.heap[bw]? = some (.cells #[.pointer (some ⟨b, 0, none⟩)] 177 (0, 0))) := Lib.hid (by rw [← hV, ← hbw]; exact block_alloc (heap_alloc_new _ _) _)
  have VN : Hid (V.heap[bw + 1]? = some (.cells #[.int .u64 n] 23 (0, 0))) := Lib.hid (by rw [← hV, ← hbw]; exact alloc_new_at _ (by simp))
  have VB : Hid (Below w.heap.size w V) := Lib.hid (by rw [← hV]; (repeat (first | exact Below.refl _ _ | assumption | (refine bdrew ?_) | (refine bdrewN ?_ _) | (refine balloc ?_ _) | (refine bset ?_ (by first | omega | (simp; done) | (simp; omega)) _) | (refine bnext ?_ (by assumption)))))
  have HWV : Hid (WrB V b base s) := Lib.hid (HWR.out.below VB.out)
  have hbb : Hid (b < bw) := Lib.hid (by rw [← hbw]; exact HWR.out.lt)
  have HBV : Hid (base ≤ V.heap.size) := Lib.hid (by have := VB.out.size; have := HBS.out; omega)
  rw [hbw]
  try rw [hV]
  clear hV hbw hgl
  go_loopg [14] nr (fun g i wr => ∃ m : Nat, g + m = nr ∧ i = .int .i64 m ∧ Hid (∀ j, j < m → ¬ (n < (prth (hrowsP sort) j).below ∨ (prth (hrowsP sort) j).below = 0)) ∧ Hid (WrB wr b base s) ∧ Hid (WK base b V wr))
  case atStart => exact ⟨0, rfl, rfl, fun j hj => by omega, HWV.out, WK.refl _ _ _⟩
  case round =>
    clear HWV
    obtain ⟨m, hm, rfl, HN, HWW, HWK⟩ := hrel
    by_cases hlt : m < nr
    · have i1 : (m : Int) < nr := by omega
      obtain ⟨rb, ro, hre, c0, c1, c2⟩ := prows_keep (prows_keep HROWS.out htb VB.out (Nat.le_trans hB HBS.out)) htb HWK.out.bel hB m (by rw [HNR.out]; exact hlt)
      cases hre
      obtain ⟨r, hr⟩ : ∃ r, prth (hrowsP sort) m = r := ⟨_, rfl⟩
      have HRE := Lib.hid hr
      rw [hr] at c0 c1 c2
      clear hr
      have n8n : Not8 (.cells #[.int .u64 n] 23 (0, 0)) := not8_cells (by decide)
      have n8b : Not8 (.cells #[.pointer (some ⟨b, 0, none⟩)] 177 (0, 0)) := not8_cells (by decide)
      go_wp2_with fail
      refine (head1_any r (bw + 1) bw b base n s _ (block_alloc (HWK.out.keep _ _ VN.out (by have := hbb.out; omega) n8n) _) (block_alloc (HWK.out.keep _ _ VW.out (by have := hbb.out; omega) n8b) _) (HWW.out.below (balloc (Below.refl _ _) _)) h0 h1 (by rw [← HRE.out]; exact rowsP_ok h0 m (by rw [HNR.out]; exact hlt)) hs).mono ?_
      rintro e w6 ⟨rfl, hw6, hk6⟩
      have HK6 : Hid (WK base b V w6) := Lib.hid ((HWK.out.next (balloc (Below.refl _ _) _) HBV.out).trans hk6)
      have HW6 := Lib.hid hw6
      clear hw6 hk6 HWK HWW c0 c1 c2 n8n n8b
      by_cases hx : n < r.below ∨ r.below = 0
      · rw [decide_eq_true hx]
        rw [if_pos hx] at HW6
        have HP : Hid (headP sort n = rowB r n) := Lib.hid (by rw [← HRE.out]; exact headP_at (by rw [HNR.out]; exact hlt) HN.out (by rw [HRE.out]; exact hx))
        clear hx
        go_wp2
        refine bodyPost_ret (results_none rfl _ _ _) rfl ?_
        refine ⟨rfl, ?_, (WK.of_below VB.out HBS.out).trans HK6.out⟩
        rw [HP.out]; exact HW6.out
      · rw [decide_eq_false hx]
        rw [if_neg hx] at HW6
        have HN2 : Hid (∀ j, j < m + 1 → ¬ (n < (prth (hrowsP sort) j).below ∨ (prth (hrowsP sort) j).below = 0)) := Lib.hid (fun j hj => by
          by_cases e : j = m
          · subst e; rw [HRE.out]; exact hx
          · exact HN.out j (by omega))
        clear hx
        go_wp2
        go_roundg (nr - (m + 1))
        case rel => exact ⟨m + 1, by omega, by go_num, HN2.out, HW6.out, HK6.out⟩
        case measure => omega
    · obtain rfl : m = nr := by omega
      have i1 : ¬ (m : Int) < m := by omega
      go_wp2
      go_end0
      refine ⟨rfl, ?_, (WK.of_below VB.out HBS.out).trans HWK.out⟩
      rw [headP_end (fun j hj => HN.out j (by rw [HNR.out] at hj; exact hj))]
      have e : s ++ baL [] = s := ba_ext (by simp [baL])
      rw [e]; exact HWW.out
end Go.Proofs.YtpobhbdomldecaaGreatDoor
namespace Go.Proofs.YtpobhbdomldecaaGreatDoor
open Go.RowKit
set_option linter.unusedSimpArgs false
set_option linter.unusedVariables false
def catB : List ByteArray → ByteArray
  | [] => ByteArray.empty
  | x :: r => x ++ catB r
theorem catB_app : ∀ a b : List ByteArray, catB (a ++ b) = catB a ++ catB b
  | [], b => by simp [catB]
  | x :: r, b => by rw [List.cons_append, catB, catB_app r b, catB, ByteArray.append_assoc]
theorem catB_snoc (a : List ByteArray) (x : ByteArray) : catB (a ++ [x]) = catB a ++ x := by rw [catB_app]; simp [catB]
structure FSpec where
  key : ByteArray
  must : Bool
  empty : Bool
  may : Bool
  bytes : ByteArray
def strP (s : ByteArray) : ByteArray := laidP 2 s.size s
def binP (s : ByteArray) : ByteArray := laidP 1 s.size s
def numP (n : Int) : ByteArray := laidP 0 n ByteArray.empty
def mapP (n : Nat) : ByteArray := laidP 4 n ByteArray.empty
def fieldP (f : FSpec) : ByteArray := strP f.key ++ f.bytes
def keptF (l : List FSpec) : List FSpec := l.filter fun f => !f.empty
def layP (l : List FSpec) : ByteArray := mapP (keptF l).length ++ catB ((keptF l).map fieldP)
def allMay (l : List FSpec) : Bool := l.all fun f => f.may
def rkept (l : List (ByteArray × ByteArray)) : List (ByteArray × ByteArray) := l.filter fun p => decide (p.2.size ≠ 0)
end Go.Proofs.YtpobhbdomldecaaGreatDoor
namespace Go.Proofs.YtpobhbdomldecaaGreatDoor
open Go.RowKit
set_option linter.unusedSimpArgs false
set_option linter.unusedVariables false
def LaidOut (s' : ByteArray) (b base : Nat) (w : World) (e : Ending) (w' : World) : Prop := e = .returned (.int .i64 0) ∧ WrB w' b base s' ∧ WK base b w w'
theorem many_any (B b base sort n : Nat) (s : ByteArray) (w : World) (ht : PTab B w) (hB : B ≤ base) (hW : WrB w b base s) (h5 : sort < 5) (hn : n < 65536) (hs : s.size ≤ 70000000000000) :
    Calls Tryz.prog 261 #[.pointer (some ⟨b, 0, none⟩), .int .i64 sort, .int .i64 n] w (LaidOut (s ++ baL (headP sort n)) b base w) := by
  have H := Lib.hid (phead_any B b base sort n s w ht hB hW h5 (by omega) (by omega) hs)
  have i1 : decide ((65536 : Int) ≤ (n : Int)) = false := decide_eq_false (by omega)
  have i2 : IntKind.u64.wrap (n : Int) = n := IntWalk.u64_in _ (by omega)
  clear ht hW
  go_enter Tryz.func261, Tryz.ntmps261
  go_wp2_with fail
  refine H.out.mono ?_
  rintro e w' ⟨rfl, h1, h2⟩
  have H1 := Lib.hid h1
  have H2 := Lib.hid h2
  clear h1 h2
  go_wp2
  go_ret
  exact ⟨rfl, H1.out, H2.out⟩
set_option maxRecDepth 100000 in
theorem whole_any (B b base sort : Nat) (t s : ByteArray) (w : World) (ht : PTab B w) (hB : B ≤ base) (hW : WrB w b base s) (h5 : sort < 5) (hn : t.size < 65536) (hs : s.size ≤ 70000000000000) :
    Calls Tryz.prog 262 #[.pointer (some ⟨b, 0, none⟩), .int .i64 sort, .string t] w (LaidOut (s ++ (baL (headP sort t.size) ++ t)) b base w) := by
  have H := Lib.hid (many_any B b base sort t.size s w ht hB hW h5 hn hs)
  have HBS : Hid (base ≤ w.heap.size) := Lib.hid (by have := hW.1; have := hW.lt; omega)
  obtain ⟨i0, hi, hz0, hz1, hz2⟩ := info_parts info_u8
  clear ht hW
  go_enter Tryz.func262, Tryz.ntmps262
  go_wp2_with fail
  refine H.out.mono ?_
  rintro e w1 ⟨rfl, h1, h2⟩
  obtain ⟨s1, hs1⟩ : ∃ s1, s ++ baL (headP sort t.size) = s1 := ⟨_, rfl⟩
  have hl2 : s1.size ≤ 70000000000009 := by have hl := headP_len sort t.size; rw [← hs1, ByteArray.size_append, baL_size]; omega
  have HS1 : Hid (s ++ (baL (headP sort t.size) ++ t) = s1 ++ t) := Lib.hid (by rw [← hs1, ByteArray.append_assoc])
  rw [hs1] at h1
  clear hs1
  obtain ⟨hb, v, hv, hown⟩ := h1
  have HV := Lib.hid hv
  have HOWN := Lib.hid hown
  have H2 := Lib.hid h2
  have cb := block_cell hv 0
  simp only [List.getElem?_toArray, List.getElem?_cons_zero] at cb
  clear hv hown h2
  go_wp2_with (at_builtin; refine Lib.wpList_append_own_string _ rfl _ _ 41 9 rfl base 5 i0 Tryz.underlying41 Tryz.underlying9 hi hz0 hz1 hz2 _ _ _ rfl HOWN.out t rfl (by unfold maxLen; omega) (by omega) (by have := HBS.out; have := H2.out.bel.size; omega) ?_)
  intro v' w2 hown' hgrow _
  have hst := wr_step (s' := s1 ++ t) hb HV.out HOWN.out (w1 := w2) ⟨hgrow.os, hgrow.tape, hgrow.output, hgrow.size, hgrow.block⟩ (v' := v') (ys := Lib.strCells s1 ++ Lib.strCells t) (by rw [ByteArray.size_append]; exact hown') (by rw [← strCells_app])
  have HST := Lib.hid hst
  have hc4 := hst.1
  have hf4 := hst.2.1
  have hsl : ∃ g cap, v' = .slice (some ⟨g, 0, none⟩) (s1.size + t.size) cap ∨ v' = .slice none 0 0 := by
    rcases hown'.2 with ⟨h, _⟩ | ⟨g, cap, cur, h, _⟩
    · exact ⟨0, 0, .inr h⟩
    · exact ⟨g, cap, .inl h⟩
  clear hst hown' hgrow
  obtain ⟨ga, gc, rfl | rfl⟩ := hsl
  · go_wp2
    go_ret
    exact ⟨rfl, by rw [HS1.out]; exact HST.out.2.2.1, H2.out.trans HST.out.2.2.2⟩
  · go_wp2
    go_ret
    exact ⟨rfl, by rw [HS1.out]; exact HST.out.2.2.1, H2.out.trans HST.out.2.2.2⟩
theorem Num_w (B b base : Nat) (n : Int) (s : ByteArray) (w : World) (ht : PTab B w) (hB : B ≤ base) (hW : WrB w b base s) (h0 : 0 ≤ n) (h1 : n ≤ 18446744073709551615) (hs : s.size ≤ 70000000000000) :
    Calls Tryz.prog 205 #[.pointer (some ⟨b, 0, none⟩), .int .u64 n] w (LaidOut (s ++ numP n) b base w) := by
  have H := Lib.hid (phead_any B b base 0 n s w ht hB hW (by decide) h0 h1 hs)
  clear ht hW
  go_enter Tryz.func205, Tryz.ntmps205
  go_wp2_with fail
  refine H.out.mono ?_
  rintro e w' ⟨rfl, h1, h2⟩
  have H1 := Lib.hid h1
  have H2 := Lib.hid h2
  clear h1 h2
  go_wp2
  go_ret
  have e : numP n = baL (headP 0 n) := by unfold numP laidP; exact ba_ext (by simp)
  exact ⟨rfl, by rw [e]; exact H1.out, H2.out⟩
theorem Str_w (B b base : Nat) (t s : ByteArray) (w : World) (ht : PTab B w) (hB : B ≤ base) (hW : WrB w b base s) (hn : t.size < 65536) (hs : s.size ≤ 70000000000000) :
    Calls Tryz.prog 201 #[.pointer (some ⟨b, 0, none⟩), .string t] w (LaidOut (s ++ strP t) b base w) := by
  have H := Lib.hid (whole_any B b base 2 t s w ht hB hW (by decide) hn hs)
  clear ht hW
  go_enter Tryz.func201, Tryz.ntmps201
  go_wp2_with fail
  refine H.out.mono ?_
  rintro e w' ⟨rfl, h1, h2⟩
  have H1 := Lib.hid h1
  have H2 := Lib.hid h2
  clear h1 h2
  go_wp2
  go_ret
  exact ⟨rfl, H1.out, H2.out⟩
theorem Bin_w (B b base : Nat) (t s : ByteArray) (w : World) (ht : PTab B w) (hB : B ≤ base) (hW : WrB w b base s) (hn : t.size < 65536) (hs : s.size ≤ 70000000000000) :
    Calls Tryz.prog 212 #[.pointer (some ⟨b, 0, none⟩), .string t] w (LaidOut (s ++ binP t) b base w) := by
  have H := Lib.hid (whole_any B b base 1 t s w ht hB hW (by decide) hn hs)
  clear ht hW
  go_enter Tryz.func212, Tryz.ntmps212
  go_wp2_with fail
  refine H.out.mono ?_
  rintro e w' ⟨rfl, h1, h2⟩
  have H1 := Lib.hid h1
  have H2 := Lib.hid h2
  clear h1 h2
  go_wp2
  go_ret
  exact ⟨rfl, H1.out, H2.out⟩
theorem Map_w (B b base n : Nat) (s : ByteArray) (w : World) (ht : PTab B w) (hB : B ≤ base) (hW : WrB w b base s) (hn : n < 65536) (hs : s.size ≤ 70000000000000) :
    Calls Tryz.prog 200 #[.pointer (some ⟨b, 0, none⟩), .int .i64 n] w (LaidOut (s ++ mapP n) b base w) := by
  have H := Lib.hid (many_any B b base 4 n s w ht hB hW (by decide) hn hs)
  clear ht hW
  go_enter Tryz.func200, Tryz.ntmps200
  go_wp2_with fail
  refine H.out.mono ?_
  rintro e w' ⟨rfl, h1, h2⟩
  have H1 := Lib.hid h1
  have H2 := Lib.hid h2
  clear h1 h2
  go_wp2
  go_ret
  have e : mapP n = baL (headP 4 n) := by unfold mapP laidP; exact ba_ext (by simp)
  exact ⟨rfl, by rw [e]; exact H1.out, H2.out⟩
theorem strNums (s : ByteArray) : strOfNums (s.data.toList.map fun b => (b.toNat : Int)) = s := by
  refine ba_ext ?_
  rw [strOfNums_data, List.map_map]
  conv => rhs; rw [← List.map_id s.data.toList]
  refine List.map_congr_left fun x _ => ?_
  simp
set_option maxRecDepth 100000 in
theorem ptext_any (b base : Nat) (s : ByteArray) (w : World) (hW : WrB w b base s) : Calls Tryz.prog 150 #[.pointer (some ⟨b, 0, none⟩)] w fun e w' => e = .returned (.string s) ∧ w = w' := by
  obtain ⟨hb, v, hv, hown⟩ := hW
  have cb := block_cell hv 0
  simp only [List.getElem?_toArray, List.getElem?_cons_zero] at cb
  have hc : ∀ t, Tryz.prog.underlying t = some .string → (convert 41 t v).run Tryz.prog w = .ok (.string s) w := by
    intro t ht
    rcases hown.2 with ⟨rfl, h0⟩ | ⟨g, cap, cur, rfl, _, _, _, _, _, _⟩
    · have e : s = ByteArray.empty := ba_ext (by
        have : s.data.toList.length = 0 := by rw [ba_len]; exact h0
        rw [List.eq_nil_of_length_eq_zero this]; rfl)
      rw [e]
      exact run_convert_bytes_nil w 41 5 Tryz.underlying41 Tryz.underlying5 0 0 t ht
    · have h := run_convert_bytes_arg (P := Tryz.prog) w 41 5 Tryz.underlying41 Tryz.underlying5 g 0 s.size cap (s.data.toList.map fun b => (b.toNat : Int)) (by rw [List.length_map, ba_len]) (fun i hi => by
        have h1 := hown.cellAt i (by omega)
        rw [Nat.zero_add, h1]
        have hi2 : i < s.data.toList.length := by rw [ba_len]; exact hi
        unfold Lib.strCells
        rw [List.getElem?_map, List.getElem?_eq_getElem hi2, List.getD_eq_getElem?_getD, List.getElem?_map, List.getElem?_eq_getElem hi2]; rfl) t ht
      rw [strNums] at h; exact h
  have hcv := hc 9 Tryz.underlying9
  clear hc hown hv
  go_enter Tryz.func150, Tryz.ntmps150
  go_wp2
  go_ret
  exact ⟨rfl, rfl⟩
theorem pnew_any (w : World) : Calls Tryz.prog 148 #[] w fun e w' => e = .returned (.pointer (some ⟨w.heap.size, 0, none⟩)) ∧ WrB w' w.heap.size w.heap.size ByteArray.empty ∧ Below w.heap.size w w' := by
  go_enter Tryz.func148, Tryz.ntmps148
  go_wp2
  go_ret
  exact ⟨rfl, ⟨Nat.le_refl _, .slice none 0 0, heap_alloc_new _ _, World.ownsRow_nil _ _ _ _⟩, by (repeat (first | exact Below.refl _ _ | assumption | (refine bdrew ?_) | (refine bdrewN ?_ _) | (refine balloc ?_ _) | (refine bset ?_ (by first | omega | (simp; done) | (simp; omega)) _) | (refine bnext ?_ (by assumption))))⟩
end Go.Proofs.YtpobhbdomldecaaGreatDoor
namespace Go.Proofs.YtpobhbdomldecaaGreatDoor
open Go.RowKit
set_option linter.unusedSimpArgs false
set_option linter.unusedVariables false
structure FVal where
  key : ByteArray
  must : Bool
  ef : Nat
  ec : Array Value
  mf : Nat
  mc : Array Value
  pf : Nat
  pc : Array Value
  gf : Nat
  gc : Array Value
abbrev FVal.val (r : FVal) : Value := .agg #[.string r.key, .bool r.must, .func (.func r.ef) #[] r.ec, .func (.func r.mf) #[] r.mc, .func (.func r.pf) #[] r.pc, .func (.func r.gf) #[] r.gc]
def FVal.cells (r : FVal) : List Value := [.string r.key, .bool r.must, .func (.func r.ef) #[] r.ec, .func (.func r.mf) #[] r.mc, .func (.func r.pf) #[] r.pc, .func (.func r.gf) #[] r.gc]
theorem FVal.cells_len (r : FVal) : r.cells.length = 6 := rfl
theorem FVal.cells_one (r : FVal) : ∀ u ∈ r.cells, u.oneCell' = true := by intro u hu; simp only [FVal.cells, List.mem_cons, List.not_mem_nil, or_false] at hu; rcases hu with rfl | rfl | rfl | rfl | rfl | rfl <;> rfl
def FVal.zero : FVal := ⟨ByteArray.empty, false, 0, #[], 0, #[], 0, #[], 0, #[]⟩
def fth (l : List FVal) (i : Nat) : FVal := l.getD i FVal.zero
theorem fth_eq (l : List FVal) (i : Nat) (h : i < l.length) : fth l i = l[i] := by unfold fth; rw [List.getD_eq_getElem?_getD, List.getElem?_eq_getElem h]; rfl
structure FValAt (w : World) (b o : Nat) (r : FVal) : Prop where
  c0 : w.cell? ⟨b, o, none⟩ = some (.string r.key)
  c1 : w.cell? ⟨b, o + 1, none⟩ = some (.bool r.must)
  c2 : w.cell? ⟨b, o + 2, none⟩ = some (.func (.func r.ef) #[] r.ec)
  c3 : w.cell? ⟨b, o + 3, none⟩ = some (.func (.func r.mf) #[] r.mc)
  c4 : w.cell? ⟨b, o + 4, none⟩ = some (.func (.func r.pf) #[] r.pc)
  c5 : w.cell? ⟨b, o + 5, none⟩ = some (.func (.func r.gf) #[] r.gc)
theorem FValAt.below {w w' : World} {b o : Nat} {r : FVal} (h : FValAt w b o r) (hb : Below w.heap.size w w') : FValAt w' b o r := by
  have hl := lt_of_cell h.c0
  have e : ∀ q, w'.cell? ⟨b, q, none⟩ = w.cell? ⟨b, q, none⟩ := fun q => hb.cell (p := ⟨b, q, none⟩) hl
  obtain ⟨c0, c1, c2, c3, c4, c5⟩ := h
  constructor <;> (rw [e]; assumption)
def Flds (w : World) (a : Option Addr) (l : List FVal) : Prop := ∀ i, i < len l → ∃ b off, a = some ⟨b, off, none⟩ ∧ FValAt w b (off + i * 6) (fth l i)
theorem Flds.nil (w : World) (a : Option Addr) : Flds w a [] := fun i hi => absurd hi (by simp [len])
theorem Flds.below {w w' : World} {a : Option Addr} {l : List FVal} (h : Flds w a l) (hb : Below w.heap.size w w') : Flds w' a l := fun i hi => by
  obtain ⟨b, off, rfl, hc⟩ := h i hi
  exact ⟨b, off, rfl, hc.below hb⟩
theorem Flds.drew {w w' : World} {a : Option Addr} {l : List FVal} (h : Flds w a l) (hb : Drew w w') : Flds w' a l := h.below (hb.below _)
theorem Flds.take {w : World} {a : Option Addr} {l : List FVal} (h : Flds w a l) (k : Nat) : Flds w a (l.take k) := fun i hi => by
  have hi2 : i < l.length ∧ i < k := by simp only [len, List.length_take] at hi; omega
  have hi3 : i < (l.take k).length := hi
  have e : fth (l.take k) i = fth l i := by rw [fth_eq l i hi2.1, fth_eq _ i hi3, List.getElem_take]
  rw [e]; exact h i hi2.1
theorem Flds.drop {w : World} {b off : Nat} {l : List FVal} (h : Flds w (some ⟨b, off, none⟩) l) (k : Nat) : Flds w (some ⟨b, off + k * 6, none⟩) (l.drop k) := fun i hi => by
  have hi2 : k + i < l.length := by simp only [len, List.length_drop] at hi; omega
  have hi3 : i < (l.drop k).length := hi
  have e : fth (l.drop k) i = fth l (k + i) := by rw [fth_eq l _ hi2, fth_eq _ i hi3, List.getElem_drop]
  obtain ⟨b', off', e2, hc⟩ := h (k + i) hi2
  cases e2
  exact ⟨b, _, rfl, by rw [e, show off + k * 6 + i * 6 = off + (k + i) * 6 by omega]; exact hc⟩
theorem Flds.own {w : World} {base e n : Nat} {v : Value} {l : List FVal} (h : w.ownsRow base e 6 v n (l.flatMap FVal.cells)) : ∃ a cap, v = .slice a (len l) cap ∧ Flds w a l ∧ len l ≤ cap := by
  have hn : len l = n := by have := h.1; rw [flat_length FVal.cells 6 FVal.cells_len] at this; rw [len_eq]; omega
  obtain ⟨h1, h2⟩ := h
  rcases h2 with ⟨rfl, h2⟩ | ⟨g, cap, cur, rfl, hg, hh, hc1, hc2, hc3, hc4⟩
  · obtain rfl : l = [] := List.eq_nil_of_length_eq_zero (by rw [← len_eq]; omega)
    exact ⟨none, 0, rfl, Flds.nil _ _, Nat.le_refl _⟩
  · refine ⟨some ⟨g, 0, none⟩, cap, by rw [hn], fun i hi => ⟨g, 0, rfl, ?_⟩, by omega⟩
    have hown : w.ownsRow base e 6 (.slice (some ⟨g, 0, none⟩) n cap) n (l.flatMap FVal.cells) := ⟨h1, .inr ⟨g, cap, cur, rfl, hg, hh, hc1, hc2, hc3, hc4⟩⟩
    have key : ∀ r, r < 6 → w.cell? ⟨g, 0 + i * 6 + r, none⟩ = (fth l i).cells[r]? := fun r hr => by
      have := hown.cellAt (i * 6 + r) (by rw [← hn]; omega)
      rw [Nat.zero_add, this, flat_get FVal.cells 6 FVal.cells_len l i r hi hr, fth_eq l i hi]
    exact ⟨key 0 (by decide), key 1 (by decide), key 2 (by decide), key 3 (by decide), key 4 (by decide), key 5 (by decide)⟩
theorem Flds.block {w : World} {g : Nat} {l : List FVal} {t : TypeId} {fr : Nat × Nat} (h : w.heap[g]? = some (.cells (l.flatMap FVal.cells).toArray t fr)) : Flds w (some ⟨g, 0, none⟩) l := fun i hi => ⟨g, 0, rfl, by
  have key : ∀ r, r < 6 → w.cell? ⟨g, 0 + i * 6 + r, none⟩ = (fth l i).cells[r]? := fun r hr => by
    rw [Nat.zero_add, block_cell h, List.getElem?_toArray, flat_get FVal.cells 6 FVal.cells_len l i r hi hr, fth_eq l i hi]
  exact ⟨key 0 (by decide), key 1 (by decide), key 2 (by decide), key 3 (by decide), key 4 (by decide), key 5 (by decide)⟩⟩
structure Keep8 (B : Nat) (W0 w : World) : Prop where
  s0 : B ≤ W0.heap.size
  s1 : W0.heap.size ≤ w.heap.size
  low : ∀ k : Nat, k < B → w.heap[k]? = W0.heap[k]?
  keep : ∀ (k : Nat) (x : Obj), W0.heap[k]? = some x → Not8 x → w.heap[k]? = some x
theorem Keep8.refl {B : Nat} {w : World} (h : B ≤ w.heap.size) : Keep8 B w w := ⟨h, Nat.le_refl _, fun _ _ => rfl, fun _ _ h _ => h⟩
theorem Keep8.trans {B : Nat} {a b c : World} (h : Keep8 B a b) (k : Keep8 B b c) : Keep8 B a c := ⟨h.s0, Nat.le_trans h.s1 k.s1, fun i hi => (k.low i hi).trans (h.low i hi), fun i x hx hn => k.keep i x (h.keep i x hx hn) hn⟩
theorem Keep8.of_below {B : Nat} {w w' : World} (h : Below w.heap.size w w') (hB : B ≤ w.heap.size) : Keep8 B w w' := ⟨hB, h.size, fun k hk => h.block k (Nat.lt_of_lt_of_le hk hB), fun k x hx _ => (h.block k (lt_of_block hx)).trans hx⟩
theorem Keep8.next {B : Nat} {W0 w w' : World} (h : Keep8 B W0 w) (hb : Below w.heap.size w w') : Keep8 B W0 w' := h.trans (Keep8.of_below hb (Nat.le_trans h.s0 h.s1))
theorem Keep8.base {B B' : Nat} {W0 w w' : World} (h : Keep8 B W0 w) (hb : Below B' w w') (hB : W0.heap.size ≤ B') : Keep8 B W0 w' :=
  ⟨h.s0, Nat.le_trans h.s1 hb.size, fun k hk => (hb.block k (Nat.lt_of_lt_of_le hk (Nat.le_trans h.s0 hB))).trans (h.low k hk), fun k x hx hn => (hb.block k (Nat.lt_of_lt_of_le (lt_of_block hx) hB)).trans (h.keep k x hx hn)⟩
def Off8 (W0 : World) (b : Nat) : Prop := ∀ x, W0.heap[b]? = some x → ¬ Not8 x
theorem Off8.of_le {W0 : World} {b : Nat} (h : W0.heap.size ≤ b) : Off8 W0 b := fun x hx => by have := lt_of_block hx; omega
theorem Off8.ne {W0 : World} {b k : Nat} {x : Obj} (h : Off8 W0 b) (hk : W0.heap[k]? = some x) (hn : Not8 x) : k ≠ b := fun e => by subst e; exact h x hk hn
theorem Off8.early {B b : Nat} {W0 W1 : World} (h : Off8 W1 b) (hk : Keep8 B W0 W1) : Off8 W0 b := fun x hx hn => h x (hk.keep b x hx hn) hn
theorem Keep8.wk {B base b : Nat} {W0 w w' : World} (h : Keep8 B W0 w) (hk : WK base b w w') (hb : Off8 W0 b) (hB : B ≤ base) : Keep8 B W0 w' :=
  ⟨h.s0, Nat.le_trans h.s1 hk.bel.size, fun k hk2 => (hk.bel.block k (Nat.lt_of_lt_of_le hk2 hB)).trans (h.low k hk2), fun k x hx hn => hk.keep k x (h.keep k x hx hn) (hb.ne hx hn) hn⟩
structure FSem (B : Nat) (W0 : World) (v : FVal) (f : FSpec) : Prop where
  key : v.key = f.key
  must : v.must = f.must
  ksz : f.key.size < 65536
  ee : ∀ args w, (callFunc v.ef args).run Tryz.prog w = .ok (.enter v.ef args) w
  em : ∀ args w, (callFunc v.mf args).run Tryz.prog w = .ok (.enter v.mf args) w
  ep : ∀ args w, (callFunc v.pf args).run Tryz.prog w = .ok (.enter v.pf args) w
  empty : ∀ w, Keep8 B W0 w → Calls Tryz.prog v.ef v.ec w fun e w' => e = .returned (.bool f.empty) ∧ Below w.heap.size w w'
  may : ∀ w, Keep8 B W0 w → Calls Tryz.prog v.mf v.mc w fun e w' => e = .returned (.bool f.may) ∧ Below w.heap.size w w'
  put : f.may = true → f.empty = false → ∀ w b base s, Keep8 B W0 w → Off8 W0 b → PTab B w → B ≤ base → WrB w b base s → s.size + f.bytes.size ≤ 60000000000000 →
    Calls Tryz.prog v.pf (#[.pointer (some ⟨b, 0, none⟩)] ++ v.pc) w fun e w' => e = .returned (.tuple #[]) ∧ WrB w' b base (s ++ f.bytes) ∧ WK base b w w'
theorem FSem.later {B : Nat} {W0 W1 : World} {v : FVal} {f : FSpec} (h : FSem B W0 v f) (hk : Keep8 B W0 W1) : FSem B W1 v f :=
  ⟨h.key, h.must, h.ksz, h.ee, h.em, h.ep, fun w hw => h.empty w (hk.trans hw), fun w hw => h.may w (hk.trans hw), fun h1 h2 w b base s hw hb => h.put h1 h2 w b base s (hk.trans hw) (hb.early hk)⟩
def spth (l : List FSpec) (i : Nat) : FSpec := l.getD i ⟨ByteArray.empty, false, false, false, ByteArray.empty⟩
theorem spth_eq (l : List FSpec) (i : Nat) (h : i < l.length) : spth l i = l[i] := by unfold spth; rw [List.getD_eq_getElem?_getD, List.getElem?_eq_getElem h]; rfl
def FSems (B : Nat) (W0 : World) (l : List FVal) (fs : List FSpec) : Prop := len fs = len l ∧ ∀ i, i < len l → FSem B W0 (fth l i) (spth fs i)
theorem FSems.later {B : Nat} {W0 W1 : World} {l : List FVal} {fs : List FSpec} (h : FSems B W0 l fs) (hk : Keep8 B W0 W1) : FSems B W1 l fs := ⟨h.1, fun i hi => (h.2 i hi).later hk⟩
def SaysF (w : World) (l : List FVal) (g : Nat) (lb : Array Value) (p : Nat → Bool) : Prop :=
  (∀ args w', (callFunc g args).run Tryz.prog w' = .ok (.enter g args) w') ∧ ∀ i, i < len l → ∀ w', Below w.heap.size w w' → Calls Tryz.prog g (#[(fth l i).val] ++ lb) w' fun e w'' => e = .returned (.bool (p i)) ∧ Below w'.heap.size w' w''
def IdxOut (n : Nat) (p : Nat → Bool) (w : World) (e : Ending) (w' : World) : Prop :=
  ∃ r : Int, e = .returned (.int .i64 r) ∧ ((r = -1 ∧ ∀ i, i < n → p i = false) ∨ ∃ k : Nat, k < n ∧ r = k ∧ p k = true ∧ ∀ i, i < k → p i = false) ∧ Below w.heap.size w w'
set_option maxRecDepth 100000 in
set_option maxHeartbeats 4000000 in
theorem idxf_any (a : Option Addr) (c : Nat) (l : List FVal) (g : Nat) (lb : Array Value) (p : Nat → Bool) (w : World) (hl : Flds w a l) (hn : len l ≤ 1000) (hp : SaysF w l g lb p) :
    Calls Tryz.prog 248 #[.slice a (len l) c, .func (.func g) #[] lb] w (IdxOut (len l) p w) := by
  have HL := Lib.hid hl
  have HP := Lib.hid hp.2
  have eg := hp.1
  clear hl hp
  go_enter Tryz.func248, Tryz.ntmps248
  go_wp2
  go_loopg [8] (len l) (fun g i wr => ∃ m : Nat, g + m = len l ∧ i = .int .i64 m ∧ Hid (∀ i, i < m → p i = false) ∧ Hid (Below w.heap.size w wr))
  case atStart => exact ⟨0, rfl, rfl, fun i hi => by omega, Below.refl _ _⟩
  case round =>
    obtain ⟨m, hm, rfl, HN, HB⟩ := hrel
    by_cases hlt : m < len l
    · obtain ⟨b, off, rfl, c0, c1, c2, c3, c4, c5⟩ := (HL.out.below HB.out) m hlt
      have i1 : (m : Int) < len l := by omega
      have hcall := HP.out m hlt wr HB.out
      unfold FVal.val at hcall
      have HC := Lib.hid hcall
      clear hcall
      generalize fth l m = v at c0 c1 c2 c3 c4 c5 HC
      go_wp2_with fail
      refine HC.out.mono ?_
      rintro e w1 ⟨rfl, hb⟩
      have HB1 : Hid (Below w.heap.size w w1) := Lib.hid (bnext HB.out hb)
      clear hb c0 c1 c2 c3 c4 c5
      cases hpm : p m with
      | true =>
        go_wp2
        go_ret
        exact ⟨m, rfl, .inr ⟨m, hlt, rfl, hpm, HN.out⟩, HB1.out⟩
      | false =>
        have HN2 : Hid (∀ i, i < m + 1 → p i = false) := Lib.hid (fun i hi => by
          by_cases e : i = m
          · subst e; exact hpm
          · exact HN.out i (by omega))
        clear hpm
        go_wp2
        go_roundg (len l - (m + 1))
        case rel => exact ⟨m + 1, by omega, by go_num, HN2.out, HB1.out⟩
        case measure => omega
    · obtain rfl : m = len l := by omega
      have i1 : ¬ ((len l : Nat) : Int) < len l := by omega
      go_wp2
      go_ret
      exact ⟨-1, rfl, .inl ⟨rfl, HN.out⟩, HB.out⟩
theorem containsf_any (a : Option Addr) (c : Nat) (l : List FVal) (g : Nat) (lb : Array Value) (p : Nat → Bool) (w : World) (hl : Flds w a l) (hn : len l ≤ 1000) (hp : SaysF w l g lb p) :
    Calls Tryz.prog 195 #[.slice a (len l) c, .func (.func g) #[] lb] w fun e w' => ∃ b, e = .returned (.bool b) ∧ (b = true ↔ ∃ i, i < len l ∧ p i = true) ∧ Below w.heap.size w w' := by
  have H := Lib.hid (idxf_any a c l g lb p w hl hn hp)
  clear hl hp
  go_enter Tryz.func195, Tryz.ntmps195
  go_wp2_with fail
  refine H.out.mono ?_
  rintro e w1 ⟨r, rfl, hr, hb⟩
  have HB := Lib.hid hb
  clear hb
  rcases hr with ⟨rfl, hall⟩ | ⟨k, hk, rfl, hpk, -⟩
  · have HA := Lib.hid hall
    clear hall
    go_wp2
    go_ret
    exact ⟨false, rfl, ⟨fun h => (by cases h), fun ⟨i, hi, h⟩ => by rw [HA.out i hi] at h; cases h⟩, HB.out⟩
  · have HK := Lib.hid hpk
    clear hpk
    go_wp2
    go_ret
    exact ⟨true, rfl, ⟨fun _ => ⟨k, hk, HK.out⟩, fun _ => rfl⟩, HB.out⟩
end Go.Proofs.YtpobhbdomldecaaGreatDoor
namespace Go.Proofs.YtpobhbdomldecaaGreatDoor
open Go.RowKit
set_option linter.unusedSimpArgs false
set_option linter.unusedVariables false
structure Chg (rb tb : Nat) (w w' : World) : Prop where
  os : w'.os = w.os
  tape : w'.tape = w.tape
  output : w'.output = w.output
  size : w.heap.size ≤ w'.heap.size
  block : ∀ i, i < w.heap.size → i ≠ rb → i ≠ tb → w'.heap[i]? = w.heap[i]?
theorem Chg.refl (rb tb : Nat) (w : World) : Chg rb tb w w := ⟨rfl, rfl, rfl, Nat.le_refl _, fun _ _ _ _ => rfl⟩
theorem Chg.trans {rb tb : Nat} {a b c : World} (h : Chg rb tb a b) (k : Chg rb tb b c) : Chg rb tb a c :=
  ⟨k.os.trans h.os, k.tape.trans h.tape, k.output.trans h.output, Nat.le_trans h.size k.size, fun i hi h1 h2 => (k.block i (Nat.lt_of_lt_of_le hi h.size) h1 h2).trans (h.block i hi h1 h2)⟩
theorem Chg.of_below {rb tb : Nat} {w w' : World} (h : Below w.heap.size w w') : Chg rb tb w w' := ⟨h.os, h.tape, h.output, h.size, fun i hi _ _ => h.block i hi⟩
theorem Chg.of_ext {rb tb : Nat} {w w' : World} (h : ExtB (some rb) w w') : Chg rb tb w w' := ⟨h.os, h.tape, h.output, h.size, fun i hi h1 _ => h.block i hi (by simpa using h1)⟩
theorem Chg.next {rb tb : Nat} {a b c : World} (h : Chg rb tb a b) (k : Below b.heap.size b c) : Chg rb tb a c := h.trans (Chg.of_below k)
theorem Chg.ext {rb tb : Nat} {a b c : World} (h : Chg rb tb a b) (k : ExtB (some rb) b c) : Chg rb tb a c := h.trans (Chg.of_ext k)
theorem Chg.set {rb tb : Nat} {a b : World} (h : Chg rb tb a b) (o : Nat) (v : Value) : Chg rb tb a (b.setCell ⟨tb, o, none⟩ v) :=
  ⟨h.os, h.tape, h.output, by simpa using h.size, fun i hi h1 h2 => by rw [Below.heap_setCell _ _ _ _ h2]; exact h.block i hi h1 h2⟩
def Off (rb tb : Nat) (a : Option Addr) : Prop := ∀ b off, a = some ⟨b, off, none⟩ → rb < b ∧ tb < b
def Tx (w : World) (a : Option Addr) (l : List ByteArray) : Prop := Txs w a l ∧ ∀ b off, a = some ⟨b, off, none⟩ → ∃ cs, w.heap[b]? = some (.cells cs 9 (0, 0))
def Ux (w : World) (a : Option Addr) (l : List Int) : Prop := U64s w a l ∧ ∀ b off, a = some ⟨b, off, none⟩ → ∃ cs, w.heap[b]? = some (.cells cs 23 (0, 0))
theorem Tx.keep {w w' : World} {a : Option Addr} {l : List ByteArray} (h : Tx w a l) (hb : ∀ b off cs, a = some ⟨b, off, none⟩ → w.heap[b]? = some (.cells cs 9 (0, 0)) → w'.heap[b]? = w.heap[b]?) : Tx w' a l := by
  refine ⟨fun i hi => ?_, fun b off e => ?_⟩
  · obtain ⟨b, off, rfl, h1⟩ := h.1 i hi
    obtain ⟨cs, h2⟩ := h.2 b off rfl
    exact ⟨b, off, rfl, by rw [World.cell?_of_block (w := w) (hb b off cs rfl h2)]; exact h1⟩
  · obtain ⟨cs, h2⟩ := h.2 b off e
    exact ⟨cs, (hb b off cs e h2).trans h2⟩
theorem Ux.keep {w w' : World} {a : Option Addr} {l : List Int} (h : Ux w a l) (hb : ∀ b off cs, a = some ⟨b, off, none⟩ → w.heap[b]? = some (.cells cs 23 (0, 0)) → w'.heap[b]? = w.heap[b]?) : Ux w' a l := by
  refine ⟨fun i hi => ?_, fun b off e => ?_⟩
  · obtain ⟨b, off, rfl, h1⟩ := h.1 i hi
    obtain ⟨cs, h2⟩ := h.2 b off rfl
    exact ⟨b, off, rfl, by rw [World.cell?_of_block (w := w) (hb b off cs rfl h2)]; exact h1⟩
  · obtain ⟨cs, h2⟩ := h.2 b off e
    exact ⟨cs, (hb b off cs e h2).trans h2⟩
theorem Tx.chg {rb tb : Nat} {w w' : World} {a : Option Addr} {l : List ByteArray} (h : Tx w a l) (ho : Off rb tb a) (hc : Chg rb tb w w') : Tx w' a l :=
  h.keep fun b off cs e h2 => hc.block b (lt_of_block h2) (by have := (ho b off e).1; omega) (by have := (ho b off e).2; omega)
theorem Ux.chg {rb tb : Nat} {w w' : World} {a : Option Addr} {l : List Int} (h : Ux w a l) (ho : Off rb tb a) (hc : Chg rb tb w w') : Ux w' a l :=
  h.keep fun b off cs e h2 => hc.block b (lt_of_block h2) (by have := (ho b off e).1; omega) (by have := (ho b off e).2; omega)
theorem Tx.ext {row : Option Nat} {w w' : World} {a : Option Addr} {l : List ByteArray} (h : Tx w a l) (hE : ExtB row w w') (hr : ∀ k, row = some k → ∃ cs T, w.heap[k]? = some (.cells cs T (0, 0)) ∧ T ≠ 9) : Tx w' a l :=
  h.keep fun b off cs e h2 => hE.block b (lt_of_block h2) (fun e2 => by obtain ⟨cs', T, h3, h4⟩ := hr b e2.symm; rw [h2] at h3; cases h3; exact h4 rfl)
theorem Revs.chg {rb tb : Nat} {w w' : World} {a : Option Addr} {l : List Rev} (h : Revs w a l) (ho : Off rb tb a) (hc : Chg rb tb w w') : Revs w' a l := fun i hi => by
  obtain ⟨b, off, rfl, h1⟩ := h i hi
  have hb := hc.block b (lt_of_cell h1.c0) (by have := (ho b off rfl).1; omega) (by have := (ho b off rfl).2; omega)
  have e : ∀ q, w'.cell? ⟨b, q, none⟩ = w.cell? ⟨b, q, none⟩ := fun q => World.cell?_of_block (w := w) hb
  obtain ⟨c0, c1, c2, c3, c4, c5, c6, c7, c8, c9, c10⟩ := h1
  exact ⟨b, off, rfl, by constructor <;> (rw [e]; assumption)⟩
def lth (l : List RevD) (i : Nat) : RevD := l.getD i ⟨0, 0, false, 0, [], [], ⟨#[]⟩, 0, 0, 0, 0⟩
structure RevIs (rb tb : Nat) (w : World) (r : Rev) (d : RevD) : Prop where
  pos : r.pos = d.pos
  L : r.L = d.L
  signed : r.signed = d.signed
  idx : r.idx = d.idx
  wn : r.wn = len d.ws
  ws : Tx w r.wa d.ws
  wo : Off rb tb r.wa
  pn : r.pn = len d.ps
  ps : Tx w r.pa d.ps
  po : Off rb tb r.pa
  root : r.root = d.root
  wt : r.wt = d.wt
  first : r.first = d.first
  life : r.life = d.life
  keys : r.keys = d.keys
theorem RevIs.chg {rb tb : Nat} {w w' : World} {r : Rev} {d : RevD} (h : RevIs rb tb w r d) (hc : Chg rb tb w w') : RevIs rb tb w' r d :=
  ⟨h.pos, h.L, h.signed, h.idx, h.wn, h.ws.chg h.wo hc, h.wo, h.pn, h.ps.chg h.po hc, h.po, h.root, h.wt, h.first, h.life, h.keys⟩
theorem RevIs.ext {rb tb : Nat} {row : Option Nat} {w w' : World} {r : Rev} {d : RevD} (h : RevIs rb tb w r d) (hE : ExtB row w w') (hr : ∀ k, row = some k → ∃ cs T, w.heap[k]? = some (.cells cs T (0, 0)) ∧ T ≠ 9) : RevIs rb tb w' r d :=
  ⟨h.pos, h.L, h.signed, h.idx, h.wn, h.ws.ext hE hr, h.wo, h.pn, h.ps.ext hE hr, h.po, h.root, h.wt, h.first, h.life, h.keys⟩
theorem RevIs.outer {rb tb xb : Nat} {w : World} {r : Rev} {d : RevD} (h : RevIs rb xb w r d) (hx : tb ≤ xb) : RevIs rb tb w r d :=
  ⟨h.pos, h.L, h.signed, h.idx, h.wn, h.ws, fun b off e => ⟨(h.wo b off e).1, Nat.lt_of_le_of_lt hx (h.wo b off e).2⟩, h.pn, h.ps, fun b off e => ⟨(h.po b off e).1, Nat.lt_of_le_of_lt hx (h.po b off e).2⟩, h.root, h.wt, h.first, h.life, h.keys⟩
def HoldsD (rb tb : Nat) (w : World) (v : Value) : DV → Prop
  | .num n => v = .int .u64 n
  | .flag q => v = .bool q
  | .str s => v = .string s
  | .strs l => ∃ a c, v = .slice a (len l) c ∧ (len l = 0 → a = none ∧ c = 0) ∧ Off rb tb a ∧ Tx w a l
  | .nums l => ∃ a c, v = .slice a (len l) c ∧ (len l = 0 → a = none ∧ c = 0) ∧ Off rb tb a ∧ Ux w a l
  | .revs l => ∃ a c, v = .slice a (len l) c ∧ (len l = 0 → a = none ∧ c = 0) ∧ Off rb tb a ∧ ∃ rs : List Rev, len rs = len l ∧ Revs w a rs ∧ ∀ i, i < len l → RevIs rb tb w (revnth rs i) (lth l i)
theorem HoldsD.chg {rb tb : Nat} {w w' : World} {v : Value} {d : DV} (h : HoldsD rb tb w v d) (hc : Chg rb tb w w') : HoldsD rb tb w' v d := by
  cases d with
  | num n => exact h
  | flag q => exact h
  | str s => exact h
  | strs l => obtain ⟨a, c, h1, h2, h3, h4⟩ := h; exact ⟨a, c, h1, h2, h3, h4.chg h3 hc⟩
  | nums l => obtain ⟨a, c, h1, h2, h3, h4⟩ := h; exact ⟨a, c, h1, h2, h3, h4.chg h3 hc⟩
  | revs l => obtain ⟨a, c, h1, h2, h3, rs, h4, h5, h6⟩ := h; exact ⟨a, c, h1, h2, h3, rs, h4, h5.chg h3 hc, fun i hi => (h6 i hi).chg hc⟩
def RecAt (rb tb : Nat) (T : TypeId) (n : Nat) (w : World) (x : Rcd) : Prop :=
  ∃ cs : Array Value, w.heap[tb]? = some (.cells cs T (0, 0)) ∧ cs.size = n ∧ ∀ i, i < n → ∃ v, cs[i]? = some v ∧ HoldsD rb tb w v (x i)
theorem RecAt.keep {rb tb : Nat} {T : TypeId} {n : Nat} {w w' : World} {x : Rcd} (h : RecAt rb tb T n w x) (hb : w'.heap[tb]? = w.heap[tb]?) (hc : Chg rb tb w w') : RecAt rb tb T n w' x := by
  obtain ⟨cs, h1, h2, h3⟩ := h
  refine ⟨cs, hb.trans h1, h2, fun i hi => ?_⟩
  obtain ⟨v, h4, h5⟩ := h3 i hi
  exact ⟨v, h4, h5.chg hc⟩
theorem RecAt.lt {rb tb : Nat} {T : TypeId} {n : Nat} {w : World} {x : Rcd} (h : RecAt rb tb T n w x) : tb < w.heap.size := by
  obtain ⟨cs, h1, _⟩ := h; exact lt_of_block h1
theorem RecAt.below {rb tb : Nat} {T : TypeId} {n : Nat} {w w' : World} {x : Rcd} (h : RecAt rb tb T n w x) (hb : Below w.heap.size w w') : RecAt rb tb T n w' x := h.keep (hb.block _ h.lt) (Chg.of_below hb)
theorem RecAt.ext {rb tb : Nat} {T : TypeId} {n : Nat} {w w' : World} {x : Rcd} (h : RecAt rb tb T n w x) (hE : ExtB (some rb) w w') (hne : tb ≠ rb) : RecAt rb tb T n w' x := h.keep (hE.block _ h.lt (by simpa using hne)) (Chg.of_ext hE)
theorem RecAt.get {rb tb : Nat} {T : TypeId} {n : Nat} {w : World} {x : Rcd} (h : RecAt rb tb T n w x) {o : Nat} (ho : o < n) : ∃ v, w.cell? ⟨tb, o, none⟩ = some v ∧ HoldsD rb tb w v (x o) := by
  obtain ⟨cs, h1, h2, h3⟩ := h
  obtain ⟨v, h4, h5⟩ := h3 o ho
  exact ⟨v, by rw [block_cell h1]; exact h4, h5⟩
theorem RecAt.free {rb tb : Nat} {T : TypeId} {n : Nat} {w : World} {x : Rcd} (h : RecAt rb tb T n w x) (o : Nat) : w.frozen? ⟨tb, o, none⟩ = false := by
  obtain ⟨cs, h1, _⟩ := h; exact block_free h1 o
theorem RecAt.set {rb tb : Nat} {T : TypeId} {n : Nat} {w : World} {x : Rcd} (h : RecAt rb tb T n w x) {o : Nat} (ho : o < n) {v : Value} {d : DV} (hv : HoldsD rb tb w v d) : RecAt rb tb T n (w.setCell ⟨tb, o, none⟩ v) (upd x o d) := by
  obtain ⟨cs, h1, h2, h3⟩ := h
  have hc : Chg rb tb w (w.setCell ⟨tb, o, none⟩ v) := (Chg.refl rb tb w).set o v
  refine ⟨_, block_setCell h1 v, by simpa using h2, fun i hi => ?_⟩
  by_cases e : i = o
  · subst e
    exact ⟨v, by rw [Array.getElem?_setIfInBounds_self_of_lt (by omega)], by rw [upd_at]; exact hv.chg hc⟩
  · obtain ⟨u, h4, h5⟩ := h3 i hi
    exact ⟨u, by rw [Array.getElem?_setIfInBounds_ne (fun e2 => e e2.symm)]; exact h4, by rw [upd_ne e]; exact h5.chg hc⟩
theorem RecAt.put {rb tb : Nat} {T : TypeId} {n : Nat} {w w' : World} {x : Rcd} {cs : Array Value} (h1 : w.heap[tb]? = some (.cells cs T (0, 0))) (h : RecAt rb tb T n w x) {o : Nat} (ho : o < n) {v : Value} {d : DV} (hc : Chg rb tb w w') (h2 : w'.heap[tb]? = some (.cells (cs.setIfInBounds o v) T (0, 0))) (hv : HoldsD rb tb w' v d) : RecAt rb tb T n w' (upd x o d) := by
  obtain ⟨cs', h1', h2', h3⟩ := h
  rw [h1] at h1'
  cases h1'
  refine ⟨_, h2, by simpa using h2', fun i hi => ?_⟩
  by_cases e : i = o
  · subst e
    exact ⟨v, by rw [Array.getElem?_setIfInBounds_self_of_lt (by omega)], by rw [upd_at]; exact hv⟩
  · obtain ⟨u, h4, h5⟩ := h3 i hi
    exact ⟨u, by rw [Array.getElem?_setIfInBounds_ne (fun e2 => e e2.symm)]; exact h4, by rw [upd_ne e]; exact h5.chg hc⟩
def ThAt (tb : Nat) (T : TypeId) (n : Nat) (w : World) : Prop := ∃ cs, w.heap[tb]? = some (.cells cs T (0, 0)) ∧ cs.size = n
def GetIs (res : Except Flt (Rcd × Nat)) (rb tb : Nat) (T : TypeId) (n : Nat) (s : ByteArray) (w : World) (e : Ending) (w' : World) : Prop :=
  Chg rb tb w w' ∧ match res with
    | .ok x => e = .returned (.tuple #[]) ∧ RdB w' rb s x.2 10240 ∧ x.2 ≤ s.size ∧ RecAt rb tb T n w' x.1
    | .error f => ∃ fb, e = .panicked (stopC fb) ∧ FltB w' fb f.1 f.2 ∧ ThAt tb T n w'
def fresh (x0 : Rcd) (g : GSpec) (x : Rcd) : Prop := ∀ i, i ∈ g.offs → x i = x0 i
theorem RdEnv.chg {B : Nat} {w w' : World} {qb rb tb : Nat} {s : ByteArray} {a a' : Nat} (h : RdEnv B w qb rb s a) (hc : Chg rb tb w w') (hqt : qb ≠ tb) (hBt : B ≤ tb) (hr : RdB w' rb s a' 10240) (ha : a' ≤ s.size) : RdEnv B w' qb rb s a' := by
  refine ⟨(hc.block _ (lt_of_block h.q) h.ne hqt).trans h.q, hr, ?_, h.bq, h.br, h.ne, ha, h.sz⟩
  have key : ∀ g l, TabAt B w g l → TabAt B w' g l := fun g l ⟨t, tq, rc, h1, h2, h3, h4, h5⟩ => by
    have e : ∀ b, b < B → w'.heap[b]? = w.heap[b]? := fun b hb => hc.block b (by omega) (by have := h.br; omega) (by omega)
    refine ⟨t, tq, rc, h1, h2, Nat.le_trans h3 hc.size, by rw [World.cell?_of_block (w := w) (e g h1)]; exact h4, fun i hi => ?_⟩
    obtain ⟨b, off, e2, hr⟩ := h5 i hi
    cases e2
    have e3 : ∀ q, w'.cell? ⟨t, q, none⟩ = w.cell? ⟨t, q, none⟩ := fun q => World.cell?_of_block (w := w) (e t h2)
    obtain ⟨c0, c1, c2, c3⟩ := hr
    exact ⟨t, tq, rfl, by constructor <;> (rw [e3]; assumption)⟩
  exact ⟨key _ _ h.tabs.nums, h.tabs.lists.imp key, key _ _ h.tabs.bins, key _ _ h.tabs.strs, key _ _ h.tabs.pairs⟩
structure GSem (B qb rb tb : Nat) (x0 : Rcd) (T : TypeId) (n : Nat) (s : ByteArray) (W0 : World) (v : FVal) (g : GSpec) : Prop where
  key : v.key = g.key
  must : v.must = g.must
  ee : ∀ args w, (callFunc v.ef args).run Tryz.prog w = .ok (.enter v.ef args) w
  eg : ∀ args w, (callFunc v.gf args).run Tryz.prog w = .ok (.enter v.gf args) w
  empty : ∀ w x, Chg rb tb W0 w → RecAt rb tb T n w x → Kd x0 x → Calls Tryz.prog v.ef v.ec w fun e w' => e = .returned (.bool (g.empty x)) ∧ Below w.heap.size w w'
  read : ∀ w x a, Chg rb tb W0 w → RecAt rb tb T n w x → RdEnv B w qb rb s a → fresh x0 g x → Kd x0 x → Calls Tryz.prog v.gf (#[.pointer (some ⟨qb, 0, none⟩)] ++ v.gc) w (GetIs (g.read x a) rb tb T n s w)
theorem GSem.later {B qb rb tb : Nat} {x0 : Rcd} {T : TypeId} {n : Nat} {s : ByteArray} {W0 W1 : World} {v : FVal} {g : GSpec} (h : GSem B qb rb tb x0 T n s W0 v g) (hk : Chg rb tb W0 W1) : GSem B qb rb tb x0 T n s W1 v g :=
  ⟨h.key, h.must, h.ee, h.eg, fun w x hw => h.empty w x (hk.trans hw), fun w x a hw => h.read w x a (hk.trans hw)⟩
def GSems (B qb rb tb : Nat) (x0 : Rcd) (T : TypeId) (n : Nat) (s : ByteArray) (W0 : World) (l : List FVal) (gs : List GSpec) : Prop := len gs = len l ∧ ∀ i, i < len l → GSem B qb rb tb x0 T n s W0 (fth l i) (gth gs i)
theorem GSems.later {B qb rb tb : Nat} {x0 : Rcd} {T : TypeId} {n : Nat} {s : ByteArray} {W0 W1 : World} {l : List FVal} {gs : List GSpec} (h : GSems B qb rb tb x0 T n s W0 l gs) (hk : Chg rb tb W0 W1) : GSems B qb rb tb x0 T n s W1 l gs := ⟨h.1, fun i hi => (h.2 i hi).later hk⟩
end Go.Proofs.YtpobhbdomldecaaGreatDoor
namespace Go.Proofs
set_option linter.unusedSimpArgs false
set_option linter.unusedVariables false
open Go.Shelf
def Tryz.lays169_ren : Go.Shelf.Ren := ⟨fun | 169 => 146 | n => n, fun | 70 => 170 | 9 => 9 | 0 => 0 | 72 => 172 | 37 => 41 | 127 => 229 | 3 => 3 | 5 => 5 | n => n, fun | n => n⟩
theorem Tryz.lays169 : Go.Proofs.Lays.n169 Tryz.prog Tryz.lays169_ren := {
  mixed := by kernel_rfl
  f169 := Tryz.func146.trans (congrArg some (by kernel_rfl))
  t0 := Tryz.underlying0
  a0 := Tryz.isAgg0
  z0 := Tryz.sizeOf0
  v0 := Tryz.zeroValue0
  t3 := Tryz.underlying3
  a3 := Tryz.isAgg3
  z3 := Tryz.sizeOf3
  v3 := Tryz.zeroValue3
  t9 := Tryz.underlying9
  a9 := Tryz.isAgg9
  z9 := Tryz.sizeOf9
  v9 := Tryz.zeroValue9
  t37 := Tryz.underlying41
  a37 := Tryz.isAgg41
  z37 := Tryz.sizeOf41
  v37 := Tryz.zeroValue41
  t70 := Tryz.underlying170
  a70 := Tryz.isAgg170
  z70 := Tryz.sizeOf170
  v70 := Tryz.zeroValue170
  t72 := Tryz.underlying172
  a72 := Tryz.isAgg172
  z72 := Tryz.sizeOf172
  v72 := Tryz.zeroValue172
  t127 := Tryz.underlying229
  a127 := Tryz.isAgg229
  z127 := Tryz.sizeOf229
  v127 := Tryz.zeroValue229 }
theorem Tryz.Builder_Extra_169 : Builder.Extra Tryz.prog Tryz.lays169_ren := {
  sizeBuilder := by kernel_rfl
  liesBuilder := by kernel_rfl
  t5 := Tryz.underlying5
  a5 := Tryz.isAgg5
  z5 := Tryz.sizeOf5
  v5 := Tryz.zeroValue5
  infoByte := by kernel_rfl
  cellsByte := by kernel_rfl
  sizeByte := by kernel_rfl
  neB5 := by decide }
open Go.RowKit in
theorem Tryz.Builder_String_any (B b : Nat) (l : List UInt8) (w : World) (h : Lib.IsBuilder 172 5 B b (Lib.byteCells l) w) (hBw : B ≤ w.heap.size) :
    Calls Tryz.prog 146 #[.pointer (some ⟨b, 0, none⟩)] w fun e w' => e = .returned (.string ⟨l.toArray⟩) ∧ Below B w w' := Any.Builder_String_any Tryz.lays169 Tryz.Builder_Extra_169 B b l w h hBw
def Tryz.lays125_ren : Go.Shelf.Ren := ⟨fun | 125 => 153 | 128 => 215 | 129 => 216 | n => n, fun | 46 => 61 | 3 => 3 | 51 => 221 | 53 => 23 | 4 => 4 | 5 => 5 | 9 => 9 | n => n, fun | n => n⟩
theorem Tryz.lays125 : Go.Proofs.Lays.n125 Tryz.prog Tryz.lays125_ren := {
  mixed := by kernel_rfl
  f125 := Tryz.func153.trans (congrArg some (by kernel_rfl))
  f128 := Tryz.func215.trans (congrArg some (by kernel_rfl))
  f129 := Tryz.func216.trans (congrArg some (by kernel_rfl))
  t3 := Tryz.underlying3
  a3 := Tryz.isAgg3
  z3 := Tryz.sizeOf3
  v3 := Tryz.zeroValue3
  t4 := Tryz.underlying4
  a4 := Tryz.isAgg4
  z4 := Tryz.sizeOf4
  v4 := Tryz.zeroValue4
  t5 := Tryz.underlying5
  a5 := Tryz.isAgg5
  z5 := Tryz.sizeOf5
  v5 := Tryz.zeroValue5
  t9 := Tryz.underlying9
  a9 := Tryz.isAgg9
  z9 := Tryz.sizeOf9
  v9 := Tryz.zeroValue9
  t46 := Tryz.underlying61
  a46 := Tryz.isAgg61
  z46 := Tryz.sizeOf61
  v46 := Tryz.zeroValue61
  t51 := Tryz.underlying221
  a51 := Tryz.isAgg221
  z51 := Tryz.sizeOf221
  v51 := Tryz.zeroValue221
  t53 := Tryz.underlying23
  a53 := Tryz.isAgg23
  z53 := Tryz.sizeOf23
  v53 := Tryz.zeroValue23 }
theorem Tryz.bits_Len (x : Int) (w : World) (h0 : 0 ≤ x) (h1 : x ≤ 18446744073709551615) :
    Calls Tryz.prog 153 #[.int .u64 x] w fun e w' => e = .returned (.int .i64 (Lib.bitLen x.toNat)) ∧ w' = w := Any.bits_Len Tryz.lays125 x w h0 h1
end Go.Proofs
namespace Go.Proofs.YtpobhbdomldecaaGreatDoor
open Go.RowKit
set_option linter.unusedSimpArgs false
set_option linter.unusedVariables false
set_option maxRecDepth 100000 in
theorem says_all {B : Nat} {W0 w : World} {l : List FVal} {fs : List FSpec} (h : FSems B W0 l fs) (hk : Keep8 B W0 w) : SaysF w l 196 #[] (fun i => !(spth fs i).may) := by
  refine ⟨enters_of Tryz.func196 (by kernel_rfl) rfl, fun i hi w' hb => ?_⟩
  show Calls Tryz.prog 196 (#[(fth l i).val] ++ #[]) w' (fun e w'' => e = .returned (.bool (!(spth fs i).may)) ∧ Below w'.heap.size w' w'')
  have hs := h.2 i hi
  generalize fth l i = v at hs
  generalize spth fs i = f at hs
  have em := hs.em
  have HM : Hid (∀ x, Below w'.heap.size w' x → Calls Tryz.prog v.mf v.mc x fun e w' => e = .returned (.bool f.may) ∧ Below x.heap.size x w') := Lib.hid (fun x hx => hs.may x ((hk.next hb).next hx))
  clear hs
  show Calls Tryz.prog 196 #[v.val] w' _
  unfold FVal.val
  go_enter Tryz.func196, Tryz.ntmps196
  go_wp2_with fail
  refine (HM.out _ (balloc (Below.refl _ _) _)).mono ?_
  rintro e w1 ⟨rfl, hb1⟩
  have HB1 : Hid (Below w'.heap.size w' w1) := Lib.hid (bnext (balloc (Below.refl _ _) _) hb1)
  clear hb1
  go_wp2
  go_ret
  exact ⟨rfl, HB1.out⟩
set_option maxRecDepth 100000 in
theorem says_lay {B : Nat} {W0 w : World} {l : List FVal} {fs : List FSpec} (h : FSems B W0 l fs) (hk : Keep8 B W0 w) : SaysF w l 199 #[] (fun i => (spth fs i).empty) := by
  refine ⟨enters_of Tryz.func199 (by kernel_rfl) rfl, fun i hi w' hb => ?_⟩
  show Calls Tryz.prog 199 (#[(fth l i).val] ++ #[]) w' (fun e w'' => e = .returned (.bool ((spth fs i).empty)) ∧ Below w'.heap.size w' w'')
  have hs := h.2 i hi
  generalize fth l i = v at hs
  generalize spth fs i = f at hs
  have ee := hs.ee
  have HM : Hid (∀ x, Below w'.heap.size w' x → Calls Tryz.prog v.ef v.ec x fun e w' => e = .returned (.bool f.empty) ∧ Below x.heap.size x w') := Lib.hid (fun x hx => hs.empty x ((hk.next hb).next hx))
  clear hs
  show Calls Tryz.prog 199 #[v.val] w' _
  unfold FVal.val
  go_enter Tryz.func199, Tryz.ntmps199
  go_wp2_with fail
  refine (HM.out _ (balloc (Below.refl _ _) _)).mono ?_
  rintro e w1 ⟨rfl, hb1⟩
  have HB1 : Hid (Below w'.heap.size w' w1) := Lib.hid (bnext (balloc (Below.refl _ _) _) hb1)
  clear hb1
  go_wp2
  go_ret
  exact ⟨rfl, HB1.out⟩
theorem allMay_iff (fs : List FSpec) (n : Nat) (h : len fs = n) : (allMay fs = false ↔ ∃ i, i < n ∧ (!(spth fs i).may) = true) := by
  unfold allMay
  subst h
  rw [List.all_eq_false]
  constructor
  · rintro ⟨x, hx, hm⟩
    obtain ⟨i, hi, rfl⟩ := List.getElem_of_mem hx
    exact ⟨i, hi, by rw [spth_eq fs i hi]; simpa using hm⟩
  · rintro ⟨i, hi, hm⟩
    have hi' : i < fs.length := hi
    exact ⟨fs[i], List.getElem_mem _, by rw [spth_eq fs i hi'] at hm; simpa using hm⟩
theorem all_any (B : Nat) (W0 : World) (a : Option Addr) (c : Nat) (l : List FVal) (fs : List FSpec) (w : World) (hl : Flds w a l) (hn : len l ≤ 1000) (hS : FSems B W0 l fs) (hk : Keep8 B W0 w) :
    Calls Tryz.prog 147 #[.slice a (len l) c] w fun e w' => e = .returned (.bool (allMay fs)) ∧ Below w.heap.size w w' := by
  have H := Lib.hid (containsf_any a c l 196 #[] _ w hl hn (says_all hS hk))
  have HI := Lib.hid (allMay_iff fs (len l) hS.1)
  clear hl hS hk
  go_enter Tryz.func147, Tryz.ntmps147
  go_wp2_with fail
  refine H.out.mono ?_
  rintro e w1 ⟨b, rfl, hb1, hb⟩
  have HB := Lib.hid hb
  have HE : Hid ((!b) = allMay fs) := Lib.hid (by
    have h := HI.out
    cases b with
    | true => rw [h.2 (hb1.1 rfl)]; rfl
    | false =>
      cases hm : allMay fs with
      | true => rfl
      | false => exact absurd (hb1.2 (h.1 hm)) (by decide))
  clear hb hb1
  go_wp2
  go_ret
  exact ⟨ret_bool HE.out, HB.out⟩
end Go.Proofs.YtpobhbdomldecaaGreatDoor
namespace Go.Proofs.YtpobhbdomldecaaGreatDoor
open Go.RowKit
set_option linter.unusedSimpArgs false
set_option linter.unusedVariables false
theorem info_field : (Tryz.prog.info? 183).map (fun i => (i.zero, i.size, i.bytes)) = some (some (.agg #[.string ByteArray.empty, .bool false, .nilFunc, .nilFunc, .nilFunc, .nilFunc]), 6, 56) := by kernel_rfl
theorem flds_news {w : World} {b off : Nat} {l : List FVal} (h : Flds w (some ⟨b, off, none⟩) l) : ∀ j u, (l.flatMap FVal.cells)[j]? = some u → w.cell? ((⟨b, off, none⟩ : Addr).add j) = some u := by
  intro j u hu
  have hj : j < (l.flatMap FVal.cells).length := (List.getElem?_eq_some_iff.1 hu).1
  rw [flat_length FVal.cells 6 FVal.cells_len] at hj
  have hi : j / 6 < l.length := by omega
  have e := flat_get FVal.cells 6 FVal.cells_len l (j / 6) (j % 6) hi (by omega)
  rw [show j / 6 * 6 + j % 6 = j by omega] at e
  rw [e] at hu
  obtain ⟨b', off', e2, c0, c1, c2, c3, c4, c5⟩ := h (j / 6) hi
  cases e2
  rw [fth_eq l _ hi] at c0 c1 c2 c3 c4 c5
  have ha : (⟨b, off, none⟩ : Addr).add j = ⟨b, off + j, none⟩ := by
    unfold Addr.add; split
    · rename_i h0; subst h0; rfl
    · rfl
  rw [ha]
  have hr : j % 6 = 0 ∨ j % 6 = 1 ∨ j % 6 = 2 ∨ j % 6 = 3 ∨ j % 6 = 4 ∨ j % 6 = 5 := by omega
  have hq : off + j = off + j / 6 * 6 + j % 6 := by omega
  rw [hq]
  rcases hr with h0 | h0 | h0 | h0 | h0 | h0 <;> rw [h0] at hu ⊢
  · rw [Nat.add_zero, c0]; exact hu
  · rw [c1]; exact hu
  · rw [c2]; exact hu
  · rw [c3]; exact hu
  · rw [c4]; exact hu
  · rw [c5]; exact hu
theorem flds_one (l : List FVal) : ∀ u ∈ l.flatMap FVal.cells, u.oneCell' = true := by
  intro u hu
  obtain ⟨v, _, hv⟩ := List.mem_flatMap.1 hu
  exact v.cells_one u hv
set_option maxRecDepth 100000 in
theorem clone_any (b off c : Nat) (l : List FVal) (w : World) (hl : Flds w (some ⟨b, off, none⟩) l) (hn : len l ≤ 1000) :
    Calls Tryz.prog 198 #[.slice (some ⟨b, off, none⟩) (len l) c] w fun e w' => ∃ v, e = .returned v ∧ w'.ownsRow w.heap.size 183 6 v (len l) (l.flatMap FVal.cells) ∧ Below w.heap.size w w' := by
  have HL := Lib.hid hl
  obtain ⟨i0, hi, hz0, hz1, hz2⟩ := info_parts info_field
  have HZ := Lib.hid hz0
  have E0 : Hid ((w.alloc (.cells #[] 183)).ownsRow w.heap.size 183 6 (.slice (some ⟨w.heap.size, 0, none⟩) 0 0) 0 []) := Lib.hid (World.ownsRow_lit w #[] 0 (Nat.le_refl _) (Nat.zero_le _) rfl)
  have heq : ∀ W, (binOp .eql 111 (.slice (some ⟨b, off, none⟩) (len l) c) (.slice none 0 0)).run Tryz.prog W = .ok (.bool false) W := fun W => Lib.run_eql_slice_nil W 111 183 (some ⟨b, off, none⟩) (len l) c 0 0 Tryz.underlying111
  clear hl hz0
  go_enter Tryz.func198, Tryz.ntmps198
  go_wp2_with (at_builtin; refine wpList_append_own _ rfl _ _ 111 rfl w.heap.size 183 i0 (.agg #[.string ByteArray.empty, .bool false, .nilFunc, .nilFunc, .nilFunc, .nilFunc]) 6 56 Tryz.underlying111 hi HZ.out hz1 hz2 rfl (by decide) _ 0 [] rfl E0.out ⟨b, off, none⟩ (len l) c (l.flatMap FVal.cells) rfl (flat_length FVal.cells 6 FVal.cells_len l) (flds_news (HL.out.below (balloc (Below.refl _ _) _))) (flds_one l) (by unfold maxLen; omega) (by omega) (by simp) ?_)
  intro v' w2 hown hgrow _
  have HB : Hid (Below w.heap.size w w2) := Lib.hid (grownBy_below (balloc (Below.refl _ _) _) hgrow (fun k hk => by simp [Value.ownBlock] at hk; omega))
  have HO : Hid (w2.ownsRow w.heap.size 183 6 v' (len l) (l.flatMap FVal.cells)) := Lib.hid (by simpa using hown)
  clear hown hgrow
  go_wp2
  go_ret
  exact ⟨_, rfl, HO.out, HB.out⟩
def RowC (w : World) (g n : Nat) (R : List FVal) : Prop := len R = n ∧ ∃ cur, w.heap[g]? = some (.cells cur 183 (0, 0)) ∧ n * 6 ≤ cur.size ∧ ∀ i, i < n → ∀ r, r < 6 → cur[i * 6 + r]? = (fth R i).cells[r]?
theorem RowC.of_own {w : World} {base n : Nat} {v : Value} {l : List FVal} (h : w.ownsRow base 183 6 v n (l.flatMap FVal.cells)) (hn : 0 < n) : ∃ g cap, v = .slice (some ⟨g, 0, none⟩) n cap ∧ base ≤ g ∧ n ≤ cap ∧ RowC w g n l := by
  have hl : len l = n := by have := h.1; rw [flat_length FVal.cells 6 FVal.cells_len] at this; rw [len_eq]; omega
  rcases h.2 with ⟨_, h0⟩ | ⟨g, cap, cur, rfl, hg, hh, hc1, hc2, hc3, hc4⟩
  · omega
  · refine ⟨g, cap, rfl, hg, hc1, hl, cur, hh, by omega, fun i hi r hr => ?_⟩
    have hil : i < l.length := by rw [← len_eq, hl]; exact hi
    have e := flat_get FVal.cells 6 FVal.cells_len l i r hil hr
    rw [fth_eq l i hil, ← e, ← hc4, List.getElem?_take, if_pos (by omega)]
    simp
theorem RowC.at {w : World} {g n : Nat} {R : List FVal} (h : RowC w g n R) {i : Nat} (hi : i < n) : FValAt w g (i * 6) (fth R i) := by
  obtain ⟨_, cur, h1, h2, h3⟩ := h
  have key : ∀ r, r < 6 → w.cell? ⟨g, i * 6 + r, none⟩ = (fth R i).cells[r]? := fun r hr => by rw [block_cell h1]; exact h3 i hi r hr
  exact ⟨key 0 (by decide), key 1 (by decide), key 2 (by decide), key 3 (by decide), key 4 (by decide), key 5 (by decide)⟩
theorem RowC.flds {w : World} {g n : Nat} {R : List FVal} (h : RowC w g n R) : Flds w (some ⟨g, 0, none⟩) R := fun i hi => ⟨g, 0, rfl, by rw [Nat.zero_add]; exact h.at (by rw [← h.1]; exact hi)⟩
theorem RowC.free {w : World} {g n : Nat} {R : List FVal} (h : RowC w g n R) (o : Nat) : w.frozen? ⟨g, o, none⟩ = false := by
  obtain ⟨_, cur, h1, _⟩ := h; exact block_free h1 o
theorem RowC.keep {w w' : World} {g n : Nat} {R : List FVal} (h : RowC w g n R) (hk : w'.heap[g]? = w.heap[g]?) : RowC w' g n R := by
  obtain ⟨h0, cur, h1, h2⟩ := h; exact ⟨h0, cur, hk.trans h1, h2⟩
theorem RowC.lt {w : World} {g n : Nat} {R : List FVal} (h : RowC w g n R) : g < w.heap.size := by
  obtain ⟨_, cur, h1, _⟩ := h; exact lt_of_block h1
def keptV (p : Nat → Bool) (l : List FVal) : Nat → List FVal
  | 0 => []
  | m + 1 => if p m then keptV p l m else keptV p l m ++ [fth l m]
theorem keptV_low {p : Nat → Bool} {l : List FVal} {k : Nat} (hk : k < len l) (h : ∀ i, i < k → p i = false) (hp : p k = true) : keptV p l (k + 1) = l.take k := by
  have key : ∀ m, m ≤ k → keptV p l m = l.take m := by
    intro m
    induction m with
    | zero => intro _; simp [keptV]
    | succ m ih =>
      intro hm
      have hm' : m < l.length := by have : k < l.length := hk; omega
      rw [keptV, h m (by omega), ih (by omega), List.take_succ_eq_append_getElem hm', fth_eq l m hm']; simp
  rw [keptV, if_pos hp, key k (Nat.le_refl _)]
theorem keptV_len (p : Nat → Bool) (l : List FVal) : ∀ m, len (keptV p l m) ≤ m
  | 0 => Nat.le_refl _
  | m + 1 => by
    have := keptV_len p l m
    rw [keptV]
    split
    · omega
    · rw [len_eq] at this ⊢; simp; omega
theorem fth_take {l : List FVal} {k t : Nat} (h : t < k) (hk : k ≤ len l) : fth (l.take k) t = fth l t := by
  have hk' : k ≤ l.length := hk
  rw [fth_eq _ t (by rw [List.length_take]; omega), fth_eq l t (by omega), List.getElem_take]
theorem fth_snoc {l : List FVal} {v : FVal} {t : Nat} (h : t < len l) : fth (l ++ [v]) t = fth l t := by
  have h' : t < l.length := h
  rw [fth_eq _ t (by simp; omega), fth_eq l t h', List.getElem_append_left h']
theorem fth_last (l : List FVal) (v : FVal) : fth (l ++ [v]) (len l) = v := by
  rw [len_eq, fth_eq _ l.length (by simp)]; simp
theorem fth_set {R : List FVal} {q t : Nat} {v : FVal} (hq : q < len R) : fth (R.set q v) t = if t = q then v else fth R t := by
  have hq' : q < R.length := hq
  by_cases e : t = q
  · subst e; rw [if_pos rfl, fth_eq _ t (by simpa using hq'), List.getElem_set_self]
  · rw [if_neg e]
    unfold fth
    rw [List.getD_eq_getElem?_getD, List.getD_eq_getElem?_getD, List.getElem?_set_ne (fun e2 => e e2.symm)]
structure DelSt (base : Nat) (p : Nat → Bool) (l : List FVal) (w : World) (g m q : Nat) (R : List FVal) (wr : World) : Prop where
  cnt : len (keptV p l m) = q
  lt : q < m
  low : ∀ t, t < q → fth R t = fth (keptV p l m) t
  high : ∀ t, m ≤ t → t < len l → fth R t = fth l t
  row : RowC wr g (len l) R
  bel : Below base w wr
theorem DelSt.below {base g m q : Nat} {p : Nat → Bool} {l R : List FVal} {w wr w' : World} (h : DelSt base p l w g m q R wr) (hb : Below wr.heap.size wr w') (hbw : base ≤ w.heap.size) : DelSt base p l w g m q R w' :=
  ⟨h.cnt, h.lt, h.low, h.high, h.row.keep (hb.block _ h.row.lt), h.bel.trans (hb.mono (Nat.le_trans hbw h.bel.size))⟩
abbrev setF (w : World) (g q : Nat) (v : FVal) : World :=
  (((((w.setCell ⟨g, q * 6, none⟩ (.string v.key)).setCell ⟨g, q * 6 + 1, none⟩ (.bool v.must)).setCell ⟨g, q * 6 + 2, none⟩ (.func (.func v.ef) #[] v.ec)).setCell ⟨g, q * 6 + 3, none⟩ (.func (.func v.mf) #[] v.mc)).setCell ⟨g, q * 6 + 4, none⟩ (.func (.func v.pf) #[] v.pc)).setCell ⟨g, q * 6 + 5, none⟩ (.func (.func v.gf) #[] v.gc)
theorem RowC.put {w : World} {g n q : Nat} {R : List FVal} (h : RowC w g n R) (hq : q < n) (v : FVal) : RowC (setF w g q v) g n (R.set q v) := by
  obtain ⟨h0, cur, h1, h2, h3⟩ := h
  refine ⟨by rw [len_eq, List.length_set, ← len_eq]; exact h0, _, block_setCell (block_setCell (block_setCell (block_setCell (block_setCell (block_setCell h1 _) _) _) _) _) _, by simpa using h2, fun i hi r hr => ?_⟩
  rw [fth_set (by omega)]
  by_cases e : i = q
  · subst e
    rw [if_pos rfl]
    have hs : i * 6 + 5 < cur.size := by omega
    have hr' : r = 0 ∨ r = 1 ∨ r = 2 ∨ r = 3 ∨ r = 4 ∨ r = 5 := by omega
    rcases hr' with rfl | rfl | rfl | rfl | rfl | rfl
    · simp only [Nat.add_zero]
      rw [Array.getElem?_setIfInBounds_ne (by omega), Array.getElem?_setIfInBounds_ne (by omega), Array.getElem?_setIfInBounds_ne (by omega), Array.getElem?_setIfInBounds_ne (by omega), Array.getElem?_setIfInBounds_ne (by omega), Array.getElem?_setIfInBounds_self_of_lt (by omega)]; rfl
    · rw [Array.getElem?_setIfInBounds_ne (by omega), Array.getElem?_setIfInBounds_ne (by omega), Array.getElem?_setIfInBounds_ne (by omega), Array.getElem?_setIfInBounds_ne (by omega), Array.getElem?_setIfInBounds_self_of_lt (by simp; omega)]; rfl
    · rw [Array.getElem?_setIfInBounds_ne (by omega), Array.getElem?_setIfInBounds_ne (by omega), Array.getElem?_setIfInBounds_ne (by omega), Array.getElem?_setIfInBounds_self_of_lt (by simp; omega)]; rfl
    · rw [Array.getElem?_setIfInBounds_ne (by omega), Array.getElem?_setIfInBounds_ne (by omega), Array.getElem?_setIfInBounds_self_of_lt (by simp; omega)]; rfl
    · rw [Array.getElem?_setIfInBounds_ne (by omega), Array.getElem?_setIfInBounds_self_of_lt (by simp; omega)]; rfl
    · rw [Array.getElem?_setIfInBounds_self_of_lt (by simp; omega)]; rfl
  · rw [if_neg e, Array.getElem?_setIfInBounds_ne (by omega), Array.getElem?_setIfInBounds_ne (by omega), Array.getElem?_setIfInBounds_ne (by omega), Array.getElem?_setIfInBounds_ne (by omega), Array.getElem?_setIfInBounds_ne (by omega), Array.getElem?_setIfInBounds_ne (by omega)]
    exact h3 i hi r hr
theorem setF_below {base g q : Nat} {a w : World} (h : Below base a w) (hg : base ≤ g) (v : FVal) : Below base a (setF w g q v) :=
  (((((h.setCell hg _).setCell hg _).setCell hg _).setCell hg _).setCell hg _).setCell hg _
theorem DelSt.put {base g m q : Nat} {p : Nat → Bool} {l R : List FVal} {w wr : World} (h : DelSt base p l w g m q R wr) (hm : m < len l) (hp : p m = false) (hg : base ≤ g) : DelSt base p l w g (m + 1) (q + 1) (R.set q (fth l m)) (setF wr g q (fth l m)) := by
  obtain ⟨a1, a2, a3, a4, a5, a6⟩ := h
  have hR := a5.1
  have e : keptV p l (m + 1) = keptV p l m ++ [fth l m] := by rw [keptV, if_neg (by rw [hp]; decide)]
  refine ⟨by rw [e, ← a1, len_eq, len_eq]; simp, by omega, fun t ht => ?_, fun t h1 h2 => ?_, a5.put (by omega) _, setF_below a6 hg _⟩
  · rw [fth_set (by omega), e]
    by_cases et : t = q
    · subst et; rw [if_pos rfl, ← a1, fth_last]
    · rw [if_neg et, fth_snoc (by omega)]; exact a3 t (by omega)
  · rw [fth_set (by omega), if_neg (by omega)]; exact a4 t (by omega) h2
theorem below_sc {B b : Nat} {a : World} (hb : B ≤ b) : ∀ (vs : List Value) (o : Nat) (w : World), Below B a w → Below B a (w.setCells b o vs)
  | [], _, _, h => h
  | v :: r, o, w, h => below_sc hb r (o + 1) _ (h.setCell hb v)
theorem cells_sc {b : Nat} {T : TypeId} {fr : Nat × Nat} : ∀ (vs : List Value) (o : Nat) (w : World) (cur : Array Value), w.heap[b]? = some (.cells cur T fr) → ∃ cur', (w.setCells b o vs).heap[b]? = some (.cells cur' T fr)
  | [], _, _, cur, h => ⟨cur, h⟩
  | v :: r, o, w, cur, h => cells_sc r (o + 1) _ _ (block_setCell h v)
theorem clear_row {w : World} {g n q c : Nat} {R : List FVal} (h : RowC w g n R) (hq : q < n) (ty : TypeId) : ∃ w7, (Builtin.clear_ #[111] ty #[.slice (some ⟨g, q * 6, none⟩) (n - q) c]).run Tryz.prog w = .ok (.tuple #[]) w7 ∧ (∀ t, t < q → FValAt w7 g (t * 6) (fth R t)) ∧ (∀ base a, base ≤ g → Below base a w → Below base a w7) ∧ ∃ cur, w7.heap[g]? = some (.cells cur 183 (0, 0)) := by
  obtain ⟨zs, hzs⟩ : ∃ zs, (Builtin.zeroCells (Value.agg #[.string ⟨#[]⟩, .bool false, .nilFunc, .nilFunc, .nilFunc, .nilFunc]).cells (n - q)).toList = zs := ⟨_, rfl⟩
  have hzl : zs.length = (n - q) * 6 := by rw [← hzs]; simp [Builtin.zeroCells, Value.cells]
  have hz1 : ∀ u ∈ zs, u.oneCell' = true := by
    intro u hu
    rw [← hzs] at hu
    simp [Builtin.zeroCells, Value.cells] at hu
    obtain ⟨i, hi, rfl⟩ := hu
    have : i % 6 = 0 ∨ i % 6 = 1 ∨ i % 6 = 2 ∨ i % 6 = 3 ∨ i % 6 = 4 ∨ i % 6 = 5 := by omega
    rcases this with e | e | e | e | e | e <;> simp [e] <;> rfl
  have hc : ∀ j, j < zs.length → (w.cell? ⟨g, q * 6 + j, none⟩).isSome = true := fun j hj => by
    obtain ⟨_, cur, h1, h2, _⟩ := h
    rw [block_cell h1, Array.getElem?_eq_getElem (by omega)]; rfl
  have hst := run_storeCells_cells (P := Tryz.prog) g (q * 6) zs 0 w (by simpa using hc) (fun j _ => h.free _) hz1
  simp only [Nat.add_zero] at hst
  refine ⟨w.setCells g (q * 6) zs, ?_, fun t ht => ?_, fun base a hb hbel => below_sc hb zs (q * 6) w hbel, by obtain ⟨_, cur, h, _⟩ := h; exact cells_sc zs (q * 6) w cur h⟩
  · obtain ⟨m, hm⟩ : ∃ m, n - q = m + 1 := ⟨n - q - 1, by omega⟩
    rw [hm] at hzs ⊢
    simp [Builtin.clear_, run_underlying Tryz.underlying111, Tryz.zeroValue183, hzs, hst]
  · obtain ⟨c0, c1, c2, c3, c4, c5⟩ := h.at (i := t) (by omega)
    have e : ∀ o, o < q * 6 → (w.setCells g (q * 6) zs).cell? ⟨g, o, none⟩ = w.cell? ⟨g, o, none⟩ := fun o ho => World.cell?_setCells_out g zs (q * 6) w ⟨g, o, none⟩ (fun _ _ => .inl ho)
    exact ⟨(e _ (by omega)).trans c0, (e _ (by omega)).trans c1, (e _ (by omega)).trans c2, (e _ (by omega)).trans c3, (e _ (by omega)).trans c4, (e _ (by omega)).trans c5⟩
def DelOut (base : Nat) (p : Nat → Bool) (l : List FVal) (w : World) (e : Ending) (w' : World) : Prop :=
  ∃ g cap, e = .returned (.slice (some ⟨g, 0, none⟩) (len (keptV p l (len l))) cap) ∧ Flds w' (some ⟨g, 0, none⟩) (keptV p l (len l)) ∧ Below base w w' ∧ base ≤ g ∧ ∃ cur, w'.heap[g]? = some (.cells cur 183 (0, 0))
set_option maxRecDepth 100000 in
set_option maxHeartbeats 4000000 in
theorem delf_any (base : Nat) (v : Value) (l : List FVal) (g0 : Nat) (lb : Array Value) (p : Nat → Bool) (w : World) (hown : w.ownsRow base 183 6 v (len l) (l.flatMap FVal.cells)) (hn : len l ≤ 1000) (h0 : 0 < len l) (hbw : base ≤ w.heap.size)
    (eg : ∀ args w', (callFunc g0 args).run Tryz.prog w' = .ok (.enter g0 args) w') (hp : ∀ i, i < len l → ∀ w', Below base w w' → Calls Tryz.prog g0 (#[(fth l i).val] ++ lb) w' fun e w'' => e = .returned (.bool (p i)) ∧ Below w'.heap.size w' w'') :
    Calls Tryz.prog 197 #[v, .func (.func g0) #[] lb] w (DelOut base p l w) := by
  obtain ⟨g, cap, rfl, hg, hcap, hrow⟩ := RowC.of_own hown h0
  have HROW := Lib.hid hrow
  have HP := Lib.hid hp
  have HI := Lib.hid (idxf_any (some ⟨g, 0, none⟩) cap l g0 lb p w hrow.flds hn ⟨eg, fun i hi w' hb => hp i hi w' (hb.mono hbw)⟩)
  clear hown hrow hp
  go_enter Tryz.func197, Tryz.ntmps197
  go_wp2_with fail
  refine HI.out.mono ?_
  rintro e w1 ⟨r, rfl, hr, hb⟩
  have HB1 := Lib.hid hb
  have HROW1 := Lib.hid (HROW.out.keep (hb.block _ HROW.out.lt))
  clear hb HROW
  rcases hr with ⟨rfl, hall⟩ | ⟨k, hk, rfl, hpk, hlow⟩
  · have HK : Hid (keptV p l (len l) = l) := Lib.hid (by
      have key : ∀ m, m ≤ len l → keptV p l m = l.take m := by
        intro m
        induction m with
        | zero => intro _; simp [keptV]
        | succ m ih =>
          intro hm
          have hm' : m < l.length := hm
          rw [keptV, hall m hm, ih (by omega), List.take_succ_eq_append_getElem hm', fth_eq l m hm']; simp
      rw [key _ (Nat.le_refl _)]; exact take_len l)
    clear hall
    go_wp2
    go_ret
    exact ⟨g, cap, by rw [HK.out]; rfl, by rw [HK.out]; exact HROW1.out.flds, HB1.out.mono hbw, hg, by obtain ⟨_, cur, h, _⟩ := HROW1.out; exact ⟨cur, h⟩⟩
  · have HPK := Lib.hid hpk
    have HLOW := Lib.hid hlow
    clear hpk hlow
    go_wp2
    have ST : Hid (DelSt base p l w g (k + 1) k l w1) := Lib.hid (by
      have e := keptV_low hk HLOW.out HPK.out
      have hk' : k < l.length := hk
      refine ⟨by rw [e, len_eq, List.length_take]; omega, Nat.lt_succ_self _, fun t ht => by rw [e, fth_take ht (Nat.le_of_lt hk)], fun t _ _ => rfl, HROW1.out, HB1.out.mono hbw⟩)
    clear HROW1 HI HLOW HPK
    go_loopg [5, 6] (len l - (k + 1)) (fun gg i j wr => ∃ m q : Nat, ∃ R : List FVal, gg + m = len l ∧ i = .int .i64 q ∧ j = .int .i64 m ∧ Hid (DelSt base p l w g m q R wr))
    case atStart => exact ⟨k + 1, k, l, by omega, rfl, by first | rfl | simp, ST.out⟩
    case round =>
      clear ST
      obtain ⟨m, q, R, hm, rfl, rfl, HST⟩ := hrel
      have hqm := HST.out.lt
      by_cases hlt : m < len l
      · have i1 : (m : Int) < len l := by omega
        obtain ⟨c0, c1, c2, c3, c4, c5⟩ := HST.out.row.at hlt
        rw [HST.out.high m (Nat.le_refl _) hlt] at c0 c1 c2 c3 c4 c5
        have hcall := HP.out m hlt
        unfold FVal.val at hcall
        obtain ⟨v, hv⟩ : ∃ v, fth l m = v := ⟨_, rfl⟩
        have HV := Lib.hid hv
        rw [hv] at c0 c1 c2 c3 c4 c5 hcall
        have HC := Lib.hid hcall
        clear hcall hv
        go_wp2_with fail
        refine (HC.out _ (HST.out.bel.trans (Below.mono (balloc (Below.refl _ _) _) (Nat.le_trans hbw HST.out.bel.size)))).mono ?_
        rintro e w5 ⟨rfl, hb5⟩
        have HST5 : Hid (DelSt base p l w g m q R w5) := Lib.hid (HST.out.below (bnext (balloc (Below.refl _ _) _) hb5) hbw)
        have HBX : Hid (w5.heap[wr.heap.size]? = some (.cells #[.string v.key, .bool v.must, .func (.func v.ef) #[] v.ec, .func (.func v.mf) #[] v.mc, .func (.func v.pf) #[] v.pc, .func (.func v.gf) #[] v.gc] 183 (0, 0))) := Lib.hid ((hb5.block _ (by simp)).trans (heap_alloc_new _ _))
        clear hb5 c0 c1 c2 c3 c4 c5 HC HST
        cases hpm : p m with
        | true =>
          have HST6 : Hid (DelSt base p l w g (m + 1) q R w5) := Lib.hid (by
            obtain ⟨a1, a2, a3, a4, a5, a6⟩ := HST5.out
            have e : keptV p l (m + 1) = keptV p l m := by rw [keptV, if_pos hpm]
            exact ⟨by rw [e]; exact a1, by omega, fun t ht => by rw [e]; exact a3 t ht, fun t h1 h2 => a4 t (by omega) h2, a5, a6⟩)
          clear hpm HST5 HBX
          go_wp2
          go_roundg (len l - (m + 1))
          case rel => exact ⟨m + 1, q, R, by omega, rfl, by go_num, HST6.out⟩
          case measure => omega
        | false =>
          have hqn : q < len l := by omega
          obtain ⟨d0, d1, d2, d3, d4, d5⟩ := HST5.out.row.at hqn
          have hfr := HST5.out.row.free
          have bx : ∀ o, w5.cell? ⟨wr.heap.size, o, none⟩ = _ := block_cell HBX.out
          have iq : (q : Int) < len l := by omega
          have HST6 : Hid (DelSt base p l w g (m + 1) (q + 1) (R.set q v) (setF w5 g q v)) := Lib.hid (by
            rw [← HV.out]; exact HST5.out.put hlt hpm hg)
          clear hpm HST5 HBX
          go_wp2_with fail
          clear d0 d1 d2 d3 d4 d5 hfr bx
          go_roundg (len l - (m + 1))
          case rel => exact ⟨m + 1, q + 1, R.set q v, by omega, by go_num, by go_num, HST6.out⟩
          case measure => omega
      · obtain rfl : m = len l := by omega
        have i1 : ¬ ((len l : Nat) : Int) < len l := by omega
        obtain ⟨w7, hcl, hfl, hb7, hc7⟩ := clear_row (c := cap - q) HST.out.row HST.out.lt 0
        have HFL : Hid (Flds w7 (some ⟨g, 0, none⟩) (keptV p l (len l))) := Lib.hid (fun i hi => ⟨g, 0, rfl, by
          rw [HST.out.cnt] at hi
          rw [Nat.zero_add, ← HST.out.low i hi]; exact hfl i hi⟩)
        have HB7 := Lib.hid (hb7 base w hg HST.out.bel)
        have HC7 := Lib.hid hc7
        have HCN := Lib.hid HST.out.cnt
        clear hfl hb7 hc7 HST
        go_wp2
        go_ret
        exact ⟨g, cap, by rw [HCN.out]; rfl, HFL.out, HB7.out, hg, HC7.out⟩
end Go.Proofs.YtpobhbdomldecaaGreatDoor
namespace Go.Proofs.YtpobhbdomldecaaGreatDoor
open Go.RowKit
set_option linter.unusedSimpArgs false
set_option linter.unusedVariables false
theorem spth_snoc {l : List FSpec} {v : FSpec} {t : Nat} (h : t < len l) : spth (l ++ [v]) t = spth l t := by
  have h' : t < l.length := h
  rw [spth_eq _ t (by simp; omega), spth_eq l t h', List.getElem_append_left h']
theorem spth_last (l : List FSpec) (v : FSpec) : spth (l ++ [v]) (len l) = v := by
  rw [len_eq, spth_eq _ l.length (by simp)]; simp
theorem kept_sems {B : Nat} {W0 : World} {l : List FVal} {fs : List FSpec} (h : FSems B W0 l fs) (hm : allMay fs = true) : ∀ m, m ≤ len l → len (keptF (fs.take m)) = len (keptV (fun i => (spth fs i).empty) l m) ∧ ∀ t, t < len (keptF (fs.take m)) → FSem B W0 (fth (keptV (fun i => (spth fs i).empty) l m) t) (spth (keptF (fs.take m)) t) ∧ (spth (keptF (fs.take m)) t).empty = false ∧ (spth (keptF (fs.take m)) t).may = true
  | 0, _ => ⟨by simp [keptF, keptV, len], fun t ht => by simp [keptF, len] at ht⟩
  | m + 1, hm1 => by
    obtain ⟨ih1, ih2⟩ := kept_sems h hm m (by omega)
    have hfl : m < fs.length := by have := h.1; rw [len_eq] at this; omega
    have e1 : fs.take (m + 1) = fs.take m ++ [spth fs m] := by rw [List.take_succ_eq_append_getElem hfl, spth_eq fs m hfl]
    have hmay : (spth fs m).may = true := by
      unfold allMay at hm
      rw [List.all_eq_true] at hm
      rw [spth_eq fs m hfl]; exact hm _ (List.getElem_mem _)
    cases he : (spth fs m).empty with
    | true =>
      have e2 : keptF (fs.take (m + 1)) = keptF (fs.take m) := by
        rw [e1]; unfold keptF; rw [List.filter_append, List.filter_cons_of_neg (by simp [he])]; simp
      have e3 : keptV (fun i => (spth fs i).empty) l (m + 1) = keptV (fun i => (spth fs i).empty) l m := by rw [keptV, if_pos he]
      rw [e2, e3]; exact ⟨ih1, ih2⟩
    | false =>
      have e2 : keptF (fs.take (m + 1)) = keptF (fs.take m) ++ [spth fs m] := by
        rw [e1]; unfold keptF; rw [List.filter_append, List.filter_cons_of_pos (by simp [he])]; simp
      have e3 : keptV (fun i => (spth fs i).empty) l (m + 1) = keptV (fun i => (spth fs i).empty) l m ++ [fth l m] := by rw [keptV, if_neg (by simp [he])]
      rw [e2, e3]
      have hl2 : len (keptF (fs.take m) ++ [spth fs m]) = len (keptF (fs.take m)) + 1 := by simp [len]
      refine ⟨by rw [hl2, ih1]; simp [len], fun t ht => ?_⟩
      rw [hl2] at ht
      by_cases et : t < len (keptF (fs.take m))
      · rw [fth_snoc (by rw [← ih1]; exact et), spth_snoc et]; exact ih2 t et
      · obtain rfl : t = len (keptF (fs.take m)) := by omega
        rw [spth_last]
        refine ⟨?_, he, hmay⟩
        rw [ih1, fth_last]
        exact h.2 m (by omega)
theorem catB_take {L : List ByteArray} {t : Nat} (h : t < L.length) : (catB (L.take t)).size + L[t].size ≤ (catB L).size := by
  have e : catB L = catB (L.take t) ++ (L[t] ++ catB (L.drop (t + 1))) := by
    conv => lhs; rw [← List.take_append_drop t L, List.drop_eq_getElem_cons h]
    rw [catB_app, catB]
  rw [e, ByteArray.size_append, ByteArray.size_append]; omega
theorem flds_keep {w w' : World} {g : Nat} {l : List FVal} (h : Flds w (some ⟨g, 0, none⟩) l) (hk : w'.heap[g]? = w.heap[g]?) : Flds w' (some ⟨g, 0, none⟩) l := fun i hi => by
  obtain ⟨b, off, e, c0, c1, c2, c3, c4, c5⟩ := h i hi
  cases e
  have e2 : ∀ o, w'.cell? ⟨g, o, none⟩ = w.cell? ⟨g, o, none⟩ := fun o => by unfold World.cell?; rw [hk]
  exact ⟨g, 0, rfl, (e2 _).trans c0, (e2 _).trans c1, (e2 _).trans c2, (e2 _).trans c3, (e2 _).trans c4, (e2 _).trans c5⟩
def LayOut (s' : ByteArray) (b base : Nat) (w : World) (e : Ending) (w' : World) : Prop := e = .returned (.tuple #[]) ∧ WrB w' b base s' ∧ WK base b w w'
set_option maxRecDepth 100000 in
set_option maxHeartbeats 4000000 in
theorem lay_any (B b base b1 off c : Nat) (W0 : World) (l : List FVal) (fs : List FSpec) (s : ByteArray) (w : World) (hl : Flds w (some ⟨b1, off, none⟩) l) (hn : len l ≤ 1000) (h0 : 0 < len l) (hS : FSems B W0 l fs) (hm : allMay fs = true) (hk : Keep8 B W0 w) (hb0 : Off8 W0 b)
    (ht : PTab B w) (hB : B ≤ base) (hW : WrB w b base s) (hs : s.size + (layP fs).size ≤ 60000000000000) :
    Calls Tryz.prog 149 #[.pointer (some ⟨b, 0, none⟩), .slice (some ⟨b1, off, none⟩) (len l) c] w (LayOut (s ++ layP fs) b base w) := by
  have HL := Lib.hid hl
  have HS := Lib.hid hS
  have HK := Lib.hid hk
  have hsz := hk.s1
  have HT := Lib.hid ht
  have HWR := Lib.hid hW
  have HBS : Hid (base ≤ w.heap.size) := Lib.hid (by have := hW.1; have := hW.lt; omega)
  have HKS := Lib.hid (kept_sems hS hm (len l) (Nat.le_refl _))
  have e0 : fs.take (len l) = fs := List.take_of_length_le (by have := hS.1; rw [len_eq] at this; omega)
  rw [e0] at HKS
  have eg := (says_lay hS hk).1
  clear hl hS hk ht hW e0
  go_enter Tryz.func149, Tryz.ntmps149
  go_wp2_with fail
  refine (clone_any b1 off c l w HL.out hn).mono ?_
  rintro e w1 ⟨v, rfl, hown, hb1⟩
  have HO := Lib.hid hown
  have HB1 := Lib.hid hb1
  clear hown hb1
  go_wp2_with fail
  refine (delf_any w.heap.size v l 199 #[] (fun i => (spth fs i).empty) w1 HO.out hn h0 HB1.out.size eg (fun i hi w' hb => ((says_lay HS.out ((HK.out.base HB1.out hsz).base hb hsz)).2 i hi w' (Below.refl _ _)))).mono ?_
  rintro e w2 ⟨g, cap, rfl, hfl, hb2, hg, cur, hcur⟩
  have HFL := Lib.hid hfl
  have HB2 : Hid (Below w.heap.size w w2) := Lib.hid (HB1.out.trans hb2)
  have HCUR := Lib.hid hcur
  clear hfl hb2 hcur HO HB1 HL
  obtain ⟨K, hK⟩ : ∃ K, len (keptV (fun i => (spth fs i).empty) l (len l)) = K := ⟨_, rfl⟩
  obtain ⟨kl, hkl⟩ : ∃ kl, keptV (fun i => (spth fs i).empty) l (len l) = kl := ⟨_, rfl⟩
  obtain ⟨ks, hks⟩ : ∃ ks, keptF fs = ks := ⟨_, rfl⟩
  have hK1000 : K ≤ 1000 := by rw [← hK]; exact Nat.le_trans (keptV_len _ _ _) hn
  have HLP : Hid (layP fs = mapP K ++ catB (ks.map fieldP)) := Lib.hid (by
    unfold layP; rw [hks]
    have := HKS.out.1
    rw [hks, hK, len_eq] at this
    rw [this])
  rw [hK]
  rw [hkl] at HFL hK HKS
  rw [hks] at HKS
  have HKK : Hid (len ks = K ∧ len kl = K) := Lib.hid ⟨by rw [HKS.out.1, hK], hK⟩
  clear hK hkl hks
  have HS2 : Hid (s.size + (mapP K).size + (catB (ks.map fieldP)).size ≤ 60000000000000) := Lib.hid (by rw [HLP.out, ByteArray.size_append] at hs; omega)
  have hs0 : s.size ≤ 60000000000000 := by omega
  have hbw : b < w.heap.size := HWR.out.lt
  have hgb : g ≠ b := by omega
  have n8 : Not8 (.cells cur 183 (0, 0)) := not8_cells (by decide)
  clear hs
  go_wp2_with fail
  refine (Map_w B b base K s w2 (HT.out.keep HB2.out (by have := HBS.out; omega)) hB (HWR.out.below HB2.out) (by omega) (by omega)).mono ?_
  rintro e w3 ⟨rfl, hw3, hk3⟩
  have HW3 : Hid (WrB w3 b base (s ++ mapP K ++ catB ((ks.map fieldP).take 0))) := Lib.hid (by
    have e : s ++ mapP K ++ catB ((ks.map fieldP).take 0) = s ++ mapP K := ba_ext (by simp [catB])
    rw [e]; exact hw3)
  have HK3 : Hid (WK base b w2 w3) := Lib.hid hk3
  clear hw3 hk3
  go_wp2
  go_loopg [15] K (fun gg i wr => ∃ m : Nat, gg + m = K ∧ i = .int .i64 m ∧ Hid (WrB wr b base (s ++ mapP K ++ catB ((ks.map fieldP).take m))) ∧ Hid (WK base b w2 wr))
  case atStart => exact ⟨0, rfl, rfl, HW3.out, HK3.out⟩
  case round =>
    clear HW3 HK3
    obtain ⟨m, hm2, rfl, HWW, HWK⟩ := hrel
    by_cases hlt : m < K
    · have i1 : (m : Int) < K := by omega
      obtain ⟨b', off', hbe, c0, c1, c2, c3, c4, c5⟩ := flds_keep HFL.out ((HWK.out.keep g _ HCUR.out hgb n8).trans HCUR.out.symm) m (by rw [HKK.out.2]; exact hlt)
      cases hbe
      rw [Nat.zero_add] at c0 c1 c2 c3 c4 c5
      obtain ⟨hsem, hemp, hmay⟩ := HKS.out.2 m (by rw [HKK.out.1]; exact hlt)
      have hsn : (ks.map fieldP).take (m + 1) = (ks.map fieldP).take m ++ [fieldP (spth ks m)] := by
        have hml : m < ks.length := by have := HKK.out.1; rw [len_eq] at this; omega
        rw [List.take_succ_eq_append_getElem (by simpa using hml), List.getElem_map, spth_eq ks m hml]
      have hct := catB_take (L := ks.map fieldP) (t := m) (by have := HKK.out.1; rw [len_eq] at this; simp; omega)
      have hfm : (ks.map fieldP)[m]'(by have := HKK.out.1; rw [len_eq] at this; simp; omega) = fieldP (spth ks m) := by
        rw [List.getElem_map, spth_eq ks m (by have := HKK.out.1; rw [len_eq] at this; omega)]
      rw [hfm] at hct
      obtain ⟨v, hv⟩ : ∃ v, fth kl m = v := ⟨_, rfl⟩
      obtain ⟨f, hf⟩ : ∃ f, spth ks m = f := ⟨_, rfl⟩
      rw [hv] at c0 c1 c2 c3 c4 c5 hsem
      rw [hf] at hsem hemp hmay hsn hct
      have hkey := hsem.key
      have hksz := hsem.ksz
      have ep := hsem.ep
      have hput := hsem.put hmay hemp
      obtain ⟨s1, hs1⟩ : ∃ s1, s ++ mapP K ++ catB ((ks.map fieldP).take m) = s1 := ⟨_, rfl⟩
      rw [hs1] at HWW
      have hfsz : (fieldP f).size = (strP f.key).size + f.bytes.size := by unfold fieldP; rw [ByteArray.size_append]
      have hs1s : s1.size + (strP f.key).size + f.bytes.size ≤ 60000000000000 := by
        rw [← hs1, ByteArray.size_append, ByteArray.size_append]
        have := HS2.out
        omega
      have HSN : Hid (s ++ mapP K ++ catB ((ks.map fieldP).take (m + 1)) = s1 ++ strP f.key ++ f.bytes) := Lib.hid (by
        rw [hsn, catB_snoc, ← hs1]; unfold fieldP; simp only [ByteArray.append_assoc])
      have HPUT := Lib.hid hput
      have hbw2 : base ≤ w2.heap.size := by have := HBS.out; have := HB2.out.size; omega
      have HBW2 := Lib.hid hbw2
      have HK8 : Hid (Keep8 B W0 wr) := Lib.hid ((HK.out.base HB2.out hsz).wk HWK.out hb0 hB)
      have HTR : Hid (PTab B wr) := Lib.hid ((HT.out.keep HB2.out (by have := HBS.out; omega)).keep HWK.out.bel hB)
      rw [← hkey] at HSN hs1s hksz
      have HKEY := Lib.hid hkey
      clear hsem hemp hmay hsn hct hfm hs1 hfsz hput hv hf hbw2 hkey
      go_wp2_with fail
      refine (Str_w B b base v.key s1 _ (HTR.out.keep (balloc (Below.refl _ _) _) (by have := HTR.out.size; omega)) hB (HWW.out.below (balloc (Below.refl _ _) _)) hksz (by omega)).mono ?_
      rintro e w4 ⟨rfl, hw4, hk4⟩
      have HW4 := Lib.hid hw4
      have hbx : w4.heap[wr.heap.size]? = some (.cells #[.string v.key, .bool v.must, .func (.func v.ef) #[] v.ec, .func (.func v.mf) #[] v.mc, .func (.func v.pf) #[] v.pc, .func (.func v.gf) #[] v.gc] 183 (0, 0)) :=
        hk4.keep _ _ (heap_alloc_new _ _) (by have := HWW.out.lt; omega) (not8_cells (by decide))
      have HKA : Hid (WK base b wr w4) := Lib.hid ((WK.of_below (balloc (Below.refl _ _) _) (by have := HWK.out.bel.size; have := HBW2.out; omega)).trans hk4)
      have bx4 := block_cell hbx 4
      simp only [List.getElem?_toArray, List.getElem?_cons_zero, List.getElem?_cons_succ] at bx4
      have lbx := lt_of_block hbx
      clear hw4 hk4 hbx c0 c1 c2 c3 c4 c5
      go_wp2_with fail
      refine (HPUT.out w4 b base _ (HK8.out.wk HKA.out hb0 hB) hb0 (HTR.out.keep HKA.out.bel hB) hB HW4.out (by rw [ByteArray.size_append]; omega)).mono ?_
      rintro e w5 ⟨rfl, hw5, hk5⟩
      have HW5 : Hid (WrB w5 b base (s ++ mapP K ++ catB ((ks.map fieldP).take (m + 1)))) := Lib.hid (by rw [HSN.out]; exact hw5)
      have HK5 : Hid (WK base b w2 w5) := Lib.hid ((HWK.out.trans HKA.out).trans hk5)
      clear hw5 hk5 HW4 HKA HWW HWK bx4 lbx
      go_wp2
      go_roundg (K - (m + 1))
      case rel => exact ⟨m + 1, by omega, by go_num, HW5.out, HK5.out⟩
      case measure => omega
    · obtain rfl : m = K := by omega
      have i1 : ¬ (m : Int) < m := by omega
      go_wp2
      go_end0
      refine ⟨rfl, ?_, (WK.of_below HB2.out HBS.out).trans HWK.out⟩
      have h := HWW.out
      rw [List.take_of_length_le (by have := HKK.out.1; rw [len_eq] at this; simp; omega), ByteArray.append_assoc, ← HLP.out] at h
      exact h
end Go.Proofs.YtpobhbdomldecaaGreatDoor
namespace Go.Proofs.YtpobhbdomldecaaGreatDoor
open Go.RowKit
set_option linter.unusedSimpArgs false
set_option linter.unusedVariables false
def LaidIs (fs : List FSpec) (w : World) (e : Ending) (w' : World) : Prop :=
  e = .returned (if allMay fs then .tuple #[.string (layP fs), .int .i64 0] else .tuple #[.string ⟨#[]⟩, .int .i64 2]) ∧ Below w.heap.size w w'
set_option maxRecDepth 100000 in
theorem wlaid2_any (B b1 off c : Nat) (W0 : World) (l : List FVal) (fs : List FSpec) (w : World) (hl : Flds w (some ⟨b1, off, none⟩) l) (hn : len l ≤ 1000) (h0 : 0 < len l) (hS : FSems B W0 l fs) (hk : Keep8 B W0 w) (ht : PTab B w) (hs : allMay fs = true → (layP fs).size ≤ 60000000000000) :
    Calls Tryz.prog 88 #[.slice (some ⟨b1, off, none⟩) (len l) c] w (LaidIs fs w) := by
  have HL := Lib.hid hl
  have HS := Lib.hid hS
  have HK := Lib.hid hk
  have hsz := hk.s1
  have HSS := Lib.hid hs
  clear hs
  have HT := Lib.hid ht
  clear hl hS hk ht
  go_enter Tryz.func88, Tryz.ntmps88
  go_wp2_with fail
  refine (all_any B W0 (some ⟨b1, off, none⟩) c l fs w HL.out hn HS.out HK.out).mono ?_
  rintro e w1 ⟨rfl, hb1⟩
  have HB1 := Lib.hid hb1
  clear hb1
  cases hm : allMay fs with
  | false =>
    have HM := Lib.hid hm
    clear hm
    go_wp2
    go_ret2
    exact ⟨by rw [HM.out]; rfl, HB1.out⟩
  | true =>
    have HM := Lib.hid hm
    have HT1 := Lib.hid (HT.out.keep HB1.out HT.out.size)
    have hs := HSS.out hm
    clear hm
    go_wp2_with fail
    refine (pnew_any w1).mono ?_
    rintro e w2 ⟨rfl, hw2, hb2⟩
    have HW2 := Lib.hid hw2
    have HB2 := Lib.hid hb2
    clear hw2 hb2
    go_wp2_with fail
    refine (lay_any B w1.heap.size w1.heap.size b1 off c W0 l fs ByteArray.empty w2 ((HL.out.below HB1.out).below HB2.out) hn h0 HS.out HM.out ((HK.out.next HB1.out).next HB2.out) (Off8.of_le (by have := HB1.out.size; omega)) (HT1.out.keep HB2.out HT1.out.size) HT1.out.size HW2.out (by show 0 + (layP fs).size ≤ 60000000000000; omega)).mono ?_
    rintro e w3 ⟨rfl, hw3, hk3⟩
    have HW3 : Hid (WrB w3 w1.heap.size w1.heap.size (layP fs)) := Lib.hid (by
      have e : ByteArray.empty ++ layP fs = layP fs := ba_ext (by simp)
      rw [e] at hw3; exact hw3)
    have HB3 : Hid (Below w.heap.size w w3) := Lib.hid ((bnext HB1.out HB2.out).trans (hk3.bel.mono HB1.out.size))
    clear hw3 hk3
    go_wp2_with fail
    refine (ptext_any _ _ _ w3 HW3.out).mono ?_
    rintro e w4 ⟨rfl, rfl⟩
    go_wp2
    go_ret2
    exact ⟨by rw [HM.out]; rfl, HB3.out⟩
structure CellAt (B : Nat) (w : World) (b o : Nat) (x : Value) : Prop where
  cell : w.cell? ⟨b, o, none⟩ = some x
  ex : b < B ∨ ∃ y, w.heap[b]? = some y ∧ Not8 y
theorem CellAt.lt {B : Nat} {w : World} {b o : Nat} {x : Value} (h : CellAt B w b o x) : b < w.heap.size := lt_of_cell h.cell
theorem CellAt.keep {B : Nat} {w w' : World} {b o : Nat} {x : Value} (h : CellAt B w b o x) (hk : Keep8 B w w') : CellAt B w' b o x := by
  have e : w'.heap[b]? = w.heap[b]? := by
    rcases h.ex with h1 | ⟨y, h1, h2⟩
    · exact hk.low b h1
    · rw [h1]; exact hk.keep b y h1 h2
  refine ⟨?_, ?_⟩
  · have : w'.cell? ⟨b, o, none⟩ = w.cell? ⟨b, o, none⟩ := by unfold World.cell?; rw [e]
    rw [this]; exact h.cell
  · rw [e]; exact h.ex
theorem CellAt.below {B : Nat} {w w' : World} {b o : Nat} {x : Value} (h : CellAt B w b o x) (hb : Below w.heap.size w w') : CellAt B w' b o x := by
  have e : w'.heap[b]? = w.heap[b]? := hb.block b h.lt
  refine ⟨?_, by rw [e]; exact h.ex⟩
  have : w'.cell? ⟨b, o, none⟩ = w.cell? ⟨b, o, none⟩ := by unfold World.cell?; rw [e]
  rw [this]; exact h.cell
theorem yes_any (w : World) : Calls Tryz.prog 203 #[] w fun e w' => e = .returned (.bool true) ∧ Below w.heap.size w w' := by
  go_enter Tryz.func203, Tryz.ntmps203
  go_wp2
  go_ret
  exact ⟨rfl, Below.refl _ _⟩
theorem num1_any (B bx pb po : Nat) (n : Int) (w : World) (h1 : CellAt B w bx 0 (.pointer (some ⟨pb, po, none⟩))) (h2 : CellAt B w pb po (.int .u64 n)) : Calls Tryz.prog 202 #[.pointer (some ⟨bx, 0, none⟩)] w fun e w' => e = .returned (.bool (n == 0)) ∧ Below w.heap.size w w' := by
  have c1 := h1.cell
  have c2 := h2.cell
  clear h1 h2
  go_enter Tryz.func202, Tryz.ntmps202
  go_wp2
  go_ret
  exact ⟨rfl, Below.refl _ _⟩
theorem num2_any (B b base bx pb po : Nat) (n : Int) (s : ByteArray) (w : World) (h1 : CellAt B w bx 0 (.pointer (some ⟨pb, po, none⟩))) (h2 : CellAt B w pb po (.int .u64 n)) (h0 : 0 ≤ n) (hn : n ≤ 18446744073709551615) (ht : PTab B w) (hB : B ≤ base) (hW : WrB w b base s) (hs : s.size + (numP n).size ≤ 60000000000000) :
    Calls Tryz.prog 204 #[.pointer (some ⟨b, 0, none⟩), .pointer (some ⟨bx, 0, none⟩)] w fun e w' => e = .returned (.tuple #[]) ∧ WrB w' b base (s ++ numP n) ∧ WK base b w w' := by
  have c1 := h1.cell
  have c2 := h2.cell
  have H := Lib.hid (Num_w B b base n s w ht hB hW h0 hn (by omega))
  clear h1 h2 ht hW
  go_enter Tryz.func204, Tryz.ntmps204
  go_wp2_with fail
  refine H.out.mono ?_
  rintro e w' ⟨rfl, h3, h4⟩
  have H3 := Lib.hid h3
  have H4 := Lib.hid h4
  clear h3 h4
  go_wp2
  go_end0
  exact ⟨rfl, H3.out, H4.out⟩
theorem cellAt_new {B : Nat} {w : World} {n : Nat} {cs : Array Value} {T : TypeId} {o : Nat} {x : Value} (h : w.heap[n]? = some (.cells cs T (0, 0))) (hT : T ≠ 5) (hx : cs[o]? = some x) : CellAt B w n o x := ⟨by rw [block_cell h]; exact hx, .inr ⟨_, h, not8_cells hT⟩⟩
theorem digest1_any (w : World) : Calls Tryz.prog 209 #[] w fun e w' => e = .returned (.bool false) ∧ Below w.heap.size w w' := by
  go_enter Tryz.func209, Tryz.ntmps209
  go_wp2
  go_ret
  exact ⟨rfl, Below.refl _ _⟩
theorem digest2_any (B bx pb po : Nat) (x : ByteArray) (w : World) (h1 : CellAt B w bx 0 (.pointer (some ⟨pb, po, none⟩))) (h2 : CellAt B w pb po (.string x)) (hx : x.size ≤ 9223372036854775807) : Calls Tryz.prog 210 #[.pointer (some ⟨bx, 0, none⟩)] w fun e w' => e = .returned (.bool (decide (x.size = 32))) ∧ Below w.heap.size w w' := by
  have c1 := h1.cell
  have c2 := h2.cell
  have HE : Hid (((x.size : Int) == 32) = decide (x.size = 32)) := Lib.hid (by rw [Bool.eq_iff_iff]; simp; omega)
  clear h1 h2
  go_enter Tryz.func210, Tryz.ntmps210
  go_wp2
  go_ret
  exact ⟨ret_bool HE.out, Below.refl _ _⟩
theorem digest3_any (B b base bx pb po : Nat) (x s : ByteArray) (w : World) (h1 : CellAt B w bx 0 (.pointer (some ⟨pb, po, none⟩))) (h2 : CellAt B w pb po (.string x)) (hx : x.size = 32) (ht : PTab B w) (hB : B ≤ base) (hW : WrB w b base s) (hs : s.size + (binP x).size ≤ 60000000000000) :
    Calls Tryz.prog 211 #[.pointer (some ⟨b, 0, none⟩), .pointer (some ⟨bx, 0, none⟩)] w fun e w' => e = .returned (.tuple #[]) ∧ WrB w' b base (s ++ binP x) ∧ WK base b w w' := by
  have c1 := h1.cell
  have c2 := h2.cell
  have H := Lib.hid (Bin_w B b base x s w ht hB hW (by omega) (by omega))
  clear h1 h2 ht hW hx
  go_enter Tryz.func211, Tryz.ntmps211
  go_wp2_with fail
  refine H.out.mono ?_
  rintro e w' ⟨rfl, h3, h4⟩
  have H3 := Lib.hid h3
  have H4 := Lib.hid h4
  clear h3 h4
  go_wp2
  go_end0
  exact ⟨rfl, H3.out, H4.out⟩
set_option maxRecDepth 100000 in
theorem fnum_any (B : Nat) (key : ByteArray) (pb po : Nat) (n : Int) (w : World) (hk : key.size < 65536) (hBw : B ≤ w.heap.size) (hc : CellAt B w pb po (.int .u64 n)) (h0 : 0 ≤ n) (h1 : n ≤ 18446744073709551615) :
    Calls Tryz.prog 151 #[.string key, .pointer (some ⟨pb, po, none⟩)] w fun e w' => ∃ v : FVal, e = .returned v.val ∧ FSem B w' v ⟨key, false, n == 0, true, numP n⟩ ∧ Below w.heap.size w w' := by
  have HC := Lib.hid hc
  clear hc
  go_enter Tryz.func151, Tryz.ntmps151
  go_wp2
  obtain ⟨bx, hbx⟩ : ∃ bx, w.heap.size = bx := ⟨_, rfl⟩
  obtain ⟨V, hV⟩ : ∃ V, ((w.alloc (.cells #[.pointer (some ⟨pb, po, none⟩)] 185)).alloc (.cells #[.string key, .bool false, .func (.func 202) #[] #[.pointer (some ⟨w.heap.size, 0, none⟩)], .func (.func 203) #[] #[], .func (.func 204) #[] #[.pointer (some ⟨w.heap.size, 0, none⟩)], .func (.func 206) #[] #[.pointer (some ⟨w.heap.size, 0, none⟩)]] 183)) = V := ⟨_, rfl⟩
  have VB : Below w.heap.size w V := by rw [← hV]; (repeat (first | exact Below.refl _ _ | assumption | (refine bdrew ?_) | (refine bdrewN ?_ _) | (refine balloc ?_ _) | (refine bset ?_ (by first | omega | (simp; done) | (simp; omega)) _) | (refine bnext ?_ (by assumption))))
  have V0 : V.heap[bx]? = some (.cells #[.pointer (some ⟨pb, po, none⟩)] 185 (0, 0)) := by rw [← hV, ← hbx]; exact block_alloc (heap_alloc_new _ _) _
  have V1 : V.heap[bx + 1]? = some (.cells #[.string key, .bool false, .func (.func 202) #[] #[.pointer (some ⟨bx, 0, none⟩)], .func (.func 203) #[] #[], .func (.func 204) #[] #[.pointer (some ⟨bx, 0, none⟩)], .func (.func 206) #[] #[.pointer (some ⟨bx, 0, none⟩)]] 183 (0, 0)) := by rw [← hV, ← hbx]; exact alloc_new_at _ (by simp)
  have d : ∀ o, V.cell? ⟨bx + 1, o, none⟩ = _ := block_cell V1
  rw [hV]
  simp only [hbx]
  clear hV
  have C0 : CellAt B V bx 0 (.pointer (some ⟨pb, po, none⟩)) := cellAt_new V0 (by decide) rfl
  have C1 : CellAt B V pb po (.int .u64 n) := HC.out.below VB
  refine bodyPost_ret (v := .agg #[.string key, .bool false, .func (.func 202) #[] #[.pointer (some ⟨bx, 0, none⟩)], .func (.func 203) #[] #[], .func (.func 204) #[] #[.pointer (some ⟨bx, 0, none⟩)], .func (.func 206) #[] #[.pointer (some ⟨bx, 0, none⟩)]]) ?_ rfl ⟨⟨key, false, 202, #[.pointer (some ⟨bx, 0, none⟩)], 203, #[], 204, #[.pointer (some ⟨bx, 0, none⟩)], 206, #[.pointer (some ⟨bx, 0, none⟩)]⟩, rfl, ?_, by rw [← hbx]; exact VB⟩
  · simp [results, Tryz.results151, go_sem, d]
  · refine ⟨rfl, rfl, hk, enters_of Tryz.func202 (by kernel_rfl) rfl, enters_of Tryz.func203 (by kernel_rfl) rfl, enters_of Tryz.func204 (by kernel_rfl) rfl, fun w' hw => num1_any B bx pb po n w' (C0.keep hw) (C1.keep hw), fun w' hw => yes_any w', fun hm he w' b base s hw hb ht hB hW hs => num2_any B b base bx pb po n s w' (C0.keep hw) (C1.keep hw) h0 h1 ht hB hW hs⟩
set_option maxRecDepth 100000 in
theorem fdigest_any (B : Nat) (key : ByteArray) (pb po : Nat) (x : ByteArray) (w : World) (hk : key.size < 65536) (hBw : B ≤ w.heap.size) (hc : CellAt B w pb po (.string x)) (hx : x.size ≤ 9223372036854775807) :
    Calls Tryz.prog 152 #[.string key, .pointer (some ⟨pb, po, none⟩)] w fun e w' => ∃ v : FVal, e = .returned v.val ∧ FSem B w' v ⟨key, true, false, decide (x.size = 32), binP x⟩ ∧ Below w.heap.size w w' := by
  have HC := Lib.hid hc
  clear hc
  go_enter Tryz.func152, Tryz.ntmps152
  go_wp2
  obtain ⟨bx, hbx⟩ : ∃ bx, w.heap.size = bx := ⟨_, rfl⟩
  obtain ⟨V, hV⟩ : ∃ V, ((w.alloc (.cells #[.pointer (some ⟨pb, po, none⟩)] 187)).alloc (.cells #[.string key, .bool true, .func (.func 209) #[] #[], .func (.func 210) #[] #[.pointer (some ⟨w.heap.size, 0, none⟩)], .func (.func 211) #[] #[.pointer (some ⟨w.heap.size, 0, none⟩)], .func (.func 213) #[] #[.pointer (some ⟨w.heap.size, 0, none⟩)]] 183)) = V := ⟨_, rfl⟩
  have VB : Below w.heap.size w V := by rw [← hV]; (repeat (first | exact Below.refl _ _ | assumption | (refine bdrew ?_) | (refine bdrewN ?_ _) | (refine balloc ?_ _) | (refine bset ?_ (by first | omega | (simp; done) | (simp; omega)) _) | (refine bnext ?_ (by assumption))))
  have V0 : V.heap[bx]? = some (.cells #[.pointer (some ⟨pb, po, none⟩)] 187 (0, 0)) := by rw [← hV, ← hbx]; exact block_alloc (heap_alloc_new _ _) _
  have V1 : V.heap[bx + 1]? = some (.cells #[.string key, .bool true, .func (.func 209) #[] #[], .func (.func 210) #[] #[.pointer (some ⟨bx, 0, none⟩)], .func (.func 211) #[] #[.pointer (some ⟨bx, 0, none⟩)], .func (.func 213) #[] #[.pointer (some ⟨bx, 0, none⟩)]] 183 (0, 0)) := by rw [← hV, ← hbx]; exact alloc_new_at _ (by simp)
  have d : ∀ o, V.cell? ⟨bx + 1, o, none⟩ = _ := block_cell V1
  rw [hV]
  simp only [hbx]
  clear hV
  have C0 : CellAt B V bx 0 (.pointer (some ⟨pb, po, none⟩)) := cellAt_new V0 (by decide) rfl
  have C1 : CellAt B V pb po (.string x) := HC.out.below VB
  refine bodyPost_ret (v := .agg #[.string key, .bool true, .func (.func 209) #[] #[], .func (.func 210) #[] #[.pointer (some ⟨bx, 0, none⟩)], .func (.func 211) #[] #[.pointer (some ⟨bx, 0, none⟩)], .func (.func 213) #[] #[.pointer (some ⟨bx, 0, none⟩)]]) ?_ rfl ⟨⟨key, true, 209, #[], 210, #[.pointer (some ⟨bx, 0, none⟩)], 211, #[.pointer (some ⟨bx, 0, none⟩)], 213, #[.pointer (some ⟨bx, 0, none⟩)]⟩, rfl, ?_, by rw [← hbx]; exact VB⟩
  · simp [results, Tryz.results152, go_sem, d]
  · refine ⟨rfl, rfl, hk, enters_of Tryz.func209 (by kernel_rfl) rfl, enters_of Tryz.func210 (by kernel_rfl) rfl, enters_of Tryz.func211 (by kernel_rfl) rfl, fun w' hw => digest1_any w', fun w' hw => digest2_any B bx pb po x w' (C0.keep hw) (C1.keep hw) hx, fun hm he w' b base s hw hb ht hB hW hs => digest3_any B b base bx pb po x s w' (C0.keep hw) (C1.keep hw) (by simpa using hm) ht hB hW hs⟩
end Go.Proofs.YtpobhbdomldecaaGreatDoor
namespace Go.Proofs.YtpobhbdomldecaaGreatDoor
open Go.RowKit
set_option linter.unusedSimpArgs false
set_option linter.unusedVariables false
def Strs (B : Nat) (w : World) (a : Option Addr) (l : List ByteArray) : Prop := ∀ i, i < len l → ∃ b off, a = some ⟨b, off, none⟩ ∧ CellAt B w b (off + i) (.string (sth l i))
theorem Strs.keep {B : Nat} {w w' : World} {a : Option Addr} {l : List ByteArray} (h : Strs B w a l) (hk : Keep8 B w w') : Strs B w' a l := fun i hi => by
  obtain ⟨b, off, e, hc⟩ := h i hi; exact ⟨b, off, e, hc.keep hk⟩
theorem Strs.below {B : Nat} {w w' : World} {a : Option Addr} {l : List ByteArray} (h : Strs B w a l) (hk : Below w.heap.size w w') : Strs B w' a l := fun i hi => by
  obtain ⟨b, off, e, hc⟩ := h i hi; exact ⟨b, off, e, hc.below hk⟩
end Go.Proofs.YtpobhbdomldecaaGreatDoor
namespace Go.Proofs.YtpobhbdomldecaaGreatDoor
open Go.RowKit
set_option linter.unusedSimpArgs false
set_option linter.unusedVariables false
abbrev BPs := List (ByteArray × ByteArray)
def catK (ps : BPs) : ByteArray := catB ((rkept ps).map fun p => strP p.1 ++ p.2)
def LyB (w : World) (b : Nat) (ps : BPs) : Prop := w.heap[b]? = some (.cells #[.int .u64 ((rkept ps).length : Nat), .string (catK ps)] 161 (0, 0))
theorem LyB.below {w w' : World} {b : Nat} {ps : BPs} (h : LyB w b ps) (hb : Below w.heap.size w w') : LyB w' b ps := by
  unfold LyB; rw [hb.block b (lt_of_block h)]; exact h
end Go.Proofs.YtpobhbdomldecaaGreatDoor
namespace Go.Proofs.YtpobhbdomldecaaGreatDoor
open Go.RowKit
set_option linter.unusedSimpArgs false
set_option linter.unusedVariables false
theorem laidP_len (sort : Nat) (n : Int) (t : ByteArray) : (laidP sort n t).size ≤ 9 + t.size := by
  unfold laidP
  have := headP_len sort n
  rw [ByteArray.size_append, baL_size]
  split
  · omega
  · show _ + 0 ≤ _; omega
end Go.Proofs.YtpobhbdomldecaaGreatDoor
namespace Go.Proofs.YtpobhbdomldecaaGreatDoor
open Go.RowKit
set_option linter.unusedSimpArgs false
set_option linter.unusedVariables false
structure FRow (w : World) (g : Nat) (l : List FVal) : Prop where
  flds : Flds w (some ⟨g, 0, none⟩) l
  ex : ∃ cur, w.heap[g]? = some (.cells cur 183 (0, 0))
theorem FRow.keep {B : Nat} {w w' : World} {g : Nat} {l : List FVal} (h : FRow w g l) (hk : Keep8 B w w') : FRow w' g l := by
  obtain ⟨h1, cur, h2⟩ := h
  have h3 := hk.keep g _ h2 (not8_cells (by decide))
  exact ⟨flds_keep h1 (h3.trans h2.symm), cur, h3⟩
theorem FRow.below {w w' : World} {g : Nat} {l : List FVal} (h : FRow w g l) (hk : Below w.heap.size w w') : FRow w' g l := by
  obtain ⟨h1, cur, h2⟩ := h
  have h3 := hk.block g (lt_of_block h2)
  exact ⟨flds_keep h1 h3, cur, h3.trans h2⟩
theorem FRow.lt {w : World} {g : Nat} {l : List FVal} (h : FRow w g l) : g < w.heap.size := by
  obtain ⟨h1, cur, h2⟩ := h; exact lt_of_block h2
end Go.Proofs.YtpobhbdomldecaaGreatDoor
namespace Go.Proofs.YtpobhbdomldecaaGreatDoor
open Go.RowKit
set_option linter.unusedSimpArgs false
set_option linter.unusedVariables false
theorem wp_of_callP {P : Program} {o : Oper} {a : Act} {w : World} {f : FuncId} {args : Array Value} {R : Value → World → Prop} {K : Act → World → Prop} {Q : Exit → Act → World → Prop} (h : (execOp a.eval o).run P w = .ok (.enter f args) w)
    (hc : Calls P f args w (fun e w' => ∃ v, e = .returned v ∧ R v w')) (hK : ∀ v w', R v w' → K (a.put o.dst v) w') : o.wp P a w K Q := by
  unfold Oper.wp; rw [h]
  exact hc.mono fun e w' ⟨v, he, hR⟩ => by subst he; exact hK v w' hR
def FIn (B : Nat) (w : World) (v : FVal) (f : FSpec) : Prop := B ≤ w.heap.size ∧ FSem B w v f
theorem FIn.below {B : Nat} {w w' : World} {v : FVal} {f : FSpec} (h : FIn B w v f) (hb : Below w.heap.size w w') : FIn B w' v f := ⟨Nat.le_trans h.1 hb.size, h.2.later (Keep8.of_below hb h.1)⟩
def MadeF (B : Nat) (f : FSpec) (w : World) (e : Ending) (w' : World) : Prop := ∃ u, e = .returned u ∧ ∃ v : FVal, u = v.val ∧ FIn B w' v f ∧ Below w.heap.size w w'
theorem madeF {B : Nat} {f : FSpec} {w w' : World} {e : Ending} (hB : B ≤ w.heap.size) (h : ∃ v : FVal, e = .returned v.val ∧ FSem B w' v f ∧ Below w.heap.size w w') : MadeF B f w e w' := by
  obtain ⟨v, he, hs, hb⟩ := h
  exact ⟨v.val, he, v, rfl, ⟨Nat.le_trans hB hb.size, hs⟩, hb⟩
structure SigAt (B : Nat) (w : World) (b o : Nat) (idx : Int) (wots path : List ByteArray) : Prop where
  c0 : CellAt B w b o (.int .u64 idx)
  c1 : ∃ a c, CellAt B w b (o + 1) (.slice a (len wots) c) ∧ Strs B w a wots
  c2 : ∃ a c, CellAt B w b (o + 2) (.slice a (len path) c) ∧ Strs B w a path
theorem SigAt.below {B : Nat} {w w' : World} {b o : Nat} {idx : Int} {wots path : List ByteArray} (h : SigAt B w b o idx wots path) (hb : Below w.heap.size w w') : SigAt B w' b o idx wots path := by
  obtain ⟨h0, ⟨a1, k1, h1, s1⟩, ⟨a2, k2, h2, s2⟩⟩ := h
  exact ⟨h0.below hb, ⟨a1, k1, h1.below hb, s1.below hb⟩, ⟨a2, k2, h2.below hb, s2.below hb⟩⟩
def RowOf (B : Nat) (specs : List FSpec) (w : World) (e : Ending) (w' : World) : Prop :=
  ∃ g c, ∃ l : List FVal, e = .returned (.slice (some ⟨g, 0, none⟩) (len l) c) ∧ FRow w' g l ∧ FSems B w' l specs ∧ Below w.heap.size w w'
end Go.Proofs.YtpobhbdomldecaaGreatDoor
namespace Go.Proofs.YtpobhbdomldecaaGreatDoor
open Go.RowKit
set_option linter.unusedSimpArgs false
set_option linter.unusedVariables false
def RowIn (B : Nat) (specs : List FSpec) (u : Value) (w : World) : Prop := ∃ g c, ∃ l : List FVal, u = .slice (some ⟨g, 0, none⟩) (len l) c ∧ FRow w g l ∧ B ≤ w.heap.size ∧ FSems B w l specs
theorem RowIn.below {B : Nat} {specs : List FSpec} {u : Value} {w w' : World} (h : RowIn B specs u w) (hb : Below w.heap.size w w') : RowIn B specs u w' := by
  obtain ⟨g, c, l, hu, hF, hB, hS⟩ := h
  exact ⟨g, c, l, hu, hF.below hb, Nat.le_trans hB hb.size, hS.later (Keep8.of_below hb hB)⟩
structure SlotAt (B : Nat) (w : World) (b o : Nat) (L : Int) (q : Bool) (idx : Int) (wots path : List ByteArray) : Prop where
  c0 : CellAt B w b o (.int .u64 L)
  c1 : CellAt B w b (o + 1) (.bool q)
  c2 : SigAt B w b (o + 2) idx wots path
theorem SlotAt.below {B : Nat} {w w' : World} {b o : Nat} {L : Int} {q : Bool} {idx : Int} {wots path : List ByteArray} (h : SlotAt B w b o L q idx wots path) (hb : Below w.heap.size w w') : SlotAt B w' b o L q idx wots path := ⟨h.c0.below hb, h.c1.below hb, h.c2.below hb⟩
structure PartAt (B : Nat) (w : World) (b o : Nat) (root : ByteArray) (weight first life keys : Int) : Prop where
  c0 : CellAt B w b o (.string root)
  c1 : CellAt B w b (o + 1) (.int .u64 weight)
  c2 : CellAt B w b (o + 2) (.int .u64 first)
  c3 : CellAt B w b (o + 3) (.int .u64 life)
  c4 : CellAt B w b (o + 4) (.int .u64 keys)
theorem PartAt.below {B : Nat} {w w' : World} {b o : Nat} {root : ByteArray} {weight first life keys : Int} (h : PartAt B w b o root weight first life keys) (hb : Below w.heap.size w w') : PartAt B w' b o root weight first life keys := ⟨h.c0.below hb, h.c1.below hb, h.c2.below hb, h.c3.below hb, h.c4.below hb⟩
def U64i (x : Int) : Prop := 0 ≤ x ∧ x ≤ 18446744073709551615
end Go.Proofs.YtpobhbdomldecaaGreatDoor
namespace Go.Proofs.YtpobhbdomldecaaGreatDoor
open Go.RowKit
set_option linter.unusedSimpArgs false
set_option linter.unusedVariables false
theorem binP_len (s : ByteArray) : (binP s).size ≤ 9 + s.size := laidP_len 1 _ _
end Go.Proofs.YtpobhbdomldecaaGreatDoor
namespace Go.Proofs.YtpobhbdomldecaaGreatDoor
set_option linter.unusedSimpArgs false
set_option linter.unusedVariables false
open Go.RowKit Go.ChangeMaps
theorem ba_beq (a b : ByteArray) : (a == b) = decide (a = b) := by
  show ByteArray.instBEq.beq a b = _
  obtain ⟨x⟩ := a
  obtain ⟨y⟩ := b
  have h : ByteArray.instBEq.beq (⟨x⟩ : ByteArray) ⟨y⟩ = (x == y) := rfl
  rw [h]
  by_cases e : x = y
  · subst e; simp
  · have : (x == y) = false := by simpa using e
    rw [this]; symm; rw [decide_eq_false_iff_not]; intro h2; cases h2; exact e rfl
instance : LawfulBEq ByteArray where
  rfl := by intro a; rw [ba_beq]; exact decide_eq_true rfl
  eq_of_beq := by intro a b h; rw [ba_beq] at h; exact of_decide_eq_true h
def smGet (l : List (ByteArray × Value)) (k : ByteArray) : Option Value := (l.find? (fun p => p.1 == k)).map (·.2)
def smPut : List (ByteArray × Value) → ByteArray → Value → List (ByteArray × Value)
  | [], k, v => [(k, v)]
  | p :: r, k, v => if p.1 = k then (k, v) :: r else p :: smPut r k v
section
open Go.MapKept
variable {P : Program} {K E t : TypeId} {w : World} {b : Nat} {l : List (ByteArray × Value)}
section
variable {ops : Array Oper} {rest : List Oper} {o : Oper} {a : Act} {Q : Exit → Act → World → Prop}
end
end
end Go.Proofs.YtpobhbdomldecaaGreatDoor
