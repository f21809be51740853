/- Parts of the proof, one behind the other. -/
import Derived.Test.YtpobhbdomldecaaGreatDoorPlsP4
import Derived.Deep.QuietTactic
import Derived.BigQuiet
import Derived.StillTailTactics
import Derived.Defers
import Derived.Recover
import Derived.Maps.AppendAt
import Derived.ArgAppend
import Derived.Laws.AppendOwnNone
import Derived.ProofKit
import Derived.OpenShut
import Derived.ShutString
import Derived.ChangeOld
import Derived.Deep.Slices
import Derived.Deep.Fields
import Derived.LaidMore
import Derived.LaidHandle
import Derived.Stop.Joined
import Derived.ChangeVars
import Derived.JoinedOf
import Derived.RowKitTokens
import Derived.ChangeMaps5
import Derived.Test.YtpobhbdomldecaaGreatDoorCards
import Derived.Test.YtpobhbdomldecaaGreatDoorTie
import Derived.SevenTiedAt
namespace Go.Proofs.YtpobhbdomldecaaGreatDoor
open Go.RowKit
set_option linter.unusedSimpArgs false
set_option linter.unusedVariables false
structure StepOk (x0 : Rcd) (g : GSpec) (f : RStep) : Prop where
  good : ∀ x a, fresh x0 g x → match g.read x a with
    | .error e => (f x (.ok a)).2 = .error e
    | .ok y => if g.empty y.1 = true then (f x (.ok a)).2 = .error (5, 0) else f x (.ok a) = (y.1, .ok y.2)
  bad : ∀ x e, (f x (.error e)).2 = .error e
def recth (l : List (UInt8 × RStep)) (i : Nat) : UInt8 × RStep := l.getD i (0, fun x σ => (x, σ))
structure SpecsOk (x0 : Rcd) (all : ByteArray) (specs : List (UInt8 × RStep)) (gs : List GSpec) : Prop where
  len : specs.length = gs.length
  keys : ∀ i, i < gs.length → (gth gs i).key.toList = [(recth specs i).1]
  all : ∀ k : ByteArray, isKey all k all.size = true ↔ ∃ i, i < gs.length ∧ k.toList = [(recth specs i).1]
  rise : ∀ i j, i < j → j < gs.length → (recth specs i).1 < (recth specs j).1
  steps : ∀ i, i < gs.length → StepOk x0 (gth gs i) (recth specs i).2
section
variable {x0 : Rcd} {s all : ByteArray} {specs : List (UInt8 × RStep)} {gs : List GSpec}
theorem SpecsOk.inj (h : SpecsOk x0 all specs gs) {i j : Nat} (hi : i < gs.length) (hj : j < gs.length) (e : (recth specs i).1 = (recth specs j).1) : i = j := by
  rcases Nat.lt_trichotomy i j with h1 | h1 | h1
  · have := h.rise i j h1 hj; rw [e] at this; exact absurd this (UInt8.lt_irrefl _)
  · exact h1
  · have := h.rise j i h1 hi; rw [e] at this; exact absurd this (UInt8.lt_irrefl _)
end
end Go.Proofs.YtpobhbdomldecaaGreatDoor
namespace Go.Proofs.YtpobhbdomldecaaGreatDoor
open Go.RowKit
set_option linter.unusedSimpArgs false
set_option linter.unusedVariables false
theorem Chg.low {rb cb : Nat} {w w1 w' : World} (h : Below w.heap.size w w1) (hc : Chg rb cb w1 w') (h1 : w.heap.size ≤ rb) (h2 : w.heap.size ≤ cb) : Below w.heap.size w w' :=
  ⟨hc.os.trans h.os, hc.tape.trans h.tape, hc.output.trans h.output, Nat.le_trans h.size hc.size, fun i hi => (hc.block i (Nat.lt_of_lt_of_le hi h.size) (by omega) (by omega)).trans (h.block i hi)⟩
end Go.Proofs.YtpobhbdomldecaaGreatDoor
namespace Go.Proofs.YtpobhbdomldecaaGreatDoor
open Go.RowKit
set_option linter.unusedSimpArgs false
set_option linter.unusedVariables false
def Nms (B : Nat) (w : World) (a : Option Addr) (l : List Int) : Prop := ∀ i, i < len l → ∃ b off, a = some ⟨b, off, none⟩ ∧ CellAt B w b (off + i) (.int .u64 (nth l i))
theorem Nms.keep {B : Nat} {w w' : World} {a : Option Addr} {l : List Int} (h : Nms B w a l) (hk : Keep8 B w w') : Nms B w' a l := fun i hi => by
  obtain ⟨b, off, e, hc⟩ := h i hi; exact ⟨b, off, e, hc.keep hk⟩
theorem Nms.below {B : Nat} {w w' : World} {a : Option Addr} {l : List Int} (h : Nms B w a l) (hk : Below w.heap.size w w') : Nms B w' a l := fun i hi => by
  obtain ⟨b, off, e, hc⟩ := h i hi; exact ⟨b, off, e, hc.below hk⟩
end Go.Proofs.YtpobhbdomldecaaGreatDoor
namespace Go.Proofs.YtpobhbdomldecaaGreatDoor
open Go.RowKit
set_option linter.unusedSimpArgs false
set_option linter.unusedVariables false
def AtF (s : ByteArray) (a : Nat) (t : ByteArray) : Prop := a ≤ s.size ∧ ∃ R, s.data.toList.drop a = t.data.toList ++ R
theorem AtF.le {s t : ByteArray} {a : Nat} (h : AtF s a t) : a + t.size ≤ s.size := by
  obtain ⟨h1, R, h2⟩ := h
  have := congrArg List.length h2
  rw [List.length_drop, List.length_append, ba_len, ba_len] at this
  omega
theorem AtF.nil {s : ByteArray} {a : Nat} (h : a ≤ s.size) : AtF s a ByteArray.empty := ⟨h, s.data.toList.drop a, by rfl⟩
def POk : DV → Prop
  | .num n => U64i n
  | .nums l => ∀ n ∈ l, U64i n
  | _ => True
def DOk : DV → Prop
  | .revs l => ∀ r ∈ l, ∀ o, POk (revC r o)
  | d => POk d
structure FG (s : ByteArray) (x0 : Rcd) (g : GSpec) (f : Rcd → FSpec) : Prop where
  key : ∀ y, (f y).key = g.key
  ksz : g.key.size ≤ 10240
  must : ∀ y, (f y).must = g.must
  loc : ∀ y z, (∀ o, o ∈ g.offs → y o = z o) → f y = f z
  emp : ∀ y, Kd x0 y → (f y).empty = g.empty y
  full : g.must = true → ∀ y, (f y).empty = false
  un : g.must = false → (f x0).empty = true ∧ (f x0).may = true
  zero : ∀ v, Kd x0 v → (f v).empty = true → ∀ o, o ∈ g.offs → v o = x0 o
  back : ∀ x a y, a ≤ s.size → fresh x0 g x → Kd x0 x → g.read x a = .ok y → g.empty y.1 = false → (f y.1).may = true ∧ AtF s a (f y.1).bytes ∧ y.2 = a + (f y.1).bytes.size ∧ ∀ o, o ∈ g.offs → DOk (y.1 o)
  forth : ∀ v x a, Kd x0 v → (∀ o, DOk (v o)) → fresh x0 g x → Kd x0 x → (f v).may = true → (f v).empty = false → AtF s a (f v).bytes → ∃ y, g.read x a = .ok (y, a + (f v).bytes.size) ∧ ∀ o, o ∈ g.offs → y o = v o
variable {s : ByteArray} {x0 : Rcd}
end Go.Proofs.YtpobhbdomldecaaGreatDoor
namespace Go.Proofs.YtpobhbdomldecaaGreatDoor
open Go.RowKit
set_option linter.unusedSimpArgs false
set_option linter.unusedVariables false
abbrev FPair := GSpec × (Rcd → FSpec)
def gsOf (P : List FPair) : List GSpec := P.map fun p => p.1
def pth (P : List FPair) (i : Nat) : FPair := P.getD i (GSpec.zero, fun _ => ⟨ByteArray.empty, false, false, false, ByteArray.empty⟩)
theorem pth_eq (P : List FPair) (i : Nat) (h : i < P.length) : pth P i = P[i] := by unfold pth; rw [List.getD_eq_getElem?_getD, List.getElem?_eq_getElem h]; rfl
theorem gsOf_len (P : List FPair) : (gsOf P).length = P.length := List.length_map _
theorem gth_of {P : List FPair} {i : Nat} (h : i < P.length) : gth (gsOf P) i = (pth P i).1 := by
  rw [gth_eq _ _ (by rw [gsOf_len]; exact h), pth_eq P i h]; unfold gsOf; rw [List.getElem_map]
structure FGs (s : ByteArray) (x0 : Rcd) (P : List FPair) : Prop where
  fg : ∀ p ∈ P, FG s x0 p.1 p.2
  ok : GOk x0 (gsOf P)
  len : P.length ≤ 1000
variable {s : ByteArray} {x0 : Rcd} {P : List FPair}
theorem FGs.at (h : FGs s x0 P) {i : Nat} (hi : i < P.length) : FG s x0 (gth (gsOf P) i) (pth P i).2 := by
  rw [gth_of hi]; exact h.fg _ (by rw [pth_eq P i hi]; exact List.getElem_mem _)
theorem kept_le (l : List FSpec) : (keptF l).length ≤ l.length := List.length_filter_le _ _
end Go.Proofs.YtpobhbdomldecaaGreatDoor
namespace Go.Proofs.YtpobhbdomldecaaGreatDoor
open Go.RowKit
set_option linter.unusedSimpArgs false
set_option linter.unusedVariables false
def putB (w : World) (t : Nat) (y : Obj) : World := { w with heap := w.heap.setIfInBounds t y }
theorem putB_ne {w : World} {t k : Nat} {y : Obj} (h : k ≠ t) : (putB w t y).heap[k]? = w.heap[k]? := by
  show (w.heap.setIfInBounds t y)[k]? = _
  rw [Array.getElem?_setIfInBounds_ne (fun e => h e.symm)]
theorem putB_size (w : World) (t : Nat) (y : Obj) : (putB w t y).heap.size = w.heap.size := Array.size_setIfInBounds
theorem putB_at {w : World} {t : Nat} {y x : Obj} (h : (putB w t y).heap[t]? = some x) : x = y := by
  have h' : (w.heap.setIfInBounds t y)[t]? = some x := h
  by_cases hl : t < w.heap.size
  · rw [Array.getElem?_setIfInBounds_self_of_lt hl] at h'; cases h'; rfl
  · rw [Array.getElem?_eq_none (by rw [Array.size_setIfInBounds]; omega)] at h'; cases h'
theorem keep_putB {B t : Nat} {w w' : World} (hb : Below w.heap.size w w') (hB : B ≤ w.heap.size) (ht : B ≤ t) (y : Obj) : Keep8 B (putB w t y) (putB w' t y) := by
  refine ⟨by rw [putB_size]; exact hB, by rw [putB_size, putB_size]; exact hb.size, fun k hk => ?_, fun k x hx hn => ?_⟩
  · rw [putB_ne (by omega), putB_ne (by omega)]; exact hb.block k (by omega)
  · by_cases e : k = t
    · subst e
      have hl : k < w.heap.size := by have := lt_of_block hx; rw [putB_size] at this; exact this
      have := putB_at hx
      subst this
      show (w'.heap.setIfInBounds k x)[k]? = some x
      rw [Array.getElem?_setIfInBounds_self_of_lt (Nat.lt_of_lt_of_le hl hb.size)]
    · rw [putB_ne e] at hx ⊢
      rw [hb.block k (lt_of_block hx)]; exact hx
def FIT (B t : Nat) (w : World) (v : FVal) (f : FSpec) : Prop := B ≤ w.heap.size ∧ B ≤ t ∧ ∀ y, FSem B (putB w t y) v f
theorem FIT.below {B t : Nat} {w w' : World} {v : FVal} {f : FSpec} (h : FIT B t w v f) (hb : Below w.heap.size w w') : FIT B t w' v f :=
  ⟨Nat.le_trans h.1 hb.size, h.2.1, fun y => (h.2.2 y).later (keep_putB hb h.1 h.2.1 y)⟩
def CellOff (B t : Nat) (w : World) (b o : Nat) (x : Value) : Prop := CellAt B w b o x ∧ b ≠ t
theorem CellOff.below {B t : Nat} {w w' : World} {b o : Nat} {x : Value} (h : CellOff B t w b o x) (hb : Below w.heap.size w w') : CellOff B t w' b o x := ⟨h.1.below hb, h.2⟩
def StrsOff (B t : Nat) (w : World) (a : Option Addr) (l : List ByteArray) : Prop := ∀ i, i < len l → ∃ b off, a = some ⟨b, off, none⟩ ∧ CellOff B t w b (off + i) (.string (sth l i))
theorem StrsOff.below {B t : Nat} {w w' : World} {a : Option Addr} {l : List ByteArray} (h : StrsOff B t w a l) (hb : Below w.heap.size w w') : StrsOff B t w' a l := fun i hi => by
  obtain ⟨b, off, e, hc⟩ := h i hi; exact ⟨b, off, e, hc.below hb⟩
section
variable {B t : Nat} {w : World}
end
end Go.Proofs.YtpobhbdomldecaaGreatDoor
namespace Go.Proofs.YtpobhbdomldecaaGreatDoor
open Go.RowKit
set_option linter.unusedSimpArgs false
set_option linter.unusedVariables false
abbrev CP := Nat → Nat → Value → Prop
def StrsC (C : CP) (a : Option Addr) (l : List ByteArray) : Prop := ∀ i, i < len l → ∃ b off, a = some ⟨b, off, none⟩ ∧ C b (off + i) (.string (sth l i))
theorem StrsC.imp {C D : CP} (h : ∀ b o x, C b o x → D b o x) {a : Option Addr} {l : List ByteArray} (hs : StrsC C a l) : StrsC D a l := fun i hi => by
  obtain ⟨b, off, e, hc⟩ := hs i hi; exact ⟨b, off, e, h _ _ _ hc⟩
structure RevCl (C : CP) (b o : Nat) (d : RevD) : Prop where
  c0 : C b o (.int .u64 d.pos)
  c1 : C b (o + 1) (.int .u64 d.L)
  c2 : C b (o + 2) (.bool d.signed)
  c3 : C b (o + 3) (.int .u64 d.idx)
  c4 : ∃ a c, C b (o + 4) (.slice a (len d.ws) c) ∧ StrsC C a d.ws
  c5 : ∃ a c, C b (o + 5) (.slice a (len d.ps) c) ∧ StrsC C a d.ps
  c6 : C b (o + 6) (.string d.root)
  c7 : C b (o + 7) (.int .u64 d.wt)
  c8 : C b (o + 8) (.int .u64 d.first)
  c9 : C b (o + 9) (.int .u64 d.life)
  c10 : C b (o + 10) (.int .u64 d.keys)
theorem RevCl.imp {C D : CP} (h : ∀ b o x, C b o x → D b o x) {b o : Nat} {d : RevD} (k : RevCl C b o d) : RevCl D b o d := by
  obtain ⟨a4, k4, h4, s4⟩ := k.c4
  obtain ⟨a5, k5, h5, s5⟩ := k.c5
  exact ⟨h _ _ _ k.c0, h _ _ _ k.c1, h _ _ _ k.c2, h _ _ _ k.c3, ⟨a4, k4, h _ _ _ h4, s4.imp h⟩, ⟨a5, k5, h _ _ _ h5, s5.imp h⟩, h _ _ _ k.c6, h _ _ _ k.c7, h _ _ _ k.c8, h _ _ _ k.c9, h _ _ _ k.c10⟩
def RvsC (C : CP) (a : Option Addr) (l : List RevD) : Prop := ∀ i, i < len l → ∃ b off, a = some ⟨b, off, none⟩ ∧ RevCl C b (off + i * 11) (lth l i)
theorem RvsC.imp {C D : CP} (h : ∀ b o x, C b o x → D b o x) {a : Option Addr} {l : List RevD} (k : RvsC C a l) : RvsC D a l := fun i hi => by
  obtain ⟨b, off, e, hc⟩ := k i hi; exact ⟨b, off, e, hc.imp h⟩
def NoRow (t : Nat) (w : World) : Prop := ∃ cs T fr, w.heap[t]? = some (.cells cs T fr) ∧ T ≠ 183
theorem NoRow.lt {t : Nat} {w : World} (h : NoRow t w) : t < w.heap.size := by obtain ⟨cs, T, fr, h1, _⟩ := h; exact lt_of_block h1
theorem NoRow.below {t : Nat} {w w' : World} (h : NoRow t w) (hb : Below w.heap.size w w') : NoRow t w' := by
  obtain ⟨cs, T, fr, h1, h2⟩ := h; exact ⟨cs, T, fr, (hb.block _ (lt_of_block h1)).trans h1, h2⟩
theorem NoRow.ne {t g : Nat} {w : World} {l : List FVal} (h : NoRow t w) (hF : FRow w g l) : g ≠ t := fun e => by
  subst e
  obtain ⟨cs, T, fr, h1, h2⟩ := h
  obtain ⟨_, cur, h3⟩ := hF
  rw [h1] at h3; cases h3; exact h2 rfl
section
variable {B t : Nat} {w : World}
end
end Go.Proofs.YtpobhbdomldecaaGreatDoor
namespace Go.Proofs.YtpobhbdomldecaaGreatDoor
open Go.RowKit
set_option linter.unusedSimpArgs false
set_option linter.unusedVariables false
theorem catB_size_le {α : Type} (f : α → ByteArray) (M : Nat) : ∀ l : List α, (∀ x ∈ l, (f x).size ≤ M) → (catB (l.map f)).size ≤ l.length * M
  | [], _ => by simp [catB]
  | x :: r, h => by
    rw [List.map_cons, catB, ByteArray.size_append, List.length_cons, Nat.succ_mul]
    have h1 := h x (List.mem_cons_self ..)
    have h2 := catB_size_le f M r (fun y hy => h y (List.mem_cons_of_mem _ hy))
    omega
theorem layP_size (fs : List FSpec) (M : Nat) (h : ∀ f ∈ fs, f.key.size ≤ 1 ∧ f.bytes.size ≤ M) : (layP fs).size ≤ 9 + fs.length * (M + 10) := by
  unfold layP
  rw [ByteArray.size_append]
  have h1 : (mapP (keptF fs).length).size ≤ 9 := laidP_len 4 _ ByteArray.empty
  have h2 := catB_size_le fieldP (M + 10) (keptF fs) (fun f hf => by
    obtain ⟨h3, h4⟩ := h f (List.mem_filter.1 hf).1
    unfold fieldP
    rw [ByteArray.size_append]
    have h5 : (strP f.key).size ≤ 9 + f.key.size := laidP_len 2 _ _
    omega)
  have h3 := Nat.mul_le_mul_right (M + 10) (kept_le fs)
  omega
theorem numP_size (n : Int) : (numP n).size ≤ 9 := laidP_len 0 _ ByteArray.empty
theorem may_all {fs : List FSpec} (h : allMay fs = true) : ∀ f ∈ fs, f.may = true := List.all_eq_true.1 h
theorem partSz {root : ByteArray} {weight first life keys : Int} (h : allMay (partSpecs root weight first life keys) = true) : (layP (partSpecs root weight first life keys)).size ≤ 300 := by
  have hr : root.size = 32 := of_decide_eq_true (may_all h ⟨⟨#[114]⟩, true, false, decide (root.size = 32), binP root⟩ (by unfold partSpecs; simp))
  have hb := binP_len root
  refine Nat.le_trans (layP_size _ 41 fun f hf => ?_) (show 9 + 5 * 51 ≤ 300 by decide)
  unfold partSpecs at hf
  simp only [List.mem_cons, List.not_mem_nil, or_false] at hf
  rcases hf with rfl | rfl | rfl | rfl | rfl
  · exact ⟨Nat.le_refl _, Nat.le_trans (numP_size _) (by decide)⟩
  · exact ⟨Nat.le_refl _, Nat.le_trans (numP_size _) (by decide)⟩
  · exact ⟨Nat.le_refl _, Nat.le_trans (numP_size _) (by decide)⟩
  · exact ⟨Nat.le_refl _, by show (binP root).size ≤ 41; omega⟩
  · exact ⟨Nat.le_refl _, Nat.le_trans (numP_size _) (by decide)⟩
end Go.Proofs.YtpobhbdomldecaaGreatDoor
namespace Go.Proofs.YtpobhbdomldecaaGreatDoor
open Go.RowKit
set_option linter.unusedSimpArgs false
set_option linter.unusedVariables false
def psp (r : Prt) : List FSpec := partSpecs r.root r.wt r.first r.life r.keys
def pbs (r : Prt) : ByteArray := layP (psp r)
theorem pmay_eq (r : Prt) : allMay (psp r) = decide (r.root.size = 32) := may_part _ _ _ _ _
theorem pbs_size {r : Prt} (h : allMay (psp r) = true) : (pbs r).size ≤ 300 := partSz h
def elP15 (l : List Prt) : List ByteArray := l.map pbs
theorem elP15_len (l : List Prt) : len (elP15 l) = len l := by unfold elP15; rw [len_eq, len_eq, List.length_map]
theorem elP15_at (l : List Prt) (i : Nat) (h : i < len l) : tth (elP15 l) i = pbs (pnth l i) := by
  have h2 : i < l.length := h
  rw [pnth_eq l i h2]
  unfold tth elP15
  rw [List.getD_eq_getElem?_getD, List.getElem?_map, List.getElem?_eq_getElem h2]
  rfl
theorem elP15_snoc (l : List Prt) (m : Nat) (h : m < len l) : elP15 (l.take (m + 1)) = elP15 (l.take m) ++ [pbs (pnth l m)] := by
  unfold elP15
  have h2 : m < l.length := h
  rw [List.take_succ_eq_append_getElem h2, List.map_append, pnth_eq l m h2]
  rfl
theorem check_may {l : List Prt} (h : checkOf l = 0) {i : Nat} (hi : i < len l) : allMay (psp (pnth l i)) = true := by
  have h1 := lackB_none (check_zero h).2.2.1 i hi
  unfold lacksB at h1
  rw [pmay_eq]
  simp at h1
  simp [h1.1]
theorem elP15_size {l : List Prt} (h : checkOf l = 0) : ∀ i, i < len (elP15 l) → (tth (elP15 l) i).size ≤ 300 := fun i hi => by
  rw [elP15_len] at hi
  rw [elP15_at l i hi]
  exact pbs_size (check_may h hi)
def elemsP (l : List Prt) : List ByteArray := if checkOf l = 0 then elP15 l else []
def rootP (l : List Prt) : ByteArray := if checkOf l = 0 then treeR (elP15 l) else ⟨#[]⟩
def ElemsIs (l : List Prt) (w : World) (e : Ending) (w' : World) : Prop := ∃ v, e = .returned (.tuple #[v, .int .i64 (checkOf l)]) ∧ TextsAre (elemsP l) v w' ∧ Below w.heap.size w w'
end Go.Proofs.YtpobhbdomldecaaGreatDoor
namespace Go.Proofs.YtpobhbdomldecaaGreatDoor
open Go.RowKit
set_option linter.unusedSimpArgs false
set_option linter.unusedVariables false
structure Hdr where
  rnd : Int
  prev : ByteArray
  txns : ByteArray
  seed : ByteArray
abbrev Hdr.val (r : Hdr) : Value := .agg #[.int .u64 r.rnd, .string r.prev, .string r.txns, .string r.seed]
def Hdr.cells (r : Hdr) : List Value := [.int .u64 r.rnd, .string r.prev, .string r.txns, .string r.seed]
theorem Hdr.cells_len (r : Hdr) : r.cells.length = 4 := rfl
theorem Hdr.cells_one (r : Hdr) : ∀ u ∈ r.cells, u.oneCell' = true := by intro u hu; simp only [Hdr.cells, List.mem_cons, List.not_mem_nil, or_false] at hu; rcases hu with rfl | rfl | rfl | rfl <;> rfl
def Hdr.zero : Hdr := ⟨0, ByteArray.empty, ByteArray.empty, ByteArray.empty⟩
def hnth (l : List Hdr) (i : Nat) : Hdr := l.getD i Hdr.zero
theorem hnth_eq (l : List Hdr) (i : Nat) (h : i < l.length) : hnth l i = l[i] := by unfold hnth; rw [List.getD_eq_getElem?_getD, List.getElem?_eq_getElem h]; rfl
structure HdrAt (w : World) (b o : Nat) (r : Hdr) : Prop where
  c0 : w.cell? ⟨b, o, none⟩ = some (.int .u64 r.rnd)
  c1 : w.cell? ⟨b, o + 1, none⟩ = some (.string r.prev)
  c2 : w.cell? ⟨b, o + 2, none⟩ = some (.string r.txns)
  c3 : w.cell? ⟨b, o + 3, none⟩ = some (.string r.seed)
theorem HdrAt.below {w w' : World} {b o : Nat} {r : Hdr} (h : HdrAt w b o r) (hb : Below w.heap.size w w') : HdrAt w' b o r := by
  have hl := lt_of_cell h.c0
  have e : ∀ q, w'.cell? ⟨b, q, none⟩ = w.cell? ⟨b, q, none⟩ := fun q => hb.cell (p := ⟨b, q, none⟩) hl
  obtain ⟨c0, c1, c2, c3⟩ := h
  constructor <;> (rw [e]; assumption)
def Hdrs (w : World) (a : Option Addr) (l : List Hdr) : Prop := ∀ i, i < len l → ∃ b off, a = some ⟨b, off, none⟩ ∧ HdrAt w b (off + i * 4) (hnth l i)
theorem Hdrs.nil (w : World) (a : Option Addr) : Hdrs w a [] := fun i hi => absurd hi (by simp [len])
theorem Hdrs.below {w w' : World} {a : Option Addr} {l : List Hdr} (h : Hdrs w a l) (hb : Below w.heap.size w w') : Hdrs w' a l := fun i hi => by
  obtain ⟨b, off, rfl, hc⟩ := h i hi
  exact ⟨b, off, rfl, hc.below hb⟩
theorem Hdrs.drew {w w' : World} {a : Option Addr} {l : List Hdr} (h : Hdrs w a l) (hb : Drew w w') : Hdrs w' a l := h.below (hb.below _)
theorem Hdrs.take {w : World} {a : Option Addr} {l : List Hdr} (h : Hdrs w a l) (k : Nat) : Hdrs w a (l.take k) := fun i hi => by
  have hi2 : i < l.length ∧ i < k := by simp only [len, List.length_take] at hi; omega
  have hi3 : i < (l.take k).length := hi
  have e : hnth (l.take k) i = hnth l i := by rw [hnth_eq l i hi2.1, hnth_eq _ i hi3, List.getElem_take]
  rw [e]; exact h i hi2.1
theorem Hdrs.drop {w : World} {b off : Nat} {l : List Hdr} (h : Hdrs w (some ⟨b, off, none⟩) l) (k : Nat) : Hdrs w (some ⟨b, off + k * 4, none⟩) (l.drop k) := fun i hi => by
  have hi2 : k + i < l.length := by simp only [len, List.length_drop] at hi; omega
  have hi3 : i < (l.drop k).length := hi
  have e : hnth (l.drop k) i = hnth l (k + i) := by rw [hnth_eq l _ hi2, hnth_eq _ i hi3, List.getElem_drop]
  obtain ⟨b', off', e2, hc⟩ := h (k + i) hi2
  cases e2
  exact ⟨b, _, rfl, by rw [e, show off + k * 4 + i * 4 = off + (k + i) * 4 by omega]; exact hc⟩
theorem Hdrs.own {w : World} {base e n : Nat} {v : Value} {l : List Hdr} (h : w.ownsRow base e 4 v n (l.flatMap Hdr.cells)) : ∃ a cap, v = .slice a (len l) cap ∧ Hdrs w a l ∧ len l ≤ cap := by
  have hn : len l = n := by have := h.1; rw [flat_length Hdr.cells 4 Hdr.cells_len] at this; rw [len_eq]; omega
  obtain ⟨h1, h2⟩ := h
  rcases h2 with ⟨rfl, h2⟩ | ⟨g, cap, cur, rfl, hg, hh, hc1, hc2, hc3, hc4⟩
  · obtain rfl : l = [] := List.eq_nil_of_length_eq_zero (by rw [← len_eq]; omega)
    exact ⟨none, 0, rfl, Hdrs.nil _ _, Nat.le_refl _⟩
  · refine ⟨some ⟨g, 0, none⟩, cap, by rw [hn], fun i hi => ⟨g, 0, rfl, ?_⟩, by omega⟩
    have hown : w.ownsRow base e 4 (.slice (some ⟨g, 0, none⟩) n cap) n (l.flatMap Hdr.cells) := ⟨h1, .inr ⟨g, cap, cur, rfl, hg, hh, hc1, hc2, hc3, hc4⟩⟩
    have key : ∀ r, r < 4 → w.cell? ⟨g, 0 + i * 4 + r, none⟩ = (hnth l i).cells[r]? := fun r hr => by
      have := hown.cellAt (i * 4 + r) (by rw [← hn]; omega)
      rw [Nat.zero_add, this, flat_get Hdr.cells 4 Hdr.cells_len l i r hi hr, hnth_eq l i hi]
    exact ⟨key 0 (by decide), key 1 (by decide), key 2 (by decide), key 3 (by decide)⟩
theorem Hdrs.block {w : World} {g : Nat} {l : List Hdr} {t : TypeId} {fr : Nat × Nat} (h : w.heap[g]? = some (.cells (l.flatMap Hdr.cells).toArray t fr)) : Hdrs w (some ⟨g, 0, none⟩) l := fun i hi => ⟨g, 0, rfl, by
  have key : ∀ r, r < 4 → w.cell? ⟨g, 0 + i * 4 + r, none⟩ = (hnth l i).cells[r]? := fun r hr => by
    rw [Nat.zero_add, block_cell h, List.getElem?_toArray, flat_get Hdr.cells 4 Hdr.cells_len l i r hi hr, hnth_eq l i hi]
  exact ⟨key 0 (by decide), key 1 (by decide), key 2 (by decide), key 3 (by decide)⟩⟩
structure Hdr.Ok (r : Hdr) : Prop where
  r0 : U64i r.rnd
  p1 : r.prev.size ≤ 1000000
  t1 : r.txns.size ≤ 1000000
  s1 : r.seed.size ≤ 1000000
theorem Hdr.zero_ok : Hdr.zero.Ok := ⟨⟨by decide, by decide⟩, by decide, by decide, by decide⟩
def hsp (r : Hdr) : List FSpec := headerSpecs r.rnd r.prev r.txns r.seed
def hbs (r : Hdr) : ByteArray := layP (hsp r)
end Go.Proofs.YtpobhbdomldecaaGreatDoor
namespace Go.Proofs.YtpobhbdomldecaaGreatDoor
open Go.RowKit
set_option linter.unusedSimpArgs false
set_option linter.unusedVariables false
structure PT (B : Nat) (w : World) : Prop where
  p : PTab B w
  s : B ≤ w.heap.size
theorem PT.below {B : Nat} {w w' : World} (h : PT B w) (hb : Below w.heap.size w w') : PT B w' := ⟨h.p.keep hb h.s, Nat.le_trans h.s hb.size⟩
end Go.Proofs.YtpobhbdomldecaaGreatDoor
namespace Go.Proofs.YtpobhbdomldecaaGreatDoor
open Go.RowKit
set_option linter.unusedSimpArgs false
set_option linter.unusedVariables false
theorem len_appH {α : Type} (a b : List α) : len (a ++ b) = len a + len b := by rw [len_eq, List.length_append]; rfl
end Go.Proofs.YtpobhbdomldecaaGreatDoor
namespace Go.Proofs.YtpobhbdomldecaaGreatDoor
open Go.RowKit
set_option linter.unusedSimpArgs false
set_option linter.unusedVariables false
def BoxL (w : World) (xb : Nat) (a : Option Addr) (n cap : Nat) : Prop := w.heap[xb]? = some (.cells #[.slice a n cap] 22 (0, 0))
theorem BoxL.below {w w' : World} {xb : Nat} {a : Option Addr} {n cap : Nat} (h : BoxL w xb a n cap) (hb : Below w.heap.size w w') : BoxL w' xb a n cap := (hb.block _ (lt_of_block h)).trans h
def BoxT (w : World) (xb : Nat) (a : Option Addr) (n cap : Nat) : Prop := w.heap[xb]? = some (.cells #[.slice a n cap] 36 (0, 0))
theorem BoxT.below {w w' : World} {xb : Nat} {a : Option Addr} {n cap : Nat} (h : BoxT w xb a n cap) (hb : Below w.heap.size w w') : BoxT w' xb a n cap := (hb.block _ (lt_of_block h)).trans h
end Go.Proofs.YtpobhbdomldecaaGreatDoor
namespace Go.Proofs.YtpobhbdomldecaaGreatDoor
open Go.RowKit
set_option linter.unusedSimpArgs false
set_option linter.unusedVariables false
theorem turnedZ_in {k d : Nat} (hd : d ≤ 16) (hk : k < 2 ^ d) : turnedZ (k : Nat) (d : Nat) = ((revOf k d : Nat) : Int) := by
  unfold turnedZ
  rw [if_pos ⟨by omega, by omega, by rw [Int.toNat_natCast, pow_cast]; exact_mod_cast hk⟩]
  rfl
end Go.Proofs.YtpobhbdomldecaaGreatDoor
namespace Go.Proofs.YtpobhbdomldecaaGreatDoor
open Go.RowKit
set_option linter.unusedSimpArgs false
set_option linter.unusedVariables false
theorem own_at {base n c : Nat} {w : World} {a : Option Addr} {l : List ByteArray} (h : w.ownsRow base 9 1 (.slice a n c) n (l.map Value.string)) (m : Nat) (hm : m < n) : ∃ g, a = some ⟨g, 0, none⟩ ∧ base ≤ g ∧ w.cell? ⟨g, m, none⟩ = some (.string (tth l m)) ∧ w.frozen? ⟨g, m, none⟩ = false ∧ g < w.heap.size := by
  have hn : l.length = n := by have := h.1; simpa using this
  rcases h.2 with ⟨hz, h9⟩ | ⟨g9, cap, cur, hv, hg, hh, h1, h2, h3, h4⟩
  · omega
  · cases hv
    refine ⟨g9, rfl, hg, ?_, block_free hh m, lt_of_block hh⟩
    have h5 := h.cellAt m (by omega)
    have hi2 : m < l.length := by omega
    rw [h5, List.getElem?_map, List.getElem?_eq_getElem hi2, tth_eq l m hi2]; rfl
end Go.Proofs.YtpobhbdomldecaaGreatDoor
namespace Go.Proofs.YtpobhbdomldecaaGreatDoor
open Go.RowKit
set_option linter.unusedSimpArgs false
set_option linter.unusedVariables false
theorem txts_news {w : World} {ad : Addr} {l : List ByteArray} (h : Txts w (some ad) l) : ∀ j u, (l.map Value.string)[j]? = some u → w.cell? (ad.add j) = some u := by
  intro j u hu
  have hj : j < l.length := by have := (List.getElem?_eq_some_iff.1 hu).1; simpa using this
  rw [List.getElem?_map, List.getElem?_eq_getElem hj] at hu
  cases hu
  obtain ⟨b, off, e, hc⟩ := h j hj
  cases e
  rw [tth_eq l j hj] at hc
  by_cases hj0 : j = 0
  · subst hj0; simpa [Addr.add] using hc
  · simpa [Addr.add, hj0] using hc
theorem one_txts (l : List ByteArray) : ∀ u ∈ l.map Value.string, u.oneCell' = true := by
  intro u hu
  obtain ⟨x, _, rfl⟩ := List.mem_map.1 hu
  rfl
theorem len_appT {α : Type} (a b : List α) : len (a ++ b) = len a + len b := by rw [len_eq, List.length_append]; rfl
theorem wpList_append_txts {w : World} {ops : Array Oper} {rest : List Oper} {o : Oper} {a : Act} {Q : Exit → Act → World → Prop} (hgd : o.guard = none) (s x : Operand)
    (ho : o.op = .call { callee := .builtin .append, args := #[s, x], argTypes := #[36, 36] })
    (base : Nat) (v : Value) (xs l : List ByteArray) (ad : Option Addr) (c : Nat) (hs : a.eval s = v) (hown : w.ownsRow base 9 1 v (len xs) (xs.map Value.string))
    (hx : a.eval x = .slice ad (len l) c) (hl : Txts w ad l) (hc : ad = none → c = 0) (hlen : len xs + len l ≤ 100000) (hbase : base ≤ w.heap.size)
    (h : ∀ v' w', w'.ownsRow base 9 1 v' (len (xs ++ l)) ((xs ++ l).map Value.string) → w.grownBy w' v.ownBlock → wpList Tryz.prog ops Q rest (a.put o.dst v') w') : wpList Tryz.prog ops Q (o :: rest) a w := by
  obtain ⟨i0, hi, hz0, hz1, hz2⟩ := info_parts info_str
  cases ad with
  | none =>
    obtain rfl : l = [] := by
      cases l with
      | nil => rfl
      | cons y l => obtain ⟨b, off, e, _⟩ := hl 0 (by simp [len]); cases e
    rw [hc rfl] at hx
    refine wpList_append_own_none hgd s x 36 ho base 9 i0 1 Tryz.underlying36 hi v _ _ hs hown hx ?_
    exact h v w (by rw [List.append_nil]; exact hown) ⟨rfl, rfl, rfl, Nat.le_refl _, fun _ _ _ => rfl⟩
  | some ad =>
    refine wpList_append_own _ hgd s x 36 ho base 9 i0 (.string ⟨#[]⟩) 1 16 Tryz.underlying36 hi hz0 hz1 hz2 rfl (by decide) v _ _ hs hown ad (len l) c (l.map Value.string) hx (by simp [len]) (txts_news hl) (one_txts l) (by unfold maxLen; omega) (by omega) hbase ?_
    intro v' w' h1 h2 _
    refine h v' w' ?_ h2
    rw [len_appT, List.map_append]; exact h1
def Apart (u v : Value) : Prop := ∀ k, u.ownBlock = some k → v.ownBlock ≠ some k
theorem Apart.symm {u v : Value} (h : Apart u v) : Apart v u := fun k h1 h2 => h k h2 h1
theorem Apart.keep {w w1 : World} {u v : Value} {base e size n : Nat} {xs : List Value} (h : Apart u v) (ho : w.ownsRow base e size u n xs) (hg : w.grownBy w1 v.ownBlock) : w1.ownsRow base e size u n xs :=
  ho.kept hg (by
    cases hp : Value.ownBlock u with
    | none => exact .inl rfl
    | some k => exact .inr (fun e => h k hp e.symm))
end Go.Proofs.YtpobhbdomldecaaGreatDoor
namespace Go.Proofs.YtpobhbdomldecaaGreatDoor
open Go.RowKit
set_option linter.unusedSimpArgs false
set_option linter.unusedVariables false
def Ref9At (els : List ByteArray) (b : Nat) (w : World) : Prop := ∃ a c, w.heap[b]? = some (.cells #[.slice a (len els) c] 157 (0, 0)) ∧ Txts w a els
theorem Ref9At.below {els : List ByteArray} {b : Nat} {w w' : World} (h : Ref9At els b w) (hb : Below w.heap.size w w') : Ref9At els b w' := by
  obtain ⟨a, c, h1, h2⟩ := h
  exact ⟨a, c, (hb.block _ (lt_of_block h1)).trans h1, h2.below hb⟩
def Build9Is (els : List ByteArray) (w : World) (e : Ending) (w' : World) : Prop := ∃ b, e = .returned (.tuple #[.pointer (some ⟨b, 0, none⟩), .int .i64 0]) ∧ Ref9At els b w' ∧ Below w.heap.size w w'
set_option maxRecDepth 100000 in
set_option maxHeartbeats 4000000 in
theorem rbuild9_any (els : List ByteArray) (a : Option Addr) (c : Nat) (w : World) (ht : Txts w a els) (hn : len els ≤ 65536) (hc : a = none → c = 0) :
    Calls Tryz.prog 72 #[.slice a (len els) c] w (Build9Is els w) := by
  have HT := Lib.hid ht
  have HN := Lib.hid hn
  have HC := Lib.hid hc
  have b0 : ¬ (65536 : Int) < (len els : Int) := by omega
  clear ht hn hc
  have E0 : Hid ((w.alloc (.cells #[.slice none 0 0] 157)).ownsRow (w.heap.size + 1) 9 1 (.slice none 0 0) (len ([] : List ByteArray)) (([] : List ByteArray).map Value.string)) := Lib.hid (World.ownsRow_nil _ _ _ _)
  have hb0 : w.heap.size < (w.alloc (.cells #[.slice none 0 0] 157)).heap.size := by simp
  go_enter Tryz.func72, Tryz.ntmps72
  go_wp2_with (at_builtin; refine wpList_append_txts rfl _ _ rfl (w.heap.size + 1) _ [] els a c rfl E0.out rfl (HT.out.below (balloc (Below.refl _ _) _)) HC.out (show 0 + len els ≤ 100000 by have := HN.out; omega) (by simp) ?_)
  intro v w2 hown hgrow
  have h2 : w2.heap[w.heap.size]? = some (.cells #[.slice none 0 0] 157 (0, 0)) := by rw [hgrow.block _ hb0 (by simp [Value.ownBlock])]; exact heap_alloc_new _ _
  have HB2 : Hid (Below w.heap.size w w2) := Lib.hid (grownBy_below (balloc (Below.refl _ _) _) hgrow (fun k hk => by simp [Value.ownBlock] at hk))
  have HH2 := Lib.hid h2
  have c0 : w2.cell? ⟨w.heap.size, 0, none⟩ = some (.slice none 0 0) := block_cell h2 0
  have f0 : w2.frozen? ⟨w.heap.size, 0, none⟩ = false := block_free h2 0
  have HO2 : Hid (w2.ownsRow (w.heap.size + 1) 9 1 v (len els) (els.map Value.string)) := Lib.hid hown
  obtain ⟨a2, c2, rfl, ht2⟩ := own_txts HO2.out
  have HT2 := Lib.hid ht2
  clear hown hgrow h2 hb0 E0 ht2
  go_wp2
  go_ret2
  refine ⟨_, rfl, ⟨a2, c2, block_setCell HH2.out _, fun i hi => ?_⟩, bset HB2.out (Nat.le_refl _) _⟩
  obtain ⟨b9, o9, e9, h9⟩ := HT2.out i hi
  subst e9
  have hg := (HO2.out.lt b9 rfl).1
  exact ⟨b9, o9, rfl, by rw [World.cell?_of_block (w := w2) (Below.heap_setCell _ _ _ _ (show b9 ≠ w.heap.size by omega))]; exact h9⟩
set_option maxRecDepth 100000 in
theorem rdepth9_any (els : List ByteArray) (b : Nat) (w : World) (h : Ref9At els b w) (hn : len els ≤ 65536) : Calls Tryz.prog 130 #[.pointer (some ⟨b, 0, none⟩)] w fun e w' => e = .returned (.int .i64 (depN els : Nat)) ∧ w = w' := by
  obtain ⟨a, c, h1, h2⟩ := h
  have c0 : w.cell? ⟨b, 0, none⟩ = some (.slice a (len els) c) := block_cell h1 0
  have HD := Lib.hid (refDepth_any (len els : Nat) w (by omega) (by omega))
  rw [depthZ_len hn] at HD
  clear h1 h2 hn
  go_enter Tryz.func130, Tryz.ntmps130
  go_wp2_with fail
  refine HD.out.mono ?_
  rintro e w1 ⟨rfl, rfl⟩
  go_wp2
  go_ret
  exact ⟨rfl, rfl⟩
set_option maxRecDepth 100000 in
set_option maxHeartbeats 4000000 in
theorem rdigest9_zero (els : List ByteArray) (b k : Nat) (w : World) (hn : len els ≤ 65536) (hz : ∀ i, i < len els → (tth els i).size ≤ 140737488355200) (hk : k < 2 ^ depN els) (ht : Ref9At els b w) :
    Calls Tryz.prog 129 #[.pointer (some ⟨b, 0, none⟩), .int .i64 0, .int .u64 (k : Nat)] w fun e w' => e = .returned (.string (plD els (depN els) 0 k)) ∧ Below w.heap.size w w' := by
  have hd : depN els ≤ 16 := depN_le hn
  have hk2 : k < 65536 := Nat.lt_of_lt_of_le hk (Nat.pow_le_pow_right (by decide) hd)
  have HDP := Lib.hid (rdepth9_any els b w ht hn)
  obtain ⟨d, hdd⟩ : ∃ d, depN els = d := ⟨_, rfl⟩
  rw [hdd] at HDP hd hk ⊢
  have HE := Lib.hid (refElement_any (k : Nat) (d : Nat) w (by omega) (by omega) (by omega) (by omega))
  rw [turnedZ_in hd hk] at HE
  obtain ⟨r, hr⟩ : ∃ r, revOf k d = r := ⟨_, rfl⟩
  rw [hr] at HE
  obtain ⟨a, c, h1, h2⟩ := ht
  have c0 : w.cell? ⟨b, 0, none⟩ = some (.slice a (len els) c) := block_cell h1 0
  by_cases hlt : r < len els
  · have HP : Hid (plD els d 0 k = hashP leafT [tth els r]) := Lib.hid (by
      show (if revOf k d < len els then hashP leafT [tth els (revOf k d)] else hashP noneT []) = _
      rw [hr, if_pos hlt])
    have b0 : (r : Int) < len els := by omega
    have b1 : ¬ (len els : Int) ≤ (r : Int) := by omega
    obtain ⟨bb, off, rfl, hcell⟩ := h2 r hlt
    have HZ := Lib.hid (hz r hlt)
    obtain ⟨s, hs⟩ : ∃ s, tth els r = s := ⟨_, rfl⟩
    rw [hs] at HP HZ hcell
    have w8 : IntKind.u64.wrap ((len els : Nat) : Int) = ((len els : Nat) : Int) := IntWalk.u64_in _ (by omega)
    have wr1 : IntKind.i64.wrap ((r : Nat) : Int) = ((r : Nat) : Int) := IntWalk.i64_in _ (by omega)
    clear hd hn hz hk hr hs hk2 h1 h2 hdd
    go_enter Tryz.func129, Tryz.ntmps129
    go_wp2_with fail
    refine HDP.out.mono ?_
    rintro e w1 ⟨rfl, rfl⟩
    go_wp2_with fail
    refine HE.out.mono ?_
    rintro e w1 ⟨rfl, rfl⟩
    go_wp2_with fail
    refine (rhash1_any leafT s w (by decide) (by decide) HZ.out).mono ?_
    rintro e w2 ⟨rfl, hb2⟩
    have HB2 := Lib.hid hb2
    clear hb2
    go_wp2
    go_ret
    exact ⟨by rw [HP.out]; rfl, HB2.out⟩
  · have HP : Hid (plD els d 0 k = hashP noneT []) := Lib.hid (by
      show (if revOf k d < len els then hashP leafT [tth els (revOf k d)] else hashP noneT []) = _
      rw [hr, if_neg hlt])
    have b1 : (len els : Int) ≤ (r : Int) := by omega
    have w8 : IntKind.u64.wrap ((len els : Nat) : Int) = ((len els : Nat) : Int) := IntWalk.u64_in _ (by omega)
    clear hd hn hz hk hr hk2 h1 h2 hdd
    go_enter Tryz.func129, Tryz.ntmps129
    go_wp2_with fail
    refine HDP.out.mono ?_
    rintro e w1 ⟨rfl, rfl⟩
    go_wp2_with fail
    refine HE.out.mono ?_
    rintro e w1 ⟨rfl, rfl⟩
    go_wp2_with fail
    refine (rhash0_any noneT w (by decide) (by decide)).mono ?_
    rintro e w2 ⟨rfl, hb2⟩
    have HB2 := Lib.hid hb2
    clear hb2
    go_wp2
    go_ret
    exact ⟨by rw [HP.out]; rfl, HB2.out⟩
set_option maxRecDepth 100000 in
set_option maxHeartbeats 4000000 in
theorem rdigest9_any (els : List ByteArray) (b : Nat) (hn : len els ≤ 65536) (hz : ∀ i, i < len els → (tth els i).size ≤ 140737488355200) : ∀ (l k : Nat) (w : World), l ≤ depN els → k < 2 ^ (depN els - l) → Ref9At els b w →
    Calls Tryz.prog 129 #[.pointer (some ⟨b, 0, none⟩), .int .i64 (l : Nat), .int .u64 (k : Nat)] w fun e w' => e = .returned (.string (plD els (depN els) l k)) ∧ Below w.heap.size w w'
  | 0, k, w, hl, hk, ht => rdigest9_zero els b k w hn hz hk ht
  | l + 1, k, w, hl, hk, ht => by
    have hd : depN els ≤ 16 := depN_le hn
    have hp : 2 ^ (depN els - l) = 2 * 2 ^ (depN els - (l + 1)) := by rw [show depN els - l = depN els - (l + 1) + 1 by omega, Nat.pow_succ]; omega
    have hk2 : 2 ^ (depN els - l) ≤ 65536 := Nat.pow_le_pow_right (by decide) (show depN els - l ≤ 16 by omega)
    obtain ⟨k0, hk0⟩ : ∃ k0, 2 * k = k0 := ⟨_, rfl⟩
    obtain ⟨k1, hk1⟩ : ∃ k1, 2 * k + 1 = k1 := ⟨_, rfl⟩
    obtain ⟨m, hm⟩ : ∃ m, l + 1 = m := ⟨_, rfl⟩
    have f1 : IntKind.u64.wrap (2 * ((k : Nat) : Int)) = ((k0 : Nat) : Int) := by rw [IntWalk.u64_in _ (by omega)]; omega
    have f2 : IntKind.u64.wrap (((k0 : Nat) : Int) + 1) = ((k1 : Nat) : Int) := by rw [IntWalk.u64_in _ (by omega)]; omega
    have l1 : (0 : Int) < ((m : Nat) : Int) := by omega
    have l2 : IntKind.i64.wrap (((m : Nat) : Int) - 1) = ((l : Nat) : Int) := by rw [IntWalk.i64_in _ (by omega)]; omega
    have IH1 := Lib.hid (fun w9 h9 => rdigest9_any els b hn hz l (2 * k) w9 (by omega) (by omega) h9)
    have IH2 := Lib.hid (fun w9 h9 => rdigest9_any els b hn hz l (2 * k + 1) w9 (by omega) (by omega) h9)
    have HT := Lib.hid ht
    obtain ⟨d, hdd⟩ : ∃ d, depN els = d := ⟨_, rfl⟩
    rw [hdd] at IH1 IH2 ⊢
    obtain ⟨X, hX⟩ : ∃ X, plD els d l (2 * k) = X := ⟨_, rfl⟩
    obtain ⟨Y, hY⟩ : ∃ Y, plD els d l (2 * k + 1) = Y := ⟨_, rfl⟩
    have HP : Hid (plD els d (l + 1) k = hashP nodeT [X, Y]) := Lib.hid (by rw [← hX, ← hY]; rfl)
    have HXS : Hid (X.size ≤ 1000000) := Lib.hid (by rw [← hX, plD_size]; decide)
    have HYS : Hid (Y.size ≤ 1000000) := Lib.hid (by rw [← hY, plD_size]; decide)
    rw [hX, hk0] at IH1
    rw [hY, hk1] at IH2
    rw [hm] at HP ⊢
    clear hX hY ht hk hp hk2 hd hn hz hl hk0 hk1 hm hdd
    go_enter Tryz.func129, Tryz.ntmps129
    go_wp2_with fail
    refine (IH1.out w HT.out).mono ?_
    rintro e w1 ⟨rfl, hb1⟩
    have HB1 := Lib.hid hb1
    have HT1 := Lib.hid (HT.out.below hb1)
    clear hb1
    go_wp2_with fail
    refine (IH2.out w1 HT1.out).mono ?_
    rintro e w2 ⟨rfl, hb2⟩
    have HB2 : Hid (Below w.heap.size w w2) := Lib.hid (bnext HB1.out hb2)
    clear hb2
    go_wp2_with fail
    refine (rhash2_any nodeT X Y w2 (by decide) (by decide) HXS.out HYS.out).mono ?_
    rintro e w3 ⟨rfl, hb3⟩
    have HB3 : Hid (Below w.heap.size w w3) := Lib.hid (bnext HB2.out hb3)
    clear hb3
    go_wp2
    go_ret
    exact ⟨by rw [HP.out]; rfl, HB3.out⟩
set_option maxRecDepth 100000 in
theorem rroot9_any (els : List ByteArray) (b : Nat) (w : World) (hn : len els ≤ 65536) (hz : ∀ i, i < len els → (tth els i).size ≤ 140737488355200) (ht : Ref9At els b w) :
    Calls Tryz.prog 73 #[.pointer (some ⟨b, 0, none⟩)] w fun e w' => e = .returned (.string (treeR els)) ∧ Below w.heap.size w w' := by
  have HDP := Lib.hid (rdepth9_any els b w ht hn)
  have HDG := Lib.hid (rdigest9_any els b hn hz (depN els) 0 w (Nat.le_refl _) (Nat.pow_pos (by decide)) ht)
  obtain ⟨X, hX⟩ : ∃ X, treeR els = X := ⟨_, rfl⟩
  rw [show plD els (depN els) (depN els) 0 = treeR els from rfl, hX] at HDG
  rw [hX]
  obtain ⟨d, hdd⟩ : ∃ d, depN els = d := ⟨_, rfl⟩
  rw [hdd] at HDP HDG
  clear ht hn hz hX hdd
  go_enter Tryz.func73, Tryz.ntmps73
  go_wp2_with fail
  refine HDP.out.mono ?_
  rintro e w1 ⟨rfl, rfl⟩
  go_wp2_with fail
  refine HDG.out.mono ?_
  rintro e w1 ⟨rfl, hb⟩
  have HB := Lib.hid hb
  clear hb
  go_wp2
  go_ret
  exact ⟨rfl, HB.out⟩
end Go.Proofs.YtpobhbdomldecaaGreatDoor
namespace Go.Proofs.YtpobhbdomldecaaGreatDoor
open Go.RowKit
set_option linter.unusedSimpArgs false
set_option linter.unusedVariables false
theorem own_setk {base n c g m k : Nat} {w : World} {e : TypeId} {xs : List Value} {u : Value} (h : w.ownsRow base e k (.slice (some ⟨g, 0, none⟩) n c) n xs) : (w.setCell ⟨g, m, none⟩ u).ownsRow base e k (.slice (some ⟨g, 0, none⟩) n c) n (xs.set m u) := by
  refine ⟨by rw [List.length_set]; exact h.1, ?_⟩
  rcases h.2 with ⟨hz, _⟩ | ⟨g9, cap, cur, hv, hg, hh, h1, h2, h3, h4⟩
  · cases hz
  · cases hv
    refine Or.inr ⟨g, c, cur.setIfInBounds m u, rfl, hg, block_setCell hh u, h1, h2, by rw [Array.size_setIfInBounds]; exact h3, ?_⟩
    rw [Array.toList_setIfInBounds, ← h4, List.take_set]
theorem flat_set {α β : Type} (f : α → List β) (k : Nat) (hf : ∀ x, (f x).length = k) {u : β} {x' : α} : ∀ (l : List α) (i j : Nat) (hi : i < l.length), j < k → f x' = (f l[i]).set j u → (l.flatMap f).set (i * k + j) u = (l.set i x').flatMap f
  | x :: l, 0, j, _, hj, hx => by
    simp only [List.flatMap_cons, Nat.zero_mul, Nat.zero_add, List.getElem_cons_zero, List.set_cons_zero] at hx ⊢
    rw [List.set_append_left _ _ (by rw [hf]; exact hj), hx]
  | x :: l, i + 1, j, hi, hj, hx => by
    simp only [List.flatMap_cons, List.getElem_cons_succ, List.set_cons_succ] at hx ⊢
    rw [List.set_append_right _ _ (by rw [hf, Nat.add_mul]; omega), hf, show (i + 1) * k + j - k = i * k + j by rw [Nat.add_mul]; omega]
    rw [flat_set f k hf l i j (by simpa using hi) hj hx]
def OwnH (base g c : Nat) (L : List Hdr) (w : World) : Prop := w.ownsRow base 33 4 (.slice (some ⟨g, 0, none⟩) (len L) c) (len L) (L.flatMap Hdr.cells)
theorem OwnH.below {base g c : Nat} {L : List Hdr} {w w' : World} (h : OwnH base g c L w) (hb : Below w.heap.size w w') : OwnH base g c L w' := own_below h hb
theorem OwnH.set {base g c : Nat} {L : List Hdr} {w : World} (h : OwnH base g c L w) {i j : Nat} {u : Value} {r' : Hdr} (hi : i < len L) (hj : j < 4) (hr : r'.cells = (hnth L i).cells.set j u) : OwnH base g c (L.set i r') (w.setCell ⟨g, i * 4 + j, none⟩ u) := by
  unfold OwnH
  have hl : len (L.set i r') = len L := by rw [len_eq, len_eq, List.length_set]
  rw [hl, ← flat_set Hdr.cells 4 Hdr.cells_len L i j hi hj (by rw [hr, hnth_eq L i hi])]
  exact own_setk h
theorem OwnH.lt {base g c : Nat} {L : List Hdr} {w : World} (h : OwnH base g c L w) : base ≤ g ∧ g < w.heap.size := h.1 |> fun _ => World.ownsRow.lt h g rfl
structure HCells (w : World) (g i : Nat) (r : Hdr) : Prop where
  c0 : w.cell? ⟨g, i * 4, none⟩ = some (.int .u64 r.rnd)
  c1 : w.cell? ⟨g, i * 4 + 1, none⟩ = some (.string r.prev)
  c2 : w.cell? ⟨g, i * 4 + 2, none⟩ = some (.string r.txns)
  c3 : w.cell? ⟨g, i * 4 + 3, none⟩ = some (.string r.seed)
  f : ∀ o, w.frozen? ⟨g, o, none⟩ = false
theorem OwnH.at {base g c : Nat} {L : List Hdr} {w : World} (h : OwnH base g c L w) {i : Nat} (hi : i < len L) : HCells w g i (hnth L i) := by
  obtain ⟨a, cap, e, hh, _⟩ := Hdrs.own h
  cases e
  obtain ⟨b, off, e, ⟨h0, h1, h2, h3⟩⟩ := hh i hi
  cases e
  rw [Nat.zero_add] at h0 h1 h2 h3
  rcases h.2 with ⟨hz, _⟩ | ⟨g9, cap, cur, hv, hg, hb, _⟩
  · cases hz
  · cases hv
    exact ⟨h0, h1, h2, h3, block_free hb⟩
end Go.Proofs.YtpobhbdomldecaaGreatDoor
namespace Go.Proofs.YtpobhbdomldecaaGreatDoor
open Go.RowKit
set_option linter.unusedSimpArgs false
set_option linter.unusedVariables false
set_option maxRecDepth 100000 in
theorem make_szn (k : Nat) (hk : k ≤ 100000) : ∃ cs : Array Value, (∀ W : World, (Instr.makeSlice 36 (.int .i64 (k : Nat)) (.int .i64 (k : Nat))).run Tryz.prog W = .ok (.slice (some ⟨W.heap.size, 0, none⟩) k k) (W.alloc (.cells cs 9))) ∧ cs.toList = List.replicate k (.string ⟨#[]⟩) := by
  obtain ⟨i0, hi, hz0, hz1, hz2⟩ := info_parts info_str
  have hr := fun W => run_make (P := Tryz.prog) W 36 9 i0 (.string ⟨#[]⟩) Tryz.underlying36 hi hz0 .i64 .i64 k k (by omega) (Int.le_refl _) (by rw [hz2]; omega) (by omega)
  refine ⟨_, hr, ?_⟩
  rw [hz1]
  show (madeCells #[.string ⟨#[]⟩] (k * 1)).toList = _
  rw [toList_madeCells_one, Nat.mul_one]
theorem take_lenP (l : List Prt) : l.take (len l) = l := by rw [len_eq]; exact List.take_length
structure PePr (l : List Prt) (w wr : World) (g m : Nat) : Prop where
  b : Below w.heap.size w wr
  o : wr.ownsRow w.heap.size 9 1 (.slice (some ⟨g, 0, none⟩) (len l) (len l)) (len l) ((elP15 (l.take m) ++ List.replicate (len l - m) (⟨#[]⟩ : ByteArray)).map Value.string)
theorem PePr.start {l : List Prt} {w wr : World} {cs : Array Value} (hn : len l ≤ 100000) (hb : Below w.heap.size w wr) (h : cs.toList = List.replicate (len l) (.string ⟨#[]⟩)) : PePr l w (wr.alloc (.cells cs 9)) wr.heap.size 0 :=
  have hs : cs.size = len l := by rw [← Array.length_toList, h, List.length_replicate]
  ⟨balloc hb _, ⟨by simp [elP15], .inr ⟨wr.heap.size, len l, cs, rfl, hb.size, heap_alloc_new _ _, Nat.le_refl _, by unfold maxLen; omega, by rw [hs, Nat.mul_one], by rw [h]; simp [elP15]⟩⟩⟩
theorem PePr.put {l : List Prt} {w wr : World} {g m : Nat} (h : PePr l w wr g m) (hm : m < len l) : (wr.setCell ⟨g, m, none⟩ (.string (pbs (pnth l m)))).ownsRow w.heap.size 9 1 (.slice (some ⟨g, 0, none⟩) (len l) (len l)) (len l) ((elP15 (l.take (m + 1)) ++ List.replicate (len l - (m + 1)) (⟨#[]⟩ : ByteArray)).map Value.string) := by
  have h1 := own_setk (m := m) (u := .string (pbs (pnth l m))) h.o
  have e : ((elP15 (l.take m)).map Value.string).length = m := by
    rw [List.length_map]; show len (elP15 (l.take m)) = m; rw [elP15_len, len_eq, List.length_take]; rw [len_eq] at hm; omega
  rw [List.map_append, List.map_replicate, List.set_append_right _ _ (by omega), e, Nat.sub_self, show len l - m = (len l - (m + 1)) + 1 by omega, List.replicate_succ, List.set_cons_zero] at h1
  rw [elP15_snoc l m hm, List.append_assoc, List.map_append, List.map_append, List.map_replicate]
  exact h1
set_option maxRecDepth 100000 in
set_option maxHeartbeats 4000000 in
theorem pelements_any (B : Nat) (l : List Prt) (a : Option Addr) (cap : Nat) (w : World) (ht : PT B w) (hc : Prts w a l) (ho : ∀ i, (pnth l i).Ok) (hn : len l ≤ 100000) :
    Calls Tryz.prog 30 #[.slice a (len l) cap] w (ElemsIs l w) := by
  have HT := Lib.hid ht
  have HC := Lib.hid hc
  have HO := Lib.hid ho
  have HN := Lib.hid hn
  clear ht hc ho hn
  rcases checkOf_two l with hk | hk
  · have HK := Lib.hid hk
    have HE : Hid (elemsP l = elP15 l) := Lib.hid (if_pos hk)
    obtain ⟨cs, hmk, hcs⟩ := make_szn (len l) HN.out
    have HCS := Lib.hid hcs
    have HMK := Lib.hid hmk
    clear hcs hmk hk
    go_enter Tryz.func30, Tryz.ntmps30
    go_wp2_with fail
    refine (check_any a cap l w (by have := HN.out; omega) HC.out HO.out).mono ?_
    rintro e w1 ⟨rfl, hb⟩
    have HB := Lib.hid hb
    rw [HK.out]
    clear hb
    have mk := HMK.out
    go_wp2_with fail
    go_loopg [20] (len l) (fun gg i wr => ∃ m : Nat, gg + m = len l ∧ i = .int .i64 (m : Nat) ∧ Hid (PePr l w wr w1.heap.size m))
    case atStart => exact ⟨0, rfl, rfl, Lib.hid (PePr.start HN.out HB.out HCS.out)⟩
    case round =>
      obtain ⟨m, hm, rfl, HS⟩ := hrel
      by_cases hlt : m < len l
      · obtain ⟨b, off, rfl, ⟨e0, e1, e2, e3, e4⟩⟩ := (HC.out.below HS.out.b) m hlt
        have HRO := Lib.hid (HO.out m)
        have HRM := Lib.hid (check_may HK.out hlt)
        have HRS : Hid ((pnth l m).root.size = 32) := Lib.hid (by have := HRM.out; rw [pmay_eq] at this; exact of_decide_eq_true this)
        obtain ⟨r, hr⟩ : ∃ r, pnth l m = r := ⟨_, rfl⟩
        rw [hr] at e0 e1 e2 e3 e4 HRO HRM HRS
        have HRE := Lib.hid hr
        have b0 : (m : Int) < len l := by omega
        have HLT := Lib.hid hlt
        have HSB := Lib.hid (HS.out.b)
        have HTR := Lib.hid (HT.out.below HS.out.b)
        clear hr hlt
        go_wp2_with fail
        refine (wpart2_any B r.root r.wt r.first r.life r.keys _ (HTR.out.below (balloc (Below.refl _ _) _)).p (by rw [HRS.out]; decide) ⟨HRO.out.wt0, by have := HRO.out.wt1; omega⟩ ⟨HRO.out.fi0, by have := HRO.out.fi1; omega⟩ ⟨HRO.out.li0, by have := HRO.out.li1; omega⟩ ⟨HRO.out.ke0, by have := HRO.out.ke1; omega⟩ (fun h => Nat.le_trans (partSz h) (by decide))).mono ?_
        rintro e w2 ⟨rfl, hb⟩
        rw [show allMay (partSpecs r.root r.wt r.first r.life r.keys) = true from HRM.out, if_pos rfl]
        have HB2 : Hid (Below w.heap.size w w2) := Lib.hid (bnext (balloc HSB.out _) hb)
        have HP2 : Hid (PePr l w w2 w1.heap.size m) := Lib.hid ⟨HB2.out, own_below (HS.out.o.alloc _) hb⟩
        clear hb e0 e1 e2 e3 e4
        obtain ⟨g', hg', _, c0, fz⟩ := own_at HP2.out.o m HLT.out
        cases hg'
        have HNN := HN.out
        go_wp2
        have HP3 := Lib.hid (HP2.out.put HLT.out)
        have HB3 : Hid (Below w.heap.size w (w2.setCell ⟨w1.heap.size, m, none⟩ (.string (pbs (pnth l m))))) := Lib.hid (bset HB2.out HB.out.size _)
        rw [HRE.out] at HP3 HB3
        go_roundg (gk - 1)
        case rel => exact ⟨m + 1, by omega, by go_num, Lib.hid ⟨HB3.out, HP3.out⟩⟩
        case measure => omega
      · obtain rfl : m = len l := by omega
        have b0 : ¬ ((len l : Nat) : Int) < (len l : Nat) := by omega
        have HSO := Lib.hid HS.out.o
        rw [take_lenP, Nat.sub_self, List.replicate_zero, List.append_nil] at HSO
        have HSB := Lib.hid HS.out.b
        go_wp2
        go_ret2
        exact ⟨.slice (some ⟨w1.heap.size, 0, none⟩) (len l) (len l), by rw [HK.out]; rfl, by rw [HE.out]; exact TextsAre.own HSO.out, HSB.out⟩
  · have HK := Lib.hid hk
    have HE : Hid (elemsP l = []) := Lib.hid (if_neg (by rw [hk]; decide))
    clear hk
    go_enter Tryz.func30, Tryz.ntmps30
    go_wp2_with fail
    refine (check_any a cap l w (by have := HN.out; omega) HC.out HO.out).mono ?_
    rintro e w1 ⟨rfl, hb⟩
    have HB := Lib.hid hb
    rw [HK.out]
    clear hb
    go_wp2
    go_ret2
    exact ⟨.slice none 0 0, by rw [HK.out]; rfl, by rw [HE.out]; exact TextsAre.nil _, HB.out⟩
set_option maxRecDepth 100000 in
theorem ptroot_any (B : Nat) (l : List Prt) (a : Option Addr) (cap : Nat) (w : World) (ht : PT B w) (hc : Prts w a l) (ho : ∀ i, (pnth l i).Ok) (hn : len l ≤ 65536) :
    Calls Tryz.prog 32 #[.slice a (len l) cap] w fun e w' => e = .returned (.tuple #[.string (rootP l), .int .i64 (checkOf l)]) ∧ Below w.heap.size w w' := by
  have HN := Lib.hid hn
  have HW := Lib.hid (pelements_any B l a cap w ht hc ho (by omega))
  clear ht hc ho hn
  rcases checkOf_two l with hk | hk
  · have HK := Lib.hid hk
    have HE : Hid (elemsP l = elP15 l) := Lib.hid (if_pos hk)
    have HR : Hid (rootP l = treeR (elP15 l)) := Lib.hid (if_pos hk)
    clear hk
    go_enter Tryz.func32, Tryz.ntmps32
    go_wp2_with fail
    refine HW.out.mono ?_
    rintro e w1 ⟨v, rfl, hv, hb⟩
    rw [HE.out] at hv
    obtain ⟨a9, c9, rfl, hv1, hv2, hv3⟩ := hv
    rw [HK.out]
    have HB := Lib.hid hb
    have HV := Lib.hid hv1
    clear hb hv1 hv2 hv3
    go_wp2_with fail
    refine (build_any (elP15 l) a9 c9 w1 HV.out (by rw [elP15_len]; exact HN.out) (fun i hi => Nat.le_trans (elP15_size HK.out i hi) (by decide))).mono ?_
    rintro e w2 ⟨b, rfl, hs, ht, hb⟩
    have HB2 := Lib.hid (bnext HB.out hb)
    have HT := Lib.hid ht
    clear hs ht hb
    go_wp2_with fail
    refine (root_any (elP15 l) b w2 HT.out).mono ?_
    rintro e w3 ⟨rfl, rfl⟩
    go_wp2
    go_ret2
    exact ⟨by rw [HK.out, HR.out]; rfl, HB2.out⟩
  · have HK := Lib.hid hk
    have HR : Hid (rootP l = ⟨#[]⟩) := Lib.hid (if_neg (by rw [hk]; decide))
    clear hk
    go_enter Tryz.func32, Tryz.ntmps32
    go_wp2_with fail
    refine HW.out.mono ?_
    rintro e w1 ⟨v, rfl, hv, hb⟩
    rw [HK.out]
    have HB := Lib.hid hb
    clear hb hv
    go_wp2
    go_ret2
    exact ⟨by rw [HK.out, HR.out]; rfl, HB.out⟩
end Go.Proofs.YtpobhbdomldecaaGreatDoor
namespace Go.Proofs.YtpobhbdomldecaaGreatDoor
open Go.RowKit
set_option linter.unusedSimpArgs false
set_option linter.unusedVariables false
theorem lenP2 (l : List Prt) (m : Nat) (h : m ≤ len l) : len (elP15 (l.take m)) = m := by rw [elP15_len, len_eq, List.length_take]; rw [len_eq] at h; omega
structure PeSt (l : List Prt) (w wr : World) (v : Value) (m : Nat) : Prop where
  b : Below w.heap.size w wr
  o : wr.ownsRow w.heap.size 9 1 v (len (elP15 (l.take m))) ((elP15 (l.take m)).map Value.string)
set_option maxRecDepth 100000 in
set_option maxHeartbeats 4000000 in
theorem rpelements_any (l : List Prt) (a : Option Addr) (cap : Nat) (w : World) (hc : Prts w a l) (ho : ∀ i, (pnth l i).Ok) (hn : len l ≤ 100000) :
    Calls Tryz.prog 31 #[.slice a (len l) cap] w (ElemsIs l w) := by
  have HC := Lib.hid hc
  have HO := Lib.hid ho
  have HN := Lib.hid hn
  clear hc ho hn
  obtain ⟨i0, hi, hz0, hz1, hz2⟩ := info_parts info_str
  have HZ := Lib.hid hz0
  clear hz0
  rcases checkOf_two l with hk | hk
  · have HK := Lib.hid hk
    have HE : Hid (elemsP l = elP15 l) := Lib.hid (if_pos hk)
    clear hk
    go_enter Tryz.func31, Tryz.ntmps31
    go_wp2_with fail
    refine (refCheck_any a cap l w (by have := HN.out; omega) HC.out HO.out).mono ?_
    rintro e w1 ⟨rfl, rfl⟩
    rw [HK.out]
    go_wp2
    go_loopg [4, 5] (len l) (fun gg v i wr => ∃ m : Nat, gg + m = len l ∧ i = .int .i64 (m : Nat) ∧ Hid (PeSt l w1 wr v m))
    case atStart => exact ⟨0, rfl, rfl, Lib.hid ⟨Below.refl _ _, World.ownsRow_nil _ _ _ _⟩⟩
    case round =>
      obtain ⟨m, hm, rfl, HS⟩ := hrel
      by_cases hlt : m < len l
      · obtain ⟨b, off, rfl, ⟨e0, e1, e2, e3, e4⟩⟩ := (HC.out.below HS.out.b) m hlt
        have HRO := Lib.hid (HO.out m)
        have HRM := Lib.hid (check_may HK.out hlt)
        have HRS : Hid ((pnth l m).root.size = 32) := Lib.hid (by have := HRM.out; rw [pmay_eq] at this; exact of_decide_eq_true this)
        obtain ⟨r, hr⟩ : ∃ r, pnth l m = r := ⟨_, rfl⟩
        rw [hr] at e0 e1 e2 e3 e4 HRO HRM HRS
        have HRE := Lib.hid hr
        have b0 : (m : Int) < len l := by omega
        have HLT := Lib.hid hlt
        have HSB := Lib.hid (HS.out.b)
        clear hr hlt
        go_wp2_with fail
        refine (rpart_any r.root r.wt r.first r.life r.keys _ (by rw [HRS.out]; decide) ⟨HRO.out.wt0, by have := HRO.out.wt1; omega⟩ ⟨HRO.out.fi0, by have := HRO.out.fi1; omega⟩ ⟨HRO.out.li0, by have := HRO.out.li1; omega⟩ ⟨HRO.out.ke0, by have := HRO.out.ke1; omega⟩).mono ?_
        rintro e w2 ⟨rfl, hb⟩
        rw [show allMay (partSpecs r.root r.wt r.first r.life r.keys) = true from HRM.out, if_pos rfl]
        have HB2 : Hid (Below w1.heap.size w1 w2) := Lib.hid (bnext HSB.out hb)
        have HO2 := Lib.hid (own_below HS.out.o hb)
        clear hb e0 e1 e2 e3 e4
        go_wp2_with (at_builtin; refine wpList_append_own _ rfl _ _ 36 rfl w1.heap.size 9 i0 (.string ⟨#[]⟩) 1 16 Tryz.underlying36 hi HZ.out hz1 hz2 rfl (by decide) _ _ _ rfl (HO2.out.alloc _) ⟨w2.heap.size, 0, none⟩ 1 1 [.string (pbs r)] rfl rfl ?c1 ?c2 ?c3 ?c4 ?c5 ?_)
        case c1 => exact World.news_of_block (alloc_new_at _ rfl)
        case c2 => intro u hu; simp at hu; subst hu; rfl
        case c3 => unfold maxLen; have := HN.out; have := lenP2 l m (Nat.le_of_lt HLT.out); have := HLT.out; omega
        case c4 => have := HN.out; have := lenP2 l m (Nat.le_of_lt HLT.out); have := HLT.out; omega
        case c5 => have := HB2.out.size; simp; omega
        intro v' w3 hown' hgrow _
        have HB3 : Hid (Below w1.heap.size w1 w3) := Lib.hid (grownBy_below (balloc HB2.out _) hgrow (fun k hk => (HO2.out.lt k hk).1))
        have HO3 : Hid (w3.ownsRow w1.heap.size 9 1 v' (len (elP15 (l.take (m + 1)))) ((elP15 (l.take (m + 1))).map Value.string)) := Lib.hid (by
          rw [elP15_snoc l m HLT.out, HRE.out, List.map_append, len_appH, show len [pbs r] = 1 from rfl]; exact hown')
        clear hown' hgrow
        have HNN := HN.out
        go_wp2
        go_roundg (gk - 1)
        case rel => exact ⟨m + 1, by omega, by go_num, Lib.hid ⟨HB3.out, HO3.out⟩⟩
        case measure => omega
      · obtain rfl : m = len l := by omega
        have b0 : ¬ ((len l : Nat) : Int) < (len l : Nat) := by omega
        have HSO := Lib.hid HS.out.o
        rw [take_lenP] at HSO
        have HSB := Lib.hid HS.out.b
        go_wp2
        go_ret2
        refine ⟨_, ?_, by rw [HE.out]; exact TextsAre.own HSO.out, HSB.out⟩
        rw [HK.out]; rfl
  · have HK := Lib.hid hk
    have HE : Hid (elemsP l = []) := Lib.hid (if_neg (by rw [hk]; decide))
    clear hk
    go_enter Tryz.func31, Tryz.ntmps31
    go_wp2_with fail
    refine (refCheck_any a cap l w (by have := HN.out; omega) HC.out HO.out).mono ?_
    rintro e w1 ⟨rfl, rfl⟩
    rw [HK.out]
    go_wp2
    go_ret2
    exact ⟨.slice none 0 0, by rw [HK.out]; rfl, by rw [HE.out]; exact TextsAre.nil _, Below.refl _ _⟩
set_option maxRecDepth 100000 in
theorem rptroot_any (l : List Prt) (a : Option Addr) (cap : Nat) (w : World) (hc : Prts w a l) (ho : ∀ i, (pnth l i).Ok) (hn : len l ≤ 65536) :
    Calls Tryz.prog 33 #[.slice a (len l) cap] w fun e w' => e = .returned (.tuple #[.string (rootP l), .int .i64 (checkOf l)]) ∧ Below w.heap.size w w' := by
  have HN := Lib.hid hn
  have HW := Lib.hid (rpelements_any l a cap w hc ho (by omega))
  clear hc ho hn
  rcases checkOf_two l with hk | hk
  · have HK := Lib.hid hk
    have HE : Hid (elemsP l = elP15 l) := Lib.hid (if_pos hk)
    have HR : Hid (rootP l = treeR (elP15 l)) := Lib.hid (if_pos hk)
    have HL : Hid (len (elP15 l) ≤ 65536) := Lib.hid (by rw [elP15_len]; exact HN.out)
    clear hk
    go_enter Tryz.func33, Tryz.ntmps33
    go_wp2_with fail
    refine HW.out.mono ?_
    rintro e w1 ⟨v, rfl, hv, hb⟩
    rw [HE.out] at hv
    obtain ⟨a9, c9, rfl, hv1, hv2, hv3⟩ := hv
    rw [HK.out]
    have HB := Lib.hid hb
    have HV := Lib.hid (And.intro hv1 hv3)
    clear hb hv1 hv2 hv3
    go_wp2_with fail
    refine (rbuild9_any (elP15 l) a9 c9 w1 HV.out.1 HL.out HV.out.2).mono ?_
    rintro e w2 ⟨b, rfl, ht, hb⟩
    have HB2 := Lib.hid (bnext HB.out hb)
    have HT := Lib.hid ht
    clear ht hb
    go_wp2_with fail
    refine (rroot9_any (elP15 l) b w2 HL.out (fun i hi => Nat.le_trans (elP15_size HK.out i hi) (by decide)) HT.out).mono ?_
    rintro e w3 ⟨rfl, hb⟩
    have HB3 := Lib.hid (bnext HB2.out hb)
    clear hb
    go_wp2
    go_ret2
    exact ⟨by rw [HK.out, HR.out]; rfl, HB3.out⟩
  · have HK := Lib.hid hk
    have HR : Hid (rootP l = ⟨#[]⟩) := Lib.hid (if_neg (by rw [hk]; decide))
    clear hk
    go_enter Tryz.func33, Tryz.ntmps33
    go_wp2_with fail
    refine HW.out.mono ?_
    rintro e w1 ⟨v, rfl, hv, hb⟩
    rw [HK.out]
    have HB := Lib.hid hb
    clear hb hv
    go_wp2
    go_ret2
    exact ⟨by rw [HK.out, HR.out]; rfl, HB.out⟩
end Go.Proofs.YtpobhbdomldecaaGreatDoor
namespace Go.Proofs.YtpobhbdomldecaaGreatDoor
open Go.RowKit
set_option linter.unusedSimpArgs false
set_option linter.unusedVariables false
set_option maxRecDepth 100000 in
set_option maxHeartbeats 4000000 in
theorem same15_yes (a b : Option Addr) (c d : Nat) (l : List ByteArray) (w : World) (ha : Txts w a l) (hb : Txts w b l) (hn : len l ≤ 9223372036854775807) :
    Calls Tryz.prog 38 #[.slice a (len l) c, .slice b (len l) d] w fun e w' => e = .returned (.bool true) ∧ Below w.heap.size w w' := by
  have HA := Lib.hid ha
  have HB := Lib.hid hb
  clear ha hb
  go_enter Tryz.func38, Tryz.ntmps38
  go_wp2
  go_loopg [5] (len l) (fun g i wr => ∃ m : Nat, g + m = len l ∧ i = .int .i64 m ∧ Hid (Below w.heap.size w wr))
  case atStart => exact ⟨0, rfl, rfl, Below.refl _ _⟩
  case round =>
    obtain ⟨m, hm, rfl, HW⟩ := hrel
    by_cases hlt : m < len l
    · have i1 : (m : Int) < len l := by omega
      obtain ⟨ga, oa, rfl, hca⟩ := (HA.out.below HW.out) m hlt
      obtain ⟨gb, ob, rfl, hcb⟩ := (HB.out.below HW.out) m hlt
      have c0 : wr.cell? ⟨ga, oa + m, none⟩ = some (.string (tth l m)) := hca
      have c1 : wr.cell? ⟨gb, ob + m, none⟩ = some (.string (tth l m)) := hcb
      clear hca hcb
      generalize tth l m = x at c0 c1
      go_upto_region 6 with fail
      go_quiet (fail)
      have HW2 := Lib.hid (bdrew HW.out)
      go_wp2
      go_roundg (len l - (m + 1))
      case rel => exact ⟨m + 1, by omega, by go_num, Lib.hid (bdrewN HW.out _)⟩
      case measure => omega
    · obtain rfl : m = len l := by omega
      have i1 : ¬ ((len l : Nat) : Int) < len l := by omega
      go_wp2
      go_ret
      exact ⟨rfl, HW.out⟩
set_option maxRecDepth 100000 in
set_option maxHeartbeats 4000000 in
theorem plists_law (B : Nat) (l : List Prt) (a : Option Addr) (cap : Nat) (w : World) (ht : PT B w) (hlen : len l ≤ 9223372036854775807) (hc : Prts w a l) (hok : ∀ i, (pnth l i).Ok) :
    Calls Tryz.prog 6 #[.slice a (len l) cap] w fun e w' => e = .returned (.bool true) ∧ Below w.heap.size w w' := by
  have HC := Lib.hid hc
  have HO0 := Lib.hid hok
  have HT := Lib.hid ht
  clear hc hok ht
  go_enter Tryz.func6, Tryz.ntmps6
  go_wp2_with fail
  refine (short_any a cap l _ hlen HC.out).mono ?_
  rintro e w2 ⟨v, rfl, hown, hb2⟩
  obtain ⟨L, hLd⟩ : ∃ L, L = shortOf l := ⟨_, rfl⟩
  have HO := Lib.hid (shortOf_ok HO0.out)
  have hl30 := shortOf_len l
  rw [← hLd] at hown HO hl30
  have B2 := Lib.hid hb2
  obtain ⟨la, lc, rfl, hP, hlc⟩ := Prts.own hown
  have HP := Lib.hid hP
  have HL := Lib.hid hl30
  clear hown hb2 hLd hP HO0 HC hlc hlen hl30
  go_wp2_with fail
  refine (pelements_any B L la lc w2 (HT.out.below B2.out) HP.out HO.out (by have := HL.out; omega)).mono ?_
  rintro e w3 ⟨v1, rfl, hv1, hb⟩
  have B3 := Lib.hid (bnext B2.out hb)
  have HP3 := Lib.hid (HP.out.below hb)
  obtain ⟨a1, c1, rfl, hv1, -, -⟩ := hv1
  have HV1 := Lib.hid hv1
  clear hb hv1
  go_wp2_with fail
  refine (rpelements_any L la lc w3 HP3.out HO.out (by have := HL.out; omega)).mono ?_
  rintro e w4 ⟨v2, rfl, hv2, hb⟩
  have B4 := Lib.hid (bnext B3.out hb)
  have HP4 := Lib.hid (HP3.out.below hb)
  have HV4 := Lib.hid (HV1.out.below hb)
  obtain ⟨a2, c2, rfl, hv2, -, -⟩ := hv2
  have HV2 := Lib.hid hv2
  clear hb hv2
  go_wp2_with fail
  refine (ptroot_any B L la lc w4 (HT.out.below B4.out) HP4.out HO.out (by have := HL.out; omega)).mono ?_
  rintro e w5 ⟨rfl, hb⟩
  have B5 := Lib.hid (bnext B4.out hb)
  have HP5 := Lib.hid (HP4.out.below hb)
  have HV5 := Lib.hid (And.intro (HV4.out.below hb) (HV2.out.below hb))
  clear hb
  obtain ⟨R, hR⟩ : ∃ R, rootP L = R := ⟨_, rfl⟩
  rw [hR]
  go_wp2_with fail
  refine (rptroot_any L la lc w5 HP5.out HO.out (by have := HL.out; omega)).mono ?_
  rintro e w6 ⟨rfl, hb⟩
  have B6 := Lib.hid (bnext B5.out hb)
  have HP6 := Lib.hid (HP5.out.below hb)
  have HV6 := Lib.hid (And.intro (HV5.out.1.below hb) (HV5.out.2.below hb))
  rw [hR]
  clear hb hR
  have HEL : Hid (len (elemsP L) ≤ 30) := Lib.hid (by
    unfold elemsP
    split
    · rw [elP15_len]; exact HL.out
    · simp [len])
  obtain ⟨E, hE⟩ : ∃ E, elemsP L = E := ⟨_, rfl⟩
  rw [hE] at HV6 HEL ⊢
  clear hE
  have HCK := Lib.hid (fun w9 hp => check_any la lc L w9 (by have := HL.out; omega) hp HO.out)
  have HRC := Lib.hid (fun w9 hp => refCheck_any la lc L w9 (by have := HL.out; omega) hp HO.out)
  have HTO := Lib.hid (fun w9 hp => total_any la lc L w9 (by have := HL.out; omega) hp HO.out)
  have HRT := Lib.hid (fun w9 hp => refTotal_any la lc L w9 (by have := HL.out; omega) hp HO.out)
  obtain ⟨K, hK⟩ : ∃ K, checkOf L = K := ⟨_, rfl⟩
  obtain ⟨T, hT⟩ : ∃ T, totalOf L = T := ⟨_, rfl⟩
  rw [hK] at HCK HRC ⊢
  rw [hT] at HTO HRT
  clear hK hT
  go_wp2_with fail
  refine (HCK.out w6 HP6.out).mono ?_
  rintro e w7 ⟨rfl, hb⟩
  have B7 := Lib.hid (bnext B6.out hb)
  have HP7 := Lib.hid (HP6.out.below hb)
  have HV7 := Lib.hid (And.intro (HV6.out.1.below hb) (HV6.out.2.below hb))
  clear hb
  go_wp2_with fail
  refine (HRC.out w7 HP7.out).mono ?_
  rintro e w8 ⟨rfl, rfl⟩
  go_wp2_with fail
  refine (HTO.out w8 HP7.out).mono ?_
  rintro e w9 ⟨rfl, hb⟩
  have B9 := Lib.hid (bnext B7.out hb)
  have HP9 := Lib.hid (HP7.out.below hb)
  have HV9 := Lib.hid (And.intro (HV7.out.1.below hb) (HV7.out.2.below hb))
  clear hb
  go_wp2_with fail
  refine (HRT.out w9 HP9.out).mono ?_
  rintro e wA ⟨rfl, rfl⟩
  go_wp2_with fail
  refine (same15_yes a1 a2 c1 c2 E wA HV9.out.1 HV9.out.2 (by have := HEL.out; omega)).mono ?_
  rintro e wB ⟨rfl, hb⟩
  have BB := Lib.hid (bnext B9.out hb)
  clear hb
  go_wp2_with fail
  refine (works15_any wB).mono ?_
  rintro e wC ⟨rfl, hb⟩
  have BC := Lib.hid (bnext BB.out hb)
  clear hb
  go_wp2
  go_ret
  exact ⟨rfl, BC.out⟩
end Go.Proofs.YtpobhbdomldecaaGreatDoor
namespace Go.Proofs.YtpobhbdomldecaaGreatDoor
set_option linter.unusedSimpArgs false
set_option linter.unusedVariables false
open Go.RowKit Go.ChangeShapes Go.WideShapes Go.ChangeAt Go.Deep
section
variable {H : Type} {enc : TypeId × Value → H} {P : Program} {w : World}
theorem below_trodAll (hl : laidOutB P = true) {W W' : World} (hb : Below W.heap.size W W') : ∀ {ts : List TypeId} {vs : List Value} {ds : List (DataW H)} {ps : List MemPlace},
    (∀ t ∈ ts, P.readableRec t = true ∧ t < P.types.size) → DataW.TrodAll enc P W 0 (fun _ => true) true ts vs ds ps → DataW.TrodAll enc P W' 0 (fun b => decide (b < W.heap.size)) true ts vs ds ps
  | [], vs, ds, ps, _, h => by
    obtain ⟨rfl, rfl, rfl⟩ := trodAll_nil h
    exact trodAll_mk0
  | t :: ts, vs, ds, ps, ht, h => by
    obtain ⟨v, vs', d, ds', p, q, rfl, rfl, rfl, h0, r0⟩ := trodAll_cons h
    have lt0 : ∀ x ∈ p, x.block < W.heap.size := by obtain ⟨m, hm⟩ := h0; exact DataW.trod_lt m _ _ _ hm
    exact trodAll_cons_mk (Below.trod hl (ht t (List.mem_cons_self ..)).1 (ht t (List.mem_cons_self ..)).2 h0 hb lt0) (below_trodAll hl hb (fun t' h' => ht t' (List.mem_cons_of_mem _ h')) r0)
theorem list_of {α : Type} {n : Nat} {p : Nat → α → Prop} (h : ∀ i, i < n → ∃ x, p i x) : ∃ l : List α, l.length = n ∧ ∀ i (hi : i < l.length), p i l[i] := by
  induction n with
  | zero => exact ⟨[], rfl, fun i hi => by simp at hi⟩
  | succ n ih =>
    obtain ⟨l, hl, hp⟩ := ih (fun i hi => h i (by omega))
    obtain ⟨x, hx⟩ := h n (by omega)
    refine ⟨l ++ [x], by simp [hl], fun i hi => ?_⟩
    rcases Nat.lt_or_ge i l.length with h' | h'
    · rw [List.getElem_append_left h']; exact hp i h'
    · have e : i = l.length := by simp at hi; omega
      subst e
      simp only [List.getElem_append_right (Nat.le_refl _), Nat.sub_self, List.getElem_cons_zero]
      rw [hl]; exact hx
theorem open_elems {α : Type} {t e : TypeId} (k : Nat) (cells : α → List Value) (ok : α → Prop) (ht : P.underlying t = some (.slice e)) (hC : P.cellsOf e = k) (hk : 0 < k)
    (hel : ∀ n cs' y, cs'.length = k → DataW.trod enc P w 0 (fun _ => true) true n e cs' = some y → ∃ x, cs' = cells x ∧ ok x)
    {v : Value} {d : DataW H} {p : List MemPlace} {r : Reach} {base : Nat} (hv : Value.okWide P w r base t v) (h : DataW.Trod enc P w 0 (fun _ => true) true t v d p) :
    ∃ a c, ∃ l : List α, v = .slice a (len l) c ∧ len l ≤ c ∧ c ≤ maxLen ∧ ∀ i (hi : i < l.length), ok l[i] ∧ ∃ b off, a = some ⟨b, off, none⟩ ∧ ∀ j, j < k → w.cell? ⟨b, off + i * k + j, none⟩ = (cells l[i])[j]? := by
  obtain ⟨a0, n0, c0, rfl⟩ := okWide_slice ht hv
  obtain ⟨fuel, hf⟩ := h
  rcases open_slice ht hf with ⟨hcs, _⟩ | ⟨a, n, c, m, q, D, Pl, hcs, _, hl, hm, hmm, _, hi⟩
  · simp [Value.cells] at hcs
    obtain ⟨rfl, rfl, rfl⟩ := hcs
    exact ⟨none, 0, [], rfl, Nat.le_refl _, Nat.zero_le _, fun i hi => by simp at hi⟩
  · simp [Value.cells] at hcs
    obtain ⟨rfl, rfl, rfl⟩ := hcs
    have hnm : n0 ≤ m := by rw [hmm]; simp; exact hl
    have each : ∀ i, i < n0 → ∃ x, ok x ∧ ∃ b off, some a = some ⟨b, off, none⟩ ∧ ∀ j, j < k → w.cell? ⟨b, off + i * k + j, none⟩ = (cells x)[j]? := by
      intro i hin
      obtain ⟨cs', hc, htr⟩ := hi i (by omega)
      rw [hC] at hc
      obtain ⟨_, hcl, hat⟩ := World.cells?_some hc
      obtain ⟨x, rfl, hx⟩ := hel q cs' _ hcl htr
      obtain ⟨b, off, spot⟩ := a
      have hspot : spot = none := by
        obtain ⟨cs0, hc0, htr0⟩ := hi 0 (by omega)
        rw [hC] at hc0
        obtain ⟨_, hcl0, hat0⟩ := World.cells?_some hc0
        have h1 := hat0 0 hk
        have h2 : cs0[0]? = some (cs0[0]'(by omega)) := List.getElem?_eq_getElem (by omega)
        rw [h2] at h1
        simpa [Addr.add] using World.cell?_spot h1
      subst hspot
      refine ⟨x, hx, b, off, rfl, fun j hj => ?_⟩
      have h1 := hat j hj
      rw [Go.Deep.add_add] at h1
      have e : (⟨b, off, none⟩ : Addr).add (i * k + j) = ⟨b, off + i * k + j, none⟩ := by
        unfold Addr.add; split
        · rename_i h0; simp <;> omega
        · simp [Nat.add_assoc]
      rw [e] at h1; exact h1
    obtain ⟨l, hll, hp⟩ := list_of each
    subst hll
    exact ⟨some a, c0, l, rfl, hl, hm, hp⟩
theorem cell_read {n : Nat} {e : TypeId} {k : IntKind} {v : Value} {y : DataW H × List MemPlace} (he : P.underlying e = some (.int k)) (h : DataW.trod enc P w 0 (fun _ => true) true n e [v] = some y) : ∃ x, v = .int k x ∧ (Lit.int k x).wf = true := by
  obtain ⟨x, hx, _, hw⟩ := DataW.trod_int he h
  exact ⟨x, by simpa using hx, hw⟩
theorem wf_u64 {x : Int} (h : (Lit.int .u64 x).wf = true) : 0 ≤ x ∧ x < 18446744073709551616 := by
  simp [Lit.wf, IntKind.min, IntKind.max, IntKind.bits, IntKind.signed] at h; omega
end
end Go.Proofs.YtpobhbdomldecaaGreatDoor
namespace Go.Proofs.YtpobhbdomldecaaGreatDoor
set_option linter.unusedSimpArgs false
set_option linter.unusedVariables false
open Go.RowKit Go.ChangeShapes Go.WideShapes Go.ChangeAt
theorem own : ownKnob Tryz.prog.godebug = none := by kernel_rfl
theorem laidOut : laidOutB Tryz.prog = true := by kernel_rfl
end Go.Proofs.YtpobhbdomldecaaGreatDoor
namespace Go.Proofs.YtpobhbdomldecaaGreatDoor
set_option linter.unusedSimpArgs false
set_option linter.unusedVariables false
open Go.RowKit Go.ChangeShapes Go.WideShapes Go.ChangeAt
section
variable {P : Program} {H : Type} {enc : TypeId × Value → H} {w : World}
theorem str_read {n : Nat} {e : TypeId} {v : Value} {y : DataW H × List MemPlace} (he : P.underlying e = some .string) (h : DataW.trod enc P w 0 (fun _ => true) true n e [v] = some y) : ∃ s : ByteArray, v = .string s ∧ s.size ≤ maxLen := by
  obtain ⟨s, hx, _, hw⟩ := DataW.trod_string he h
  exact ⟨s, by simpa using hx, hw⟩
end
set_option maxRecDepth 100000 in
theorem open_prts {H : Type} {enc : TypeId × Value → H} {w : World} {v : Value} {d : DataW H} {p : List MemPlace} {r : Reach} {base : Nat} (hv : Value.okWide Tryz.prog w r base 43 v) (h : DataW.Trod enc Tryz.prog w 0 (fun _ => true) true 43 v d p) :
    ∃ a c, ∃ l : List Prt, v = .slice a (len l) c ∧ len l ≤ c ∧ c ≤ maxLen ∧ Prts w a l ∧ ∀ i, (pnth l i).Ok := by
  obtain ⟨a, c, l, rfl, h1, h2, h3⟩ := open_elems 5 Prt.cells Prt.Ok Tryz.underlying43 (by kernel_rfl) (by decide) (fun n cs' y hl hy => by
    match cs', hl with
    | [v0, v1, v2, v3, v4], _ =>
      obtain ⟨xs, m, _, _, _, hxl, hx⟩ := DataW.trod_struct Tryz.underlying53 hy
      have cu : Tryz.prog.cellsOf 23 = 1 := by kernel_rfl
      have cs : Tryz.prog.cellsOf 9 = 1 := by kernel_rfl
      have hxl' : xs.length = 5 := hxl
      have h0 : DataW.trod enc Tryz.prog w 0 (fun _ => true) true m 9 (([v0, v1, v2, v3, v4].drop 0).take (Tryz.prog.cellsOf 9)) = xs[0]? := hx 0 _ rfl
      have h1 : DataW.trod enc Tryz.prog w 0 (fun _ => true) true m 23 (([v0, v1, v2, v3, v4].drop 1).take (Tryz.prog.cellsOf 23)) = xs[1]? := hx 1 _ rfl
      have h2 : DataW.trod enc Tryz.prog w 0 (fun _ => true) true m 23 (([v0, v1, v2, v3, v4].drop 2).take (Tryz.prog.cellsOf 23)) = xs[2]? := hx 2 _ rfl
      have h3 : DataW.trod enc Tryz.prog w 0 (fun _ => true) true m 23 (([v0, v1, v2, v3, v4].drop 3).take (Tryz.prog.cellsOf 23)) = xs[3]? := hx 3 _ rfl
      have h4 : DataW.trod enc Tryz.prog w 0 (fun _ => true) true m 23 (([v0, v1, v2, v3, v4].drop 4).take (Tryz.prog.cellsOf 23)) = xs[4]? := hx 4 _ rfl
      rw [cs] at h0
      rw [cu] at h1 h2 h3 h4
      obtain ⟨x0, rfl, w0⟩ := str_read Tryz.underlying9 (h0.trans (List.getElem?_eq_getElem (show 0 < xs.length by omega)))
      obtain ⟨x1, rfl, w1⟩ := cell_read Tryz.underlying23 (h1.trans (List.getElem?_eq_getElem (show 1 < xs.length by omega)))
      obtain ⟨x2, rfl, w2⟩ := cell_read Tryz.underlying23 (h2.trans (List.getElem?_eq_getElem (show 2 < xs.length by omega)))
      obtain ⟨x3, rfl, w3⟩ := cell_read Tryz.underlying23 (h3.trans (List.getElem?_eq_getElem (show 3 < xs.length by omega)))
      obtain ⟨x4, rfl, w4⟩ := cell_read Tryz.underlying23 (h4.trans (List.getElem?_eq_getElem (show 4 < xs.length by omega)))
      exact ⟨⟨x0, x1, x2, x3, x4⟩, rfl, Prt.Ok.mk (wf_u64 w1).1 (wf_u64 w1).2 (wf_u64 w2).1 (wf_u64 w2).2 (wf_u64 w3).1 (wf_u64 w3).2 (wf_u64 w4).1 (wf_u64 w4).2⟩) hv h
  refine ⟨a, c, l, rfl, h1, h2, fun i hi => ?_, fun i => ?_⟩
  · obtain ⟨_, b, off, e1, e2⟩ := h3 i hi
    rw [pnth_eq l i hi]
    exact ⟨b, off, e1, by have := e2 0 (by decide); rwa [Nat.add_zero] at this, e2 1 (by decide), e2 2 (by decide), e2 3 (by decide), e2 4 (by decide)⟩
  · rcases Nat.lt_or_ge i l.length with hi | hi
    · rw [pnth_eq l i hi]; exact (h3 i hi).1
    · have : pnth l i = Prt.zero := by unfold pnth; rw [List.getD_eq_getElem?_getD, List.getElem?_eq_none hi]; rfl
      rw [this]; exact Prt.zero_ok
end Go.Proofs.YtpobhbdomldecaaGreatDoor
namespace Go.Proofs.YtpobhbdomldecaaGreatDoor
set_option linter.unusedSimpArgs false
set_option linter.unusedVariables false
open Go.RowKit Go.ChangeShapes Go.WideShapes Go.ChangeAt
def rowD5 (r : PRow) : DataW Unit := .agg [.lit (.int .u64 r.below), .lit (.int .u8 r.first), .lit (.int .i64 r.size)]
set_option maxRecDepth 100000 in
theorem laid_prow {w : World} {fuel : Nat} {cs' : List Value} {r : PRow} {q : List MemPlace} (hl : cs'.length = 3) (h : DataW.trod (fun _ => ()) Tryz.prog w 0 (fun _ => true) false fuel 336 cs' = some (rowD5 r, q)) : cs' = r.cells := by
  match cs', hl with
  | [v0, v1, v2], _ =>
    obtain ⟨xs, m, _, e, _, hxl, hx⟩ := DataW.trod_struct Tryz.underlying336 h
    have cu : Tryz.prog.cellsOf 5 = 1 := by kernel_rfl
    have ci : Tryz.prog.cellsOf 3 = 1 := by kernel_rfl
    have cq : Tryz.prog.cellsOf 23 = 1 := by kernel_rfl
    have hxl' : xs.length = 3 := hxl
    have h0 : DataW.trod (fun _ => ()) Tryz.prog w 0 (fun _ => true) false m 23 (([v0, v1, v2].drop 0).take (Tryz.prog.cellsOf 23)) = xs[0]? := hx 0 _ rfl
    have h1 : DataW.trod (fun _ => ()) Tryz.prog w 0 (fun _ => true) false m 5 (([v0, v1, v2].drop 1).take (Tryz.prog.cellsOf 5)) = xs[1]? := hx 1 _ rfl
    have h2 : DataW.trod (fun _ => ()) Tryz.prog w 0 (fun _ => true) false m 3 (([v0, v1, v2].drop 2).take (Tryz.prog.cellsOf 3)) = xs[2]? := hx 2 _ rfl
    rw [cq] at h0
    rw [cu] at h1
    rw [ci] at h2
    match xs, hxl' with
    | [x0, x1, x2], _ =>
      obtain ⟨n0, e0, y0, _⟩ := DataW.trod_int Tryz.underlying23 (show DataW.trod (fun _ => ()) Tryz.prog w 0 (fun _ => true) false m 23 [v0] = some x0 from h0)
      obtain ⟨n1, e1, y1, _⟩ := DataW.trod_int Tryz.underlying5 (show DataW.trod (fun _ => ()) Tryz.prog w 0 (fun _ => true) false m 5 [v1] = some x1 from h1)
      obtain ⟨n2, e2, y2, _⟩ := DataW.trod_int Tryz.underlying3 (show DataW.trod (fun _ => ()) Tryz.prog w 0 (fun _ => true) false m 3 [v2] = some x2 from h2)
      subst y0 y1 y2
      simp [rowD5] at e e0 e1 e2
      obtain ⟨⟨a0, a1, a2⟩, _⟩ := e
      subst e0 e1 e2
      unfold PRow.cells
      rw [a0, a1, a2]
set_option maxRecDepth 100000 in
theorem laid_prows {w : World} {fuel : Nat} {cs : List Value} {l : List PRow} {p : List MemPlace} (h : DataW.trod (fun _ => ()) Tryz.prog w 0 (fun _ => true) false fuel 338 cs = some (.slice (l.map rowD5) [], p)) (hl : 0 < len l) :
    ∃ tb tq rc, cs = [.slice (some ⟨tb, tq, none⟩) (len l) rc] ∧ PRows w (some ⟨tb, tq, none⟩) l := by
  have hC : Tryz.prog.cellsOf 336 = 3 := by kernel_rfl
  rcases Go.Deep.open_slice Tryz.underlying338 h with ⟨_, hx⟩ | ⟨a, n, c, m, q, D, Pl, hcs, _, hln, hm, hmm, hx, hi⟩
  · simp at hx
  · simp only [Prod.mk.injEq, DataW.slice.injEq] at hx
    obtain ⟨⟨hD, _⟩, _⟩ := hx
    have hn : len l = n := by have := congrArg List.length hD; simpa [len] using this
    have hnm : n ≤ m := by rw [hmm]; simp; exact hln
    have each : ∀ i, i < len l → ∃ b off, a = ⟨b, off, none⟩ ∧ PRowAt w b (off + i * 3) (prth l i) := fun i hil => by
      obtain ⟨cs', hc, htr⟩ := hi i (by omega)
      rw [hC] at hc
      obtain ⟨_, hcl, hat⟩ := World.cells?_some hc
      have hDi : D i = rowD5 (prth l i) := by
        have h1 : (l.map rowD5)[i]? = ((List.range n).map D)[i]? := by rw [hD]
        have hil' : i < l.length := hil
        rw [List.getElem?_map, List.getElem?_map, List.getElem?_eq_getElem hil', List.getElem?_range (by omega)] at h1
        rw [prth_eq l i hil]
        exact (Option.some.inj h1).symm
      rw [hDi] at htr
      have hcs' := laid_prow hcl htr
      obtain ⟨b, off, spot⟩ := a
      have hat0 := hat 0 (by decide)
      rw [hcs'] at hat
      have hspot : spot = none := by
        obtain ⟨cs0, hc0, htr0⟩ := hi 0 (by omega)
        rw [hC] at hc0
        obtain ⟨_, hcl0, hat0⟩ := World.cells?_some hc0
        have h1 := hat0 0 (by decide)
        have h2 : cs0[0]? = some (cs0[0]'(by omega)) := List.getElem?_eq_getElem (by omega)
        rw [h2] at h1
        simpa [Addr.add] using World.cell?_spot h1
      subst hspot
      have key : ∀ j, j < 3 → w.cell? ⟨b, off + i * 3 + j, none⟩ = (prth l i).cells[j]? := fun j hj => by
        have h1 := hat j hj
        rw [Go.Deep.add_add] at h1
        have e : (⟨b, off, none⟩ : Addr).add (i * 3 + j) = ⟨b, off + i * 3 + j, none⟩ := by
          unfold Addr.add; split
          · rename_i h0; simp <;> omega
          · simp [Nat.add_assoc]
        rw [e] at h1; exact h1
      exact ⟨b, off, rfl, key 0 (by decide), key 1 (by decide), key 2 (by decide)⟩
    obtain ⟨b, off, rfl, _⟩ := each 0 hl
    refine ⟨b, off, c, by rw [hn]; exact hcs, fun i hil => ?_⟩
    obtain ⟨b', off', e, hR⟩ := each i hil
    cases e
    exact ⟨b, off, rfl, hR⟩
def tabD5 : DataW Unit := .agg ([0, 1, 2, 3, 4].map fun k => .slice ((hrowsP k).map rowD5) [])
set_option maxRecDepth 100000 in
theorem ptab_of {W : World} {g : Nat} {cs : Array Value} {fuel : Nat} {p : List MemPlace} (hgg : g = 5) (hg : Tryz.prog.globalNamed "sextant/pack.rows" = some g) (hv : W.var? Tryz.prog "sextant/pack.rows" = some cs)
    (h : DataW.trod (fun _ => ()) Tryz.prog W 0 (fun _ => true) false fuel 339 cs.toList = some (tabD5, p)) : PTab W.heap.size W := by
  obtain ⟨xs, m, _, e, hcl, hxl, hx⟩ := DataW.trod_array Tryz.underlying339 h
  have hC : Tryz.prog.cellsOf 338 = 1 := by kernel_rfl
  have hC5 : Tryz.prog.cellsOf 339 = 5 := by kernel_rfl
  rw [hC5] at hcl
  rw [hC] at hx
  have hd : tabD5 = .agg (xs.map (·.1)) := congrArg Prod.fst e
  unfold tabD5 at hd
  have hd2 : ([0, 1, 2, 3, 4].map fun k => (DataW.slice ((hrowsP k).map rowD5) [] : DataW Unit)) = xs.map (·.1) := by injection hd
  subst hgg
  have key : ∀ k, k < 5 → ∃ tb tq rc, cs[k]? = some (.slice (some ⟨tb, tq, none⟩) (len (hrowsP k)) rc) ∧ PRows W (some ⟨tb, tq, none⟩) (hrowsP k) := fun k hk => by
    have hxk : k < xs.length := by omega
    have h1 := hx k hk
    rw [List.getElem?_eq_getElem hxk] at h1
    have h2 : (xs[k]'hxk).1 = .slice ((hrowsP k).map rowD5) [] := by
      have h3 : (xs.map (·.1))[k]? = some (xs[k]'hxk).1 := by rw [List.getElem?_map, List.getElem?_eq_getElem hxk]; rfl
      rw [← hd2, List.getElem?_map] at h3
      have h4 : [0, 1, 2, 3, 4][k]? = some k := by
        have : k = 0 ∨ k = 1 ∨ k = 2 ∨ k = 3 ∨ k = 4 := by omega
        rcases this with rfl | rfl | rfl | rfl | rfl <;> rfl
      rw [h4] at h3
      exact (Option.some.inj h3).symm
    have h5 : DataW.trod (fun _ => ()) Tryz.prog W 0 (fun _ => true) false m 338 ((cs.toList.drop (k * 1)).take 1) = some (.slice ((hrowsP k).map rowD5) [], (xs[k]'hxk).2) := by rw [h1, ← h2]
    obtain ⟨tb, tq, rc, hcs, hr⟩ := laid_prows h5 (rowsP_pos k)
    refine ⟨tb, tq, rc, ?_, hr⟩
    have h6 : ((cs.toList.drop (k * 1)).take 1)[0]? = some (.slice (some ⟨tb, tq, none⟩) (len (hrowsP k)) rc) := by rw [hcs]; rfl
    rw [List.getElem?_take, if_pos (by decide), List.getElem?_drop] at h6
    simpa using h6
  have hlt : 5 < W.heap.size := by
    obtain ⟨tb, tq, rc, h1, h2⟩ := key 0 (by decide)
    have := World.var?_cell hg hv 0
    exact lt_of_cell (this.trans h1)
  refine ⟨hlt, Nat.le_refl _, fun k hk => ?_⟩
  obtain ⟨tb, tq, rc, h1, h2⟩ := key k hk
  refine ⟨tb, tq, rc, ?_, (World.var?_cell hg hv k).trans h1, h2⟩
  obtain ⟨b, off, e, hR⟩ := h2 0 (rowsP_pos k)
  cases e
  exact lt_of_cell hR.c0
end Go.Proofs.YtpobhbdomldecaaGreatDoor
namespace Go.Proofs.YtpobhbdomldecaaGreatDoor
set_option linter.unusedSimpArgs false
set_option linter.unusedVariables false
open Go.RowKit Go.ChangeShapes Go.WideShapes Go.ChangeAt
set_option maxRecDepth 100000 in
theorem of_laidHd {W : World} (h : laidMetH Tryz.prog Rows.headerRootsRow.laid W) : PT W.heap.size W := by
  have h' : laidMet Tryz.prog Rows.headerRootsRow.laid W := h
  obtain ⟨ps, ⟨g0, t0, cs0, f0, p0, q0, hg0, ht0, hv0, hd0, _⟩, _⟩ := h'
  obtain rfl : 5 = g0 := Option.some.inj ((show _ = some 5 by kernel_rfl).symm.trans hg0)
  obtain rfl : 339 = t0 := Option.some.inj ((show _ = some 339 by kernel_rfl).symm.trans ht0)
  exact ⟨ptab_of rfl hg0 hv0 hd0, Nat.le_refl _⟩
end Go.Proofs.YtpobhbdomldecaaGreatDoor
namespace Go.Proofs.YtpobhbdomldecaaGreatDoor.plists
set_option linter.unusedSimpArgs false
set_option linter.unusedVariables false
open Go.RowKit Go.ChangeShapes Go.WideShapes Go.ChangeAt
theorem door_met (os : Os) (args : Array Value) : laidMetH Tryz.prog Rows.partListsRow.laid ((World.doorLaid Tryz.prog 72 os).forCall (fun _ _ => 0) ⟨#[], args, []⟩).memory :=
  laidMetH_of_parts3 (fuel := 8) (laidMet_of_run' 8 (by kernel_rfl) (by kernel_rfl)) (by kernel_rfl) (by kernel_rfl)
set_option maxRecDepth 100000 in
theorem lifted (os : Os) (started : os.Started) (H : Type) (enc : TypeId × Value → H) :
    ReturnsInHanded {} Tryz.checked os 6 .any (fun w args => (Rows.partListsSpec.pre enc Tryz.prog Tryz.f6 [] false w args ∧ laidMetH Tryz.prog Rows.partListsRow.laid w) ∧ sizedMet enc Tryz.prog Tryz.f6 (OpenSpec.ofChange Rows.partListsSpec) false w args)
      (Rows.partListsSpec.post enc Tryz.prog Tryz.f6 false true false false) := by
  refine returnsInHanded_of_change_and (C := Tryz.checked) (X := fun w _ => laidMetH Tryz.prog Rows.partListsRow.laid w) (fun _ _ _ hh h => h.of_heap hh) own started (by kernel_rfl) Tryz.func6
    (ChangeSpec.witness_shaped (enc := enc) (C := Tryz.checked) (os := os) (X := fun w _ => laidMetH Tryz.prog Rows.partListsRow.laid w) false (World.doorLaid Tryz.prog 72 os) #[.slice none 0 0] 8 rfl (World.shaped_of_RefB (by kernel_rfl) (by kernel_rfl)) (by kernel_rfl) (by kernel_rfl) (by kernel_rfl) (door_met os _)) ?_
  intro W base args ds gs before hval0 hW _ _ hL _
  have hval : ∀ (j : Nat) t v, Tryz.f6.params[j]? = some t → args[j]? = some v → Value.okWide Tryz.prog W .any base t v := hval0
  have hW' := hW
  obtain ⟨p, q, hA0, hV, rfl, hfz, hnd⟩ := hW
  have hA : DataW.TrodAll enc Tryz.prog W 0 (fun _ => true) true Tryz.f6.params.toList args.toList ds p := hA0
  rw [Tryz.params6] at hA hval
  have hAA := hA
  obtain ⟨v0, vs0, d0, ds0, p0, q0, hargs, rfl, rfl, h0, r0⟩ := trodAll_cons hA
  obtain ⟨rfl, rfl, rfl⟩ := trodAll_nil r0
  obtain rfl : args = #[v0] := by cases args; simp_all
  obtain ⟨rfl, rfl⟩ := trodVars_none hV
  obtain ⟨a0, c0, l0, rfl, lc0, cm0, o0, k0⟩ := open_prts (hval 0 _ _ rfl rfl) h0
  have hT := of_laidHd (show laidMetH Tryz.prog Rows.headerRootsRow.laid W from hL)
  unfold maxLen at cm0
  clear hA0 hval0
  refine (plists_law W.heap.size l0 a0 c0 W hT (by omega) o0 k0).mono fun e W' ⟨he, bel⟩ => ?_
  subst he
  have hback := below_trodAll laidOut bel (fun t ht => ⟨by revert t; exact of_decide_eq_true (by kernel_rfl), by revert t; exact of_decide_eq_true (by kernel_rfl)⟩) hAA
  exact ⟨_, rfl, _, _, _, [], _, [], hW', trodAll_mk1 (shut_bool Tryz.underlying4 _), hback, rfl, bel.frame _, fun h => by cases h⟩
end Go.Proofs.YtpobhbdomldecaaGreatDoor.plists
