/- Parts of the proof, one behind the other. -/
import Derived.Test.YtihiaopilnjonaaGreatDoorWbaP4
import Derived.Deep.QuietTactic
import Derived.BigQuiet
import Derived.StillTailTactics
import Derived.Laws.BytesArg
import Derived.WalkMore
import Derived.Laws.Strings
import Derived.Shelf.Strings.Builder1
import Derived.Shelf.Strings.Builder2
import Derived.Shelf.Strings.BuilderF
import Derived.Shelf.Strings.BuilderK
import Derived.Shelf.Strings.Builder2Cap
import Derived.Shelf.Strings.Prefix
import Derived.Shelf.Bits.Mul64
import Derived.Shelf.Strings.Repeat
import Derived.Shelf.Strings.BuilderCap
import Derived.Test.YtihiaopilnjonaaGreatDoorProg
import Derived.ProofKit
import Derived.OpenShut
import Derived.ShutString
import Derived.ChangeOld
import Derived.Deep.Slices
import Derived.Deep.Fields
import Derived.ChangeMaps5
import Derived.WideShapes
namespace Go.Proofs.YtihiaopilnjonaaGreatDoor
open Go.RowKit
set_option linter.unusedSimpArgs false
set_option linter.unusedVariables false
theorem extB_setIn {w w1 : World} {b : Nat} (h : ExtB (some b) w w1) (o : Nat) (v : Value) : ExtB (some b) w (w1.setCell ⟨b, o, none⟩ v) :=
  ⟨h.os, h.tape, h.output, by simpa using h.size, fun i hi hn => by rw [Below.heap_setCell _ _ _ _ (fun e => hn (by rw [e]))]; exact h.block i hi hn⟩
def Up (rb : Nat) (w w' : World) : Prop := ∀ b, rb < b → b < w.heap.size → w'.heap[b]? = w.heap[b]?
theorem Tx.up {rb tb : Nat} {w w' : World} {a : Option Addr} {l : List ByteArray} (h : Tx w a l) (ho : Off rb tb a) (hu : Up rb w w') : Tx w' a l := h.keep fun b off cs e h2 => hu b (ho b off e).1 (lt_of_block h2)
theorem Ux.up {rb tb : Nat} {w w' : World} {a : Option Addr} {l : List Int} (h : Ux w a l) (ho : Off rb tb a) (hu : Up rb w w') : Ux w' a l := h.keep fun b off cs e h2 => hu b (ho b off e).1 (lt_of_block h2)
theorem RevIs.up {rb tb : Nat} {w w' : World} {r : Rev} {d : RevD} (h : RevIs rb tb w r d) (hu : Up rb w w') : RevIs rb tb w' r d :=
  ⟨h.pos, h.L, h.signed, h.idx, h.wn, h.ws.up h.wo hu, h.wo, h.pn, h.ps.up h.po hu, h.po, h.root, h.wt, h.first, h.life, h.keys⟩
theorem HoldsD.up {rb tb : Nat} {w w' : World} {v : Value} {d : DV} (h : HoldsD rb tb w v d) (hu : Up rb w w') : HoldsD rb tb w' v d := by
  cases d with
  | num n => exact h
  | flag q => exact h
  | str s => exact h
  | strs l => obtain ⟨a, c, h1, h2, h3, h4⟩ := h; exact ⟨a, c, h1, h2, h3, h4.up h3 hu⟩
  | nums l => obtain ⟨a, c, h1, h2, h3, h4⟩ := h; exact ⟨a, c, h1, h2, h3, h4.up h3 hu⟩
  | revs l =>
    obtain ⟨a, c, h1, h2, h3, rs, h4, h5, h6⟩ := h
    refine ⟨a, c, h1, h2, h3, rs, h4, fun i hi => ?_, fun i hi => (h6 i hi).up hu⟩
    obtain ⟨b, off, rfl, hc⟩ := h5 i hi
    have e : ∀ q, w'.cell? ⟨b, q, none⟩ = w.cell? ⟨b, q, none⟩ := fun q => World.cell?_of_block (w := w) (hu b (h3 b off rfl).1 (lt_of_cell hc.c0))
    obtain ⟨c0, c1, c2, c3, c4, c5, c6, c7, c8, c9, c10⟩ := hc
    exact ⟨b, off, rfl, by constructor <;> (rw [e]; assumption)⟩
theorem arr5 {cs : Array Value} (h : cs.size = 5) : ∃ u0 u1 u2 u3 u4 : Value, cs = #[u0, u1, u2, u3, u4] := by
  obtain ⟨l⟩ := cs
  match l, h with
  | [a, b, c, d, e], _ => exact ⟨a, b, c, d, e, rfl⟩
theorem arr6 {cs : Array Value} (h : cs.size = 6) : ∃ u0 u1 u2 u3 u4 u5 : Value, cs = #[u0, u1, u2, u3, u4, u5] := by
  obtain ⟨l⟩ := cs
  match l, h with
  | [a, b, c, d, e, f], _ => exact ⟨a, b, c, d, e, f, rfl⟩
theorem assert_stop (f : Nat) (w : World) : (Instr.typeAssert (.iface 193 (.agg #[.iface 127 (.pointer (some ⟨f, 0, none⟩))])) 20 193 true).run Tryz.prog w = .ok (.tuple #[.agg #[.iface 127 (.pointer (some ⟨f, 0, none⟩))], .bool true]) w := by kernel_rfl
set_option maxRecDepth 100000 in
theorem read1_frame (p q x : Value) : #[p, q] ++ ((Array.replicate 18 undef).setIfInBounds 4 x).setIfInBounds 0 x = #[p, q, x, undef, undef, undef, x, undef, undef, undef, undef, undef, undef, undef, undef, undef, undef, undef, undef, undef] := by
  simp [Array.replicate, List.replicate]
abbrev cellsPart (x : Rcd) : Array Value := #[.string (x 0).s, .int .u64 (x 1).n, .int .u64 (x 2).n, .int .u64 (x 3).n, .int .u64 (x 4).n]
abbrev zeroPart : Value := .agg #[.string ⟨#[]⟩, .int .u64 0, .int .u64 0, .int .u64 0, .int .u64 0]
def LiesPart (rb tb : Nat) (w : World) (x : Rcd) : Prop := True
theorem LiesPart.below {rb tb : Nat} {w w' : World} {x : Rcd} (h : LiesPart rb tb w x) (hb : Below w.heap.size w w') : LiesPart rb tb w' x := trivial
theorem LiesPart.chg {rb tb : Nat} {w w' : World} {x : Rcd} (h : LiesPart rb tb w x) (hb : Chg rb tb w w') : LiesPart rb tb w' x := trivial
theorem LiesPart.up {rb tb : Nat} {w w' : World} {x : Rcd} (h : LiesPart rb tb w x) (hb : Up rb w w') : LiesPart rb tb w' x := trivial
theorem part_of_rec {rb tb : Nat} {w : World} {x : Rcd} (h : RecAt rb tb 46 5 w x) (hk : Kd part0 x) : ∃ (_ : Unit), w.heap[tb]? = some (.cells (cellsPart x) 46 (0, 0)) ∧ LiesPart rb tb w x := by
  obtain ⟨cs, h1, h2, h3⟩ := h
  obtain ⟨m0, e0⟩ := hk.str (show kindD (part0 0) = _ from rfl)
  obtain ⟨u0, g0, d0⟩ := h3 0 (by decide)
  rw [e0] at d0
  simp only [HoldsD] at d0
  subst d0
  obtain ⟨m1, e1⟩ := hk.num (show kindD (part0 1) = _ from rfl)
  obtain ⟨u1, g1, d1⟩ := h3 1 (by decide)
  rw [e1] at d1
  simp only [HoldsD] at d1
  subst d1
  obtain ⟨m2, e2⟩ := hk.num (show kindD (part0 2) = _ from rfl)
  obtain ⟨u2, g2, d2⟩ := h3 2 (by decide)
  rw [e2] at d2
  simp only [HoldsD] at d2
  subst d2
  obtain ⟨m3, e3⟩ := hk.num (show kindD (part0 3) = _ from rfl)
  obtain ⟨u3, g3, d3⟩ := h3 3 (by decide)
  rw [e3] at d3
  simp only [HoldsD] at d3
  subst d3
  obtain ⟨m4, e4⟩ := hk.num (show kindD (part0 4) = _ from rfl)
  obtain ⟨u4, g4, d4⟩ := h3 4 (by decide)
  rw [e4] at d4
  simp only [HoldsD] at d4
  subst d4
  refine ⟨(), ?_, ?_⟩
  · rw [h1]; congr 2; apply Array.ext_getElem?; intro i
    match i with
    | 0 => rw [g0]; simp [e0, DV.n, DV.q, DV.s, DV.l, DV.ns, DV.rs]
    | 1 => rw [g1]; simp [e1, DV.n, DV.q, DV.s, DV.l, DV.ns, DV.rs]
    | 2 => rw [g2]; simp [e2, DV.n, DV.q, DV.s, DV.l, DV.ns, DV.rs]
    | 3 => rw [g3]; simp [e3, DV.n, DV.q, DV.s, DV.l, DV.ns, DV.rs]
    | 4 => rw [g4]; simp [e4, DV.n, DV.q, DV.s, DV.l, DV.ns, DV.rs]
    | i + 5 => rw [Array.getElem?_eq_none (by omega), Array.getElem?_eq_none (by simp)]
  · trivial
set_option maxRecDepth 100000 in
theorem read1Part_idle (p q : Value) (w : World) : CallsD Tryz.prog 121 #[p, q] .returning w fun e u' w' => e = .returned (.tuple #[]) ∧ u' = .returning ∧ w' = w := by
  refine callsD_of_wpS Tryz.func121 rfl fun c₀ cs hu => ?_
  apply wpS_seq
  apply wpS_region
  simp [wpOpsS, go_sem, recoverD, hu, Tryz.ntmps121, Exit.thenS]
  refine wpS_of_wp ?_
  obtain ⟨Q, hQ⟩ : ∃ Q : Exit → Act → World → Prop, (fun e a' w' => bodyPostS Tryz.prog Tryz.f121 c₀ cs (fun e u' w' => e = Ending.returned (.tuple #[]) ∧ u' = .returning ∧ w' = w) e a' (c₀ :: cs) w') = Q := ⟨_, rfl⟩
  rw [hQ, read1_frame]
  have HQ := Lib.hid hQ
  clear hQ
  go_wp2
  rw [← HQ.out]
  simp [bodyPostS, results, Tryz.results121]
  cases c₀; simp_all
structure AfterPart (tb eb fb : Nat) (w w' : World) : Prop where
  os : w'.os = w.os
  tape : w'.tape = w.tape
  output : w'.output = w.output
  size : w.heap.size ≤ w'.heap.size
  block : ∀ i, i < w.heap.size → i ≠ tb → i ≠ eb → w'.heap[i]? = w.heap[i]?
  th : w'.heap[tb]? = some (.cells #[.string ⟨#[]⟩, .int .u64 0, .int .u64 0, .int .u64 0, .int .u64 0] 46 (0, 0))
  er : w'.heap[eb]? = some (.cells #[.iface 127 (.pointer (some ⟨fb, 0, none⟩))] 59 (0, 0))
set_option maxRecDepth 100000 in
set_option maxHeartbeats 4000000 in
theorem read1Part_some (tb eb fb : Nat) (cs : Array Value) (w : World) (ht : w.heap[tb]? = some (.cells cs 46 (0, 0))) (hcs : ∃ u0 u1 u2 u3 u4 : Value, cs = #[u0, u1, u2, u3, u4] ) (he : w.heap[eb]? = some (.cells #[.nilIface] 59 (0, 0))) (hne : tb ≠ eb) :
    CallsD Tryz.prog 121 #[.pointer (some ⟨tb, 0, none⟩), .pointer (some ⟨eb, 0, none⟩)] (.panicking (stopC fb)) w fun e u' w' =>
      e = .returned (.tuple #[]) ∧ u' = .panicking [{ v := .iface 193 (.agg #[.iface 127 (.pointer (some ⟨fb, 0, none⟩))]), recovered := true }] ∧ AfterPart tb eb fb w w' := by
  obtain ⟨u0, u1, u2, u3, u4, rfl⟩ := hcs
  refine callsD_of_wpS Tryz.func121 rfl fun c₀ cs hu => ?_
  apply wpS_seq
  apply wpS_region
  simp [wpOpsS, go_sem, recoverD, hu, stopC, Tryz.ntmps121, Exit.thenS]
  refine wpS_of_wp ?_
  obtain ⟨Q, hQ⟩ : ∃ Q : Exit → Act → World → Prop, (fun e a' w' => bodyPostS Tryz.prog Tryz.f121 c₀ cs (fun e u' w' => e = Ending.returned (.tuple #[]) ∧ u' = .panicking [{ v := .iface 193 (.agg #[.iface 127 (.pointer (some ⟨fb, 0, none⟩))]), recovered := true }] ∧ AfterPart tb eb fb w w') e a' ({ c₀ with mode := .panicking [{ v := .iface 193 (.agg #[.iface 127 (.pointer (some ⟨fb, 0, none⟩))]), recovered := true }] } :: cs) w') = Q := ⟨_, rfl⟩
  rw [hQ, read1_frame]
  have HQ := Lib.hid hQ
  have HT := Lib.hid ht
  have HE := Lib.hid he
  clear hQ hu ht he
  have ha := assert_stop fb
  go_wp2_with fail
  obtain ⟨V, hV⟩ : ∃ V, (w.alloc (.cells #[.iface 127 (.pointer (some ⟨fb, 0, none⟩))] 193)).alloc (.cells #[.string ⟨#[]⟩, .int .u64 0, .int .u64 0, .int .u64 0, .int .u64 0] 46) = V := ⟨_, rfl⟩
  obtain ⟨sb, hsb⟩ : ∃ sb, w.heap.size = sb := ⟨_, rfl⟩
  have HV : Hid (Below w.heap.size w V) := Lib.hid (by rw [← hV]; exact balloc (balloc (Below.refl _ _) _) _)
  have hbs : V.heap[sb]? = some (.cells #[.iface 127 (.pointer (some ⟨fb, 0, none⟩))] 193 (0, 0)) := by rw [← hV, ← hsb]; exact block_alloc (heap_alloc_new _ _) _
  have hbn : V.heap[sb + 1]? = some (.cells #[.string ⟨#[]⟩, .int .u64 0, .int .u64 0, .int .u64 0, .int .u64 0] 46 (0, 0)) := by rw [← hV]; exact alloc_new_at _ (by simp [hsb])
  have hbt : V.heap[tb]? = some (.cells #[u0, u1, u2, u3, u4] 46 (0, 0)) := (HV.out.block _ (lt_of_block HT.out)).trans HT.out
  have hbe : V.heap[eb]? = some (.cells #[.nilIface] 59 (0, 0)) := (HV.out.block _ (lt_of_block HE.out)).trans HE.out
  have k0 : V.cell? ⟨sb, 0, none⟩ = some (.iface 127 (.pointer (some ⟨fb, 0, none⟩))) := block_cell hbs 0
  have m0 : V.cell? ⟨sb + 1, 0, none⟩ = some (.string ⟨#[]⟩) := block_cell hbn 0
  have m1 : V.cell? ⟨sb + 1, 1, none⟩ = some (.int .u64 0) := block_cell hbn 1
  have m2 : V.cell? ⟨sb + 1, 2, none⟩ = some (.int .u64 0) := block_cell hbn 2
  have m3 : V.cell? ⟨sb + 1, 3, none⟩ = some (.int .u64 0) := block_cell hbn 3
  have m4 : V.cell? ⟨sb + 1, 4, none⟩ = some (.int .u64 0) := block_cell hbn 4
  have hts : tb < sb := by have := lt_of_block HT.out; omega
  have hnt : some (sb + 1) ≠ some tb := by simp; omega
  have hst : some sb ≠ some tb := by simp; omega
  have HBT := Lib.hid hbt
  have HBE := Lib.hid hbe
  try rw [hV]
  try simp only [hsb]
  clear hV hbs hbn hbt hbe ha
  refine wp_region_tail 4 3 ((some tb)) (phis [fun u _ => u = (.agg #[.string ⟨#[]⟩, .int .u64 0, .int .u64 0, .int .u64 0, .int .u64 0]), fun u _ => u = (.pointer (some ⟨sb, 0, none⟩)), fun u _ => u = (.iface 127 (.pointer (some ⟨fb, 0, none⟩))), fun _ w' => w'.heap[tb]? = some (.cells #[.string ⟨#[]⟩, .int .u64 0, .int .u64 0, .int .u64 0, .int .u64 0] 46 (0, 0))]) rfl (by kernel_rfl) (by kernel_rfl) (mono_of ⟨mono_eq, mono_eq, mono_eq, ?m3, trivial⟩) (steps_of 4 ⟨?s0, ?s1, ?s2, ?s3, trivial⟩) ?_
  case m3 =>
    exact ⟨fun u w1 w2 h hb => ext_block h hb, fun hn => absurd rfl hn⟩
  case s0 =>
    refine step_val (v := (.agg #[.string ⟨#[]⟩, .int .u64 0, .int .u64 0, .int .u64 0, .int .u64 0])) (fun av wv hE hS hO hD => ?_) (fun _ => rfl)
    have h5 : av.eval (.tmp 5) = (.pointer (some ⟨sb + 1, 0, none⟩)) := hO.2.2 5 rfl
    have f5 := (ev_form av 5).symm.trans h5
    have k0 := extB_cell hE hst k0
    have m0 := extB_cell hE hnt m0
    have m1 := extB_cell hE hnt m1
    have m2 := extB_cell hE hnt m2
    have m3 := extB_cell hE hnt m3
    have m4 := extB_cell hE hnt m4
    refine ⟨rfl, ?_⟩
    simp [go_sem, f5, k0, m0, m1, m2, m3, m4]
  case s1 =>
    refine step_val (v := (.pointer (some ⟨sb, 0, none⟩))) (fun av wv hE hS hO hD => ?_) (fun _ => rfl)
    have h3 : av.eval (.tmp 3) = (.pointer (some ⟨sb, 0, none⟩)) := hO.2.2 3 rfl
    have f3 := (ev_form av 3).symm.trans h3
    refine ⟨rfl, ?_⟩
    simp [go_sem, f3]
  case s2 =>
    refine step_val (v := (.iface 127 (.pointer (some ⟨fb, 0, none⟩)))) (fun av wv hE hS hO hD => ?_) (fun _ => rfl)
    have d18 : av.eval (.tmp 18) = (.pointer (some ⟨sb, 0, none⟩)) := hD.1 rfl _ rfl
    have f18 := (ev_form av 18).symm.trans d18
    have k0 := extB_cell hE hst k0
    have m0 := extB_cell hE hnt m0
    have m1 := extB_cell hE hnt m1
    have m2 := extB_cell hE hnt m2
    have m3 := extB_cell hE hnt m3
    have m4 := extB_cell hE hnt m4
    refine ⟨rfl, ?_⟩
    simp [go_sem, f18, k0, m0, m1, m2, m3, m4]
  case s3 =>
    refine step_wp (fun av wv hE hS hO hD => ?_)
    have h0 : av.eval (.tmp 0) = (.pointer (some ⟨tb, 0, none⟩)) := hO.2.2 0 rfl
    have f0 := (ev_form av 0).symm.trans h0
    have d17 : av.eval (.tmp 17) = (.agg #[.string ⟨#[]⟩, .int .u64 0, .int .u64 0, .int .u64 0, .int .u64 0]) := hD.1 rfl _ rfl
    have f17 := (ev_form av 17).symm.trans d17
    refine ⟨rfl, ?_⟩
    have hq : wv.heap[tb]? = some (.cells #[u0, u1, u2, u3, u4] 46 (0, 0)) := ext_block (w := V.drew) (hS rfl) HBT.out
    have q0 : wv.cell? ⟨tb, 0, none⟩ = some u0 := block_cell hq 0
    have q1 : wv.cell? ⟨tb, 1, none⟩ = some u1 := block_cell hq 1
    have q2 : wv.cell? ⟨tb, 2, none⟩ = some u2 := block_cell hq 2
    have q3 : wv.cell? ⟨tb, 3, none⟩ = some u3 := block_cell hq 3
    have q4 : wv.cell? ⟨tb, 4, none⟩ = some u4 := block_cell hq 4
    have hz : ∀ o, wv.frozen? ⟨tb, o, none⟩ = false := block_free hq
    unfold Oper.wp
    have l0 : tb < wv.heap.size := lt_of_block hq
    have h0 : av.eval (.tmp 0) = (.pointer (some ⟨tb, 0, none⟩)) := hO.2.2 0 rfl
    have f0 := (ev_form av 0).symm.trans h0
    simp [go_sem, f0, f17, hz, l0, q0, q1, q2, q3, q4]
    exact ⟨es_sp (extB_setIn (extB_setIn (extB_setIn (extB_setIn (extB_setIn (ExtB_refl _ _) 0 _) 1 _) 2 _) 3 _) 4 _), undef, (block_setCell (block_setCell (block_setCell (block_setCell (block_setCell hq (o := 0) _) (o := 1) _) (o := 2) _) (o := 3) _) (o := 4) _)⟩
  intro a' w' hE hO hall
  have hA := act_of_outer (ds := [17, 18, 19]) rfl hO (by kernel_rfl)
  have e17 : (fun u _ => u = (.agg #[.string ⟨#[]⟩, .int .u64 0, .int .u64 0, .int .u64 0, .int .u64 0])) (a'.eval (.tmp 17)) w' := hall.1 _ rfl
  have e18 : (fun u _ => u = (.pointer (some ⟨sb, 0, none⟩))) (a'.eval (.tmp 18)) w' := hall.2.1 _ rfl
  have e19 : (fun u _ => u = (.iface 127 (.pointer (some ⟨fb, 0, none⟩)))) (a'.eval (.tmp 19)) w' := hall.2.2.1 _ rfl
  have z3 : (fun _ w' => w'.heap[tb]? = some (.cells #[.string ⟨#[]⟩, .int .u64 0, .int .u64 0, .int .u64 0, .int .u64 0] 46 (0, 0))) undef w' := hall.2.2.2.1 _ rfl
  simp only [List.foldl_cons, List.foldl_nil, Act.put, List.setIfInBounds_toArray, List.set_cons_succ, List.set_cons_zero, e17, e18, e19] at hA
  clear hO hall e17 e18 e19
  subst hA
  have HE := Lib.hid (of_drewE hE)
  have HZ := Lib.hid z3
  have hbe : w'.heap[eb]? = some (.cells #[.nilIface] 59 (0, 0)) := extB_block HE.out (by simp; exact fun e => hne e.symm) HBE.out
  have HBE := Lib.hid hbe
  have q0 : w'.cell? ⟨eb, 0, none⟩ = some .nilIface := block_cell hbe 0
  have q1 : w'.frozen? ⟨eb, 0, none⟩ = false := block_free hbe 0
  clear hE z3 hbe
  go_wp2
  rw [← HQ.out]
  have hs1 : (w'.setCell ⟨eb, 0, none⟩ (.iface 127 (.pointer (some ⟨fb, 0, none⟩)))).heap.size = w'.heap.size := by simp
  refine ⟨rfl, _, rfl, .tuple #[], by simp [results, Tryz.results121], rfl, rfl, ?_⟩
  exact ⟨HE.out.os.trans HV.out.os, HE.out.tape.trans HV.out.tape, HE.out.output.trans HV.out.output, by rw [hs1]; exact Nat.le_trans HV.out.size HE.out.size, fun i hi h1 h2 => by
    rw [Below.heap_setCell _ _ _ _ h2]
    exact (HE.out.block i (Nat.lt_of_lt_of_le hi HV.out.size) (by simpa using h1)).trans (HV.out.block i hi), block_setCell_ne HZ.out hne _, block_setCell HBE.out _⟩
def RdPart (s : ByteArray) (w : World) (e : Ending) (w' : World) : Prop :=
  Below w.heap.size w w' ∧ match objR s (partGs s 0) part0 0 with
    | .error f => ∃ fb, e = .returned (.tuple #[zeroPart, .iface 127 (.pointer (some ⟨fb, 0, none⟩))]) ∧ FltB w' fb f.1 f.2
    | .ok y => Kd part0 y.1 ∧ y.2 ≤ s.size ∧ (∃ rb tb, w.heap.size ≤ rb ∧ LiesPart rb tb w' y.1) ∧ (if y.2 < s.size then ∃ fb, e = .returned (.tuple #[.agg (cellsPart y.1), .iface 127 (.pointer (some ⟨fb, 0, none⟩))]) ∧ FltB w' fb 5 y.2 else e = .returned (.tuple #[.agg (cellsPart y.1), .nilIface]))
set_option maxRecDepth 100000 in
set_option maxHeartbeats 8000000 in
theorem readPart_any (B : Nat) (s : ByteArray) (w : World) (hT : Tabs B w) (hET : ErrType w) (hB : B ≤ w.heap.size) (hg : 0 < B) (hs : s.size ≤ 9223372036854775807) :
    Calls Tryz.prog 67 #[.string s, .func (.func 62) #[] #[]] w (RdPart s w) := by
  have HT := Lib.hid hT
  have HET := Lib.hid hET
  have ef := enters_of Tryz.func62 (by kernel_rfl) rfl
  clear hT hET
  go_enter_defers Tryz.func67, Tryz.ntmps67
  go_wp2_with fail
  obtain ⟨tb, htb⟩ : ∃ tb, w.heap.size = tb := ⟨_, rfl⟩
  obtain ⟨W, hW⟩ : ∃ W, (w.alloc (.cells #[.string ⟨#[]⟩, .int .u64 0, .int .u64 0, .int .u64 0, .int .u64 0] 46)).alloc (.cells #[.nilIface] 59) = W := ⟨_, rfl⟩
  have WB : Hid (Below w.heap.size w W) := Lib.hid (by rw [← hW]; exact balloc (balloc (Below.refl _ _) _) _)
  have W0 : Hid (W.heap[tb]? = some (.cells #[.string ⟨#[]⟩, .int .u64 0, .int .u64 0, .int .u64 0, .int .u64 0] 46 (0, 0))) := Lib.hid (by rw [← hW, ← htb]; exact block_alloc (heap_alloc_new _ _) _)
  have W1 : Hid (W.heap[tb + 1]? = some (.cells #[.nilIface] 59 (0, 0))) := Lib.hid (by rw [← hW]; exact alloc_new_at _ (by simp [htb]))
  have hWs : W.heap.size = tb + 1 + 1 := by rw [← hW]; simp [htb]
  have HTW : Hid (w.heap.size = tb) := Lib.hid htb
  try rw [hW]
  try simp only [htb]
  clear hW htb
  refine (New_any W s 10240).mono ?_
  rintro e w1 ⟨rfl, hw1⟩
  have hm : max (10240 : Int) 0 = 10240 := by decide
  rw [hm] at hw1
  obtain ⟨rb, hrb⟩ : ∃ rb, W.heap.size = rb := ⟨_, rfl⟩
  have R1 : Hid (RdB w1 rb s 0 10240) := Lib.hid (by rw [hw1, ← hrb]; exact heap_alloc_new _ _)
  have WB1 : Hid (Below W.heap.size W w1) := Lib.hid (by rw [hw1]; exact balloc (Below.refl _ _) _)
  have hs1 : w1.heap.size = rb + 1 := by rw [hw1, ← hrb]; simp
  try rw [hrb]
  clear hw1
  go_upto_region 3 with fail
  obtain ⟨V, hV⟩ : ∃ V, w1.alloc (.cells #[.pointer (some ⟨rb, 0, none⟩)] 199) = V := ⟨_, rfl⟩
  have VB : Hid (Below w1.heap.size w1 V) := Lib.hid (by rw [← hV]; exact balloc (Below.refl _ _) _)
  have VQ : Hid (V.heap[rb + 1]? = some (.cells #[.pointer (some ⟨rb, 0, none⟩)] 199 (0, 0))) := Lib.hid (by rw [← hV]; exact alloc_new_at _ hs1)
  try rw [hV]
  try simp only [hs1]
  have hrbt : rb = tb + 1 + 1 := hrb.symm.trans hWs
  have hTW := HTW.out
  have BV : Hid (Below w.heap.size w V) := Lib.hid (bnext (bnext WB.out WB1.out) VB.out)
  have WV : Hid (Below W.heap.size W V) := Lib.hid (bnext WB1.out VB.out)
  have VT : Hid (V.heap[tb]? = some (.cells #[.string ⟨#[]⟩, .int .u64 0, .int .u64 0, .int .u64 0, .int .u64 0] 46 (0, 0))) := Lib.hid ((WV.out.block _ (lt_of_block W0.out)).trans W0.out)
  have VE : Hid (V.heap[tb + 1]? = some (.cells #[.nilIface] 59 (0, 0))) := Lib.hid ((WV.out.block _ (lt_of_block W1.out)).trans W1.out)
  have VR : Hid (RdB V rb s 0 10240) := Lib.hid (R1.out.below VB.out)
  have ENV : Hid (RdEnv B V (rb + 1) rb s 0) := Lib.hid ⟨VQ.out, VR.out, HT.out.below BV.out, by omega, by omega, by omega, Nat.zero_le _, hs⟩
  have E : TEnv B (rb + 1) rb tb 5 46 V := ⟨⟨_, VR.out⟩, ⟨_, VT.out⟩, by omega, by omega, by omega, by decide, by decide⟩
  have REC : Hid (RecAt rb tb 46 5 V part0) := Lib.hid (rec_zero VT.out rfl (fun i hi => by
    match i, hi with
    | 0, _ => exact ⟨_, rfl, rfl⟩
    | 1, _ => exact ⟨_, rfl, rfl⟩
    | 2, _ => exact ⟨_, rfl, rfl⟩
    | 3, _ => exact ⟨_, rfl, rfl⟩
    | 4, _ => exact ⟨_, rfl, rfl⟩))
  have HOF := Lib.hid (rofPart_any (x0 := part0) (s := s) E 0 (by omega) ⟨rfl, rfl, rfl, rfl, rfl⟩)
  have HE := Lib.hid E
  have G : Hid (GOk part0 (partGs s 0)) := Lib.hid (PartOk s 0 ⟨rfl, rfl, rfl, rfl, rfl⟩)
  have HRBT := Lib.hid hrbt
  clear hV E hrb hs1 hWs hrbt hTW
  go_wp2_with fail
  refine HOF.out.mono ?_
  rintro e w2 ⟨u, rfl, ⟨g, c, l, rfl, hc, hF, hS⟩, hb⟩
  have hl : (partGs s 0).length = l.length := hS.1
  have hg := (HE.out.below hb).apart hF.ex
  have H2 := Lib.hid (robject_any B (rb + 1) rb tb g 0 c part0 46 5 s w2 w2 l (partGs s 0) 0 part0 hF.flds hc (show l.length ≤ 1000 by rw [← hl]; exact Nat.le_of_ble_eq_true rfl) hS (Chg.refl _ _ _) hg HE.out.nq HE.out.le HE.out.ne G.out.keys G.out.disj G.out.frames G.out.kinds (fun i => rfl) (REC.out.below hb) (ENV.out.below hb) (fun i hi o ho => rfl))
  have HB := Lib.hid hb
  clear hF hS hb hl hc hg HOF ef
  go_wp2_with fail
  refine H2.out.mono ?_
  intro e w3 hh
  cases hr : objR s (partGs s 0) part0 0 with
  | error f =>
    rw [hr] at hh
    have HTH := Lib.hid (getIs_th hh)
    obtain ⟨fb, rfl, hf, hc3⟩ := getIs_err hh
    have HF := Lib.hid hf
    have HC := Lib.hid hc3
    have HR := Lib.hid hr
    clear hh hf hc3 hr H2
    go_wp2
    obtain ⟨cs, hcs, hcn⟩ := HTH.out
    have hce : w3.heap[tb + 1]? = some (.cells #[.nilIface] 59 (0, 0)) := (HC.out.block _ (Nat.lt_of_lt_of_le (lt_of_block VE.out) HB.out.size) (by have := HRBT.out; omega) (by omega)).trans ((HB.out.block _ (lt_of_block VE.out)).trans VE.out)
    refine leaves_cons (f := 121) (args := #[.pointer (some ⟨tb, 0, none⟩), .pointer (some ⟨tb + 1, 0, none⟩)]) (by simp) (by simp [go_sem]) ?_
    refine (read1Part_some tb (tb + 1) fb cs w3 hcs (arr5 hcn) hce (by omega)).mono ?_
    rintro e u' w4 ⟨rfl, rfl, HA⟩
    have y0 : ∀ o, w4.cell? ⟨tb, o, none⟩ = _ := block_cell HA.th
    have y1 : w4.cell? ⟨tb + 1, 0, none⟩ = some (.iface 127 (.pointer (some ⟨fb, 0, none⟩))) := block_cell HA.er 0
    refine ⟨_, by simp [results, Tryz.results67, go_sem, y0, y1]; rfl, ?_⟩
    refine ⟨?_, by
      rw [HR.out]
      refine ⟨fb, rfl, (HA.block fb (lt_of_block HF.out) (fun e => ?_) (fun e => ?_)).trans HF.out⟩
      · subst e; have h9 := hcs.symm.trans HF.out; cases h9
      · subst e; have h9 := hce.symm.trans HF.out; cases h9⟩
    have hsz := HTW.out
    have hb9 := HRBT.out
    refine ⟨HA.os.trans (HC.out.os.trans (HB.out.os.trans BV.out.os)), HA.tape.trans (HC.out.tape.trans (HB.out.tape.trans BV.out.tape)), HA.output.trans (HC.out.output.trans (HB.out.output.trans BV.out.output)), Nat.le_trans BV.out.size (Nat.le_trans HB.out.size (Nat.le_trans HC.out.size HA.size)), fun i hi => ?_⟩
    have l1 := Nat.lt_of_lt_of_le hi BV.out.size
    have l2 := Nat.lt_of_lt_of_le l1 HB.out.size
    exact (HA.block i (Nat.lt_of_lt_of_le l2 HC.out.size) (by omega) (by omega)).trans ((HC.out.block i l2 (by omega) (by omega)).trans ((HB.out.block i l1).trans (BV.out.block i hi)))
  | ok q =>
    rw [hr] at hh
    obtain ⟨rfl, hrd, hle, hx3, hc3⟩ := getIs_ok hh
    have HRD := Lib.hid hrd
    have HC := Lib.hid hc3
    have HR := Lib.hid hr
    have HKD : Hid (Kd part0 q.1) := Lib.hid (objR_kinds G.out.kinds hr (fun i => rfl))
    obtain ⟨_, hth, hlies⟩ := part_of_rec hx3 HKD.out
    have HTH := Lib.hid hth
    have HLI := Lib.hid hlies
    clear hh hrd hx3 hc3 hr H2 hth hlies
    obtain ⟨x, a⟩ := q
    have hts : tb < w3.heap.size := lt_of_block HTH.out
    have HQ3 : Hid (w3.heap[rb + 1]? = some (.cells #[.pointer (some ⟨rb, 0, none⟩)] 199 (0, 0))) := Lib.hid ((HC.out.block _ (Nat.lt_of_lt_of_le (lt_of_block VQ.out) HB.out.size) (by omega) (by have := HRBT.out; omega)).trans ((HB.out.block _ (lt_of_block VQ.out)).trans VQ.out))
    have HE3 : Hid (w3.heap[tb + 1]? = some (.cells #[.nilIface] 59 (0, 0))) := Lib.hid ((HC.out.block _ (Nat.lt_of_lt_of_le (lt_of_block VE.out) HB.out.size) (by have := HRBT.out; omega) (by omega)).trans ((HB.out.block _ (lt_of_block VE.out)).trans VE.out))
    have HET3 : Hid (ErrType w3) := Lib.hid (by
      have h1 := HET.out.below BV.out
      have h2 := h1.below HB.out
      unfold ErrType at h2 ⊢
      rw [World.cell?_of_block (w := w2) (HC.out.block _ (lt_of_cell h2) (show 0 ≠ rb by have := HRBT.out; have := HTW.out; omega) (show 0 ≠ tb by have := HTW.out; omega))]
      exact h2)
    go_upto_region 4 with fail
    obtain ⟨VO, hVO⟩ : ∃ VO : Nat → Option Nat, VO = fun j => if j = 6 then some tb else none := ⟨_, rfl⟩
    have vo6 : VO 6 = some tb := by rw [hVO]; rfl
    have von : ∀ j, j ≠ 6 → VO j = none := fun j h1 => by rw [hVO]; simp [h1]
    have vob : ∀ j b, b ≠ tb → VO j ≠ some b := fun j b hb => by
      by_cases h : j = 6
      · subst h; rw [vo6]; simp; exact fun e => hb e.symm
      · rw [von j h]; simp
    clear hVO
    refine wp_region_tailV 7 VO (fun i j b h1 h2 => by
        by_cases e1 : i = 6
        · by_cases e2 : j = 6
          · rw [e1, e2]
          · rw [von j e2] at h2; cases h2
        · rw [von i e1] at h1; cases h1) (fun _ _ _ => True) (fun _ => True) (fun _ _ _ _ _ => True) (fun _ _ => trivial) trivial
      (phis [fun u _ => u = .agg (cellsPart x), fun u _ => u = .pointer (some ⟨rb + 1, 0, none⟩), fun u _ => u = .pointer (some ⟨rb + 1, 0, none⟩), fun u _ => u = .pointer (some ⟨rb + 1, 0, none⟩), fun u _ => u = .pointer (some ⟨rb, 0, none⟩), fun u w' => if a < s.size then ∃ fb, u = .iface 127 (.pointer (some ⟨fb, 0, none⟩)) ∧ FltB w' fb 5 a ∧ fb ≠ tb else u = .nilIface, fun _ w' => w'.heap[tb]? = some (.cells (cellsPart x) 46 (0, 0))]) rfl (by kernel_rfl) (by kernel_rfl)
      (monoV_of ⟨monoV_eq, monoV_eq, monoV_eq, monoV_eq, monoV_eq, ?m5, ?m6, trivial⟩) (fun _ _ _ _ _ => trivial) (fun _ _ _ _ _ _ _ _ _ _ _ => trivial) (stepsV_of 7 ⟨?s0, ?s1, ?s2, ?s3, ?s4, ?s5, ?s6, trivial⟩) ?_
    case m5 =>
      intro j hj u w1 w2 he hp
      by_cases hlt : a < s.size
      · simp only [hlt, if_true] at hp ⊢
        obtain ⟨fb, h1, h2, h3⟩ := hp
        refine ⟨fb, h1, (he.1.block fb (lt_of_block h2) ?_).trans h2, h3⟩
        exact fun e => vob j fb h3 e.symm
      · simp only [hlt, if_false] at hp ⊢; exact hp
    case m6 =>
      intro j hj u w1 w2 he hp
      refine (he.1.block tb (lt_of_block hp) ?_).trans hp
      rw [von j hj]; simp
    case s0 =>
      refine stepV_val (v := .agg (cellsPart x)) (fun _ _ => trivial) (fun _ _ _ _ => ⟨trivial, trivial⟩) (fun D av wv hE hO hD => ?_) (fun _ => rfl)
      have h6 : ¬ D 6 := hE.notyet 6 _ rfl { on := 0, ground := .data } (by simp) rfl hE.me
      have hb0 : wv.heap[tb]? = some (.cells (cellsPart x) 46 (0, 0)) := (hE.late 6 h6 tb vo6 hts).trans HTH.out
      have k0 : wv.cell? ⟨tb, 0, none⟩ = some (.string (x 0).s) := block_cell hb0 0
      have k1 : wv.cell? ⟨tb, 1, none⟩ = some (.int .u64 (x 1).n) := block_cell hb0 1
      have k2 : wv.cell? ⟨tb, 2, none⟩ = some (.int .u64 (x 2).n) := block_cell hb0 2
      have k3 : wv.cell? ⟨tb, 3, none⟩ = some (.int .u64 (x 3).n) := block_cell hb0 3
      have k4 : wv.cell? ⟨tb, 4, none⟩ = some (.int .u64 (x 4).n) := block_cell hb0 4
      have h4 : av.eval (.tmp 4) = .pointer (some ⟨tb, 0, none⟩) := hO.2.2 4 rfl
      have f4 := (ev_form av 4).symm.trans h4
      refine ⟨rfl, ?_⟩
      simp [go_sem, f4, k0, k1, k2, k3, k4]
    case s1 =>
      refine stepV_val (v := .pointer (some ⟨rb + 1, 0, none⟩)) (fun _ _ => trivial) (fun _ _ _ _ => ⟨trivial, trivial⟩) (fun D av wv hE hO hD => ?_) (fun _ => rfl)
      have h6 : av.eval (.tmp 6) = .pointer (some ⟨rb + 1, 0, none⟩) := hO.2.2 6 rfl
      have f6 := (ev_form av 6).symm.trans h6
      refine ⟨rfl, ?_⟩
      simp [go_sem, f6]
    case s2 =>
      refine stepV_val (v := .pointer (some ⟨rb + 1, 0, none⟩)) (fun _ _ => trivial) (fun _ _ _ _ => ⟨trivial, trivial⟩) (fun D av wv hE hO hD => ?_) (fun _ => rfl)
      have d17 : av.eval (.tmp 17) = .pointer (some ⟨rb + 1, 0, none⟩) := hD.1 rfl _ rfl
      have f17 := (ev_form av 17).symm.trans d17
      refine ⟨rfl, ?_⟩
      simp [go_sem, f17]
    case s3 =>
      refine stepV_val (v := .pointer (some ⟨rb + 1, 0, none⟩)) (fun _ _ => trivial) (fun _ _ _ _ => ⟨trivial, trivial⟩) (fun D av wv hE hO hD => ?_) (fun _ => rfl)
      have d18 : av.eval (.tmp 18) = .pointer (some ⟨rb + 1, 0, none⟩) := hD.1 rfl _ rfl
      have f18 := (ev_form av 18).symm.trans d18
      refine ⟨rfl, ?_⟩
      simp [go_sem, f18]
    case s4 =>
      refine stepV_val (v := .pointer (some ⟨rb, 0, none⟩)) (fun _ _ => trivial) (fun _ _ _ _ => ⟨trivial, trivial⟩) (fun D av wv hE hO hD => ?_) (fun _ => rfl)
      have d19 : av.eval (.tmp 19) = .pointer (some ⟨rb + 1, 0, none⟩) := hD.1 rfl _ rfl
      have f19 := (ev_form av 19).symm.trans d19
      have k0 : wv.cell? ⟨rb + 1, 0, none⟩ = some (.pointer (some ⟨rb, 0, none⟩)) := block_cell ((hE.ext.block (rb + 1) (lt_of_block HQ3.out) (fun j => vob j _ (by have := HRBT.out; omega))).trans HQ3.out) 0
      refine ⟨rfl, ?_⟩
      simp [go_sem, f19, k0]
    case s5 =>
      refine stepV_wp (fun D av wv hPP hE hO hD => ?_)
      have d20 : av.eval (.tmp 20) = .pointer (some ⟨rb, 0, none⟩) := hD.1 rfl _ rfl
      have f20 := (ev_form av 20).symm.trans d20
      have hrd : RdB wv rb s a 10240 := (hE.ext.block rb (lt_of_block HRD.out) (fun j => vob j _ (by have := HRBT.out; omega))).trans HRD.out
      have het : ErrType wv := by
        have h2 : ErrType w3.drew := HET3.out
        unfold ErrType at h2 ⊢
        rw [World.cell?_of_block (w := w3.drew) (hE.ext.block _ (lt_of_cell h2) (fun j => vob j _ (show 0 ≠ tb by have := HTW.out; omega)))]
        exact h2
      have hvs : w3.heap.size ≤ wv.heap.size := hE.ext.size
      refine ⟨rfl, wp_of_callR (f := 124) (args := #[.pointer (some ⟨rb, 0, none⟩)]) (R := fun u w2 => Below wv.heap.size wv w2 ∧ (if a < s.size then ∃ fb, u = .iface 127 (.pointer (some ⟨fb, 0, none⟩)) ∧ FltB w2 fb 5 a ∧ fb ≠ tb else u = .nilIface)) (by simp [go_sem, f20]) ((End_any wv rb s a 10240 het hrd hle hs).mono fun e w2 hh => ?_) (fun u w2 ⟨h1, h2⟩ => ⟨u, rfl, esV_of_ext h1 trivial, h2, fun _ _ _ _ _ => ⟨trivial, trivial⟩⟩)⟩
      obtain ⟨h1, h2⟩ := hh
      unfold leftOf at h2
      by_cases hlt : a < s.size
      · simp only [hlt, if_true] at h2 ⊢
        obtain ⟨fb, h3, h4, h5⟩ := h2
        exact ⟨_, h3, h1, fb, rfl, h5, by omega⟩
      · simp only [hlt, if_false] at h2 ⊢
        exact ⟨_, h2, h1, rfl⟩
    case s6 =>
      refine stepV_wp (fun D av wv hPP hE hO hD => ?_)
      have d16 : av.eval (.tmp 16) = .agg (cellsPart x) := hD.1 rfl _ rfl
      have f16 := (ev_form av 16).symm.trans d16
      have h4 : av.eval (.tmp 4) = .pointer (some ⟨tb, 0, none⟩) := hO.2.2 4 rfl
      have f4 := (ev_form av 4).symm.trans h4
      have hq : wv.heap[tb]? = some (.cells (cellsPart x) 46 (0, 0)) := (hE.own tb vo6 hts).trans HTH.out
      have k0 : wv.cell? ⟨tb, 0, none⟩ = some (.string (x 0).s) := block_cell hq 0
      have k1 : wv.cell? ⟨tb, 1, none⟩ = some (.int .u64 (x 1).n) := block_cell hq 1
      have k2 : wv.cell? ⟨tb, 2, none⟩ = some (.int .u64 (x 2).n) := block_cell hq 2
      have k3 : wv.cell? ⟨tb, 3, none⟩ = some (.int .u64 (x 3).n) := block_cell hq 3
      have k4 : wv.cell? ⟨tb, 4, none⟩ = some (.int .u64 (x 4).n) := block_cell hq 4
      have hz : ∀ o, wv.frozen? ⟨tb, o, none⟩ = false := block_free hq
      have l0 : tb < wv.heap.size := lt_of_block hq
      refine ⟨rfl, ?_⟩
      unfold Oper.wp
      simp [go_sem, f4, f16, hz, l0, k0, k1, k2, k3, k4]
      exact ⟨⟨by rw [vo6]; exact (extB_setIn (extB_setIn (extB_setIn (extB_setIn (extB_setIn (ExtB_refl _ _) 0 _) 1 _) 2 _) 3 _) 4 _), trivial⟩, undef, (block_setCell (block_setCell (block_setCell (block_setCell (block_setCell hq (o := 0) _) (o := 1) _) (o := 2) _) (o := 3) _) (o := 4) _), fun _ _ _ _ _ => ⟨trivial, trivial⟩⟩
    intro a' w' hE _ hO hall _
    have hA := act_of_outer (ds := [16, 17, 18, 19, 20, 21]) rfl hO (by kernel_rfl)
    have e16 : (fun u (_ : World) => u = .agg (cellsPart x)) (a'.eval (.tmp 16)) w' := hall.1 _ rfl
    have e17 : (fun u (_ : World) => u = .pointer (some ⟨rb + 1, 0, none⟩)) (a'.eval (.tmp 17)) w' := hall.2.1 _ rfl
    have e18 : (fun u (_ : World) => u = .pointer (some ⟨rb + 1, 0, none⟩)) (a'.eval (.tmp 18)) w' := hall.2.2.1 _ rfl
    have e19 : (fun u (_ : World) => u = .pointer (some ⟨rb + 1, 0, none⟩)) (a'.eval (.tmp 19)) w' := hall.2.2.2.1 _ rfl
    have e20 : (fun u (_ : World) => u = .pointer (some ⟨rb, 0, none⟩)) (a'.eval (.tmp 20)) w' := hall.2.2.2.2.1 _ rfl
    have e21 : (fun u w' => if a < s.size then ∃ fb, u = .iface 127 (.pointer (some ⟨fb, 0, none⟩)) ∧ FltB w' fb 5 a ∧ fb ≠ tb else u = .nilIface) (a'.eval (.tmp 21)) w' := hall.2.2.2.2.2.1 _ rfl
    have z6 : w'.heap[tb]? = some (.cells (cellsPart x) 46 (0, 0)) := hall.2.2.2.2.2.2.1 _ rfl
    obtain ⟨v21, hv21⟩ : ∃ v, a'.eval (.tmp 21) = v := ⟨_, rfl⟩
    rw [hv21] at e21
    simp only [List.foldl_cons, List.foldl_nil, Act.put, List.setIfInBounds_toArray, List.set_cons_succ, List.set_cons_zero, e16, e17, e18, e19, e20, hv21] at hA
    clear hO hall e16 e17 e18 e19 e20 hv21
    subst hA
    have HX4 : Hid (ExtS VO w3 w') := Lib.hid ⟨hE.os, hE.tape, hE.output, hE.size, hE.block⟩
    have HZ6 := Lib.hid z6
    have hbe : w'.heap[tb + 1]? = some (.cells #[.nilIface] 59 (0, 0)) := (HX4.out.block _ (lt_of_block HE3.out) (fun j => vob j _ (by omega))).trans HE3.out
    have HBE := Lib.hid hbe
    have g0 : w'.cell? ⟨tb + 1, 0, none⟩ = some .nilIface := block_cell hbe 0
    have g1 : w'.frozen? ⟨tb + 1, 0, none⟩ = false := block_free hbe 0
    have HVO : Hid (∀ j b, b ≠ tb → VO j ≠ some b) := Lib.hid vob
    have HFIN : ∀ v, Hid (Below w.heap.size w (w'.setCell ⟨tb + 1, 0, none⟩ v)) := fun v => Lib.hid (by
      have hsz := HTW.out
      have hb9 := HRBT.out
      refine ⟨HX4.out.os.trans (HC.out.os.trans (HB.out.os.trans BV.out.os)), HX4.out.tape.trans (HC.out.tape.trans (HB.out.tape.trans BV.out.tape)), HX4.out.output.trans (HC.out.output.trans (HB.out.output.trans BV.out.output)), by simpa using Nat.le_trans BV.out.size (Nat.le_trans HB.out.size (Nat.le_trans HC.out.size HX4.out.size)), fun i hi => ?_⟩
      have l1 := Nat.lt_of_lt_of_le hi BV.out.size
      have l2 := Nat.lt_of_lt_of_le l1 HB.out.size
      rw [Below.heap_setCell _ _ _ _ (show i ≠ tb + 1 by omega)]
      exact (HX4.out.block i (Nat.lt_of_lt_of_le l2 HC.out.size) (fun j => HVO.out j i (by omega))).trans ((HC.out.block i l2 (by omega) (by omega)).trans ((HB.out.block i l1).trans (BV.out.block i hi))))
    have HLF : ∀ v, Hid (LiesPart rb tb (w'.setCell ⟨tb + 1, 0, none⟩ v) x) := fun v => Lib.hid (HLI.out.up (fun b h1 h2 => by
      have hb9 := HRBT.out
      rw [Below.heap_setCell _ _ _ _ (show b ≠ tb + 1 by omega)]
      exact HX4.out.block b h2 (fun j => HVO.out j b (by omega))))
    have HTF : ∀ v o, (w'.setCell ⟨tb + 1, 0, none⟩ v).cell? ⟨tb, o, none⟩ = (cellsPart x)[o]? := fun v o => block_cell (block_setCell_ne HZ6.out (by show tb ≠ tb + 1; omega) v) o
    have HEF : ∀ v, (w'.setCell ⟨tb + 1, 0, none⟩ v).cell? ⟨tb + 1, 0, none⟩ = some v := fun v => block_cell (block_setCell HBE.out v) 0
    have HTFH := Lib.hid HTF
    have HEFH := Lib.hid HEF
    clear hE z6 hbe vo6 von vob HTF HEF
    by_cases hlt : a < s.size
    · simp only [hlt, if_true] at e21
      obtain ⟨fb, rfl, hf, hft⟩ := e21
      have HF := Lib.hid hf
      have HLT := Lib.hid hlt
      clear hf hlt
      go_wp2
      refine leaves_cons (f := 121) (args := #[.pointer (some ⟨tb, 0, none⟩), .pointer (some ⟨tb + 1, 0, none⟩)]) (by simp) (by simp [go_sem]) ?_
      refine (read1Part_idle _ _ _).mono ?_
      rintro e u' w'' ⟨rfl, rfl, rfl⟩
      have y0 := HTFH.out (.iface 127 (.pointer (some ⟨fb, 0, none⟩)))
      have y1 := HEFH.out (.iface 127 (.pointer (some ⟨fb, 0, none⟩)))
      refine ⟨_, by simp [results, Tryz.results67, go_sem, y0, y1]; rfl, ?_⟩
      refine ⟨(HFIN _).out, ?_⟩
      rw [HR.out]
      refine ⟨HKD.out, hle, ⟨rb, tb, by have := HRBT.out; have := HTW.out; omega, (HLF _).out⟩, ?_⟩
      rw [if_pos HLT.out]
      exact ⟨fb, rfl, block_setCell_ne HF.out (by intro e; subst e; have h9 := HBE.out.symm.trans HF.out; cases h9) _⟩
    · simp only [hlt, if_false] at e21
      subst e21
      have HLT := Lib.hid hlt
      clear hlt
      go_wp2
      refine leaves_cons (f := 121) (args := #[.pointer (some ⟨tb, 0, none⟩), .pointer (some ⟨tb + 1, 0, none⟩)]) (by simp) (by simp [go_sem]) ?_
      refine (read1Part_idle _ _ _).mono ?_
      rintro e u' w'' ⟨rfl, rfl, rfl⟩
      have y0 := HTFH.out .nilIface
      have y1 := HEFH.out .nilIface
      refine ⟨_, by simp [results, Tryz.results67, go_sem, y0, y1]; rfl, ?_⟩
      refine ⟨(HFIN _).out, ?_⟩
      rw [HR.out]
      refine ⟨HKD.out, hle, ⟨rb, tb, by have := HRBT.out; have := HTW.out; omega, (HLF _).out⟩, ?_⟩
      rw [if_neg HLT.out]
abbrev cellsSlot (x : Rcd) (a3 : Option Addr) (c3 : Nat) (a4 : Option Addr) (c4 : Nat) : Array Value := #[.int .u64 (x 0).n, .bool (x 1).q, .int .u64 (x 2).n, .slice a3 (len (x 3).l) c3, .slice a4 (len (x 4).l) c4]
abbrev zeroSlot : Value := .agg #[.int .u64 0, .bool false, .int .u64 0, .slice none 0 0, .slice none 0 0]
def LiesSlot (rb tb : Nat) (w : World) (x : Rcd) (a3 : Option Addr) (c3 : Nat) (a4 : Option Addr) (c4 : Nat) : Prop := HoldsD rb tb w (.slice a3 (len (x 3).l) c3) (x 3) ∧ HoldsD rb tb w (.slice a4 (len (x 4).l) c4) (x 4)
theorem LiesSlot.below {rb tb : Nat} {w w' : World} {x : Rcd} {a3 : Option Addr} {c3 : Nat} {a4 : Option Addr} {c4 : Nat} (h : LiesSlot rb tb w x a3 c3 a4 c4) (hb : Below w.heap.size w w') : LiesSlot rb tb w' x a3 c3 a4 c4 := ⟨h.1.chg (Chg.of_below hb), h.2.chg (Chg.of_below hb)⟩
theorem LiesSlot.chg {rb tb : Nat} {w w' : World} {x : Rcd} {a3 : Option Addr} {c3 : Nat} {a4 : Option Addr} {c4 : Nat} (h : LiesSlot rb tb w x a3 c3 a4 c4) (hb : Chg rb tb w w') : LiesSlot rb tb w' x a3 c3 a4 c4 := ⟨h.1.chg hb, h.2.chg hb⟩
theorem LiesSlot.up {rb tb : Nat} {w w' : World} {x : Rcd} {a3 : Option Addr} {c3 : Nat} {a4 : Option Addr} {c4 : Nat} (h : LiesSlot rb tb w x a3 c3 a4 c4) (hb : Up rb w w') : LiesSlot rb tb w' x a3 c3 a4 c4 := ⟨h.1.up hb, h.2.up hb⟩
theorem slot_of_rec {rb tb : Nat} {w : World} {x : Rcd} (h : RecAt rb tb 44 5 w x) (hk : Kd slot0 x) : ∃ (a3 : Option Addr) (c3 : Nat) (a4 : Option Addr) (c4 : Nat), w.heap[tb]? = some (.cells (cellsSlot x a3 c3 a4 c4) 44 (0, 0)) ∧ LiesSlot rb tb w x a3 c3 a4 c4 := by
  obtain ⟨cs, h1, h2, h3⟩ := h
  obtain ⟨m0, e0⟩ := hk.num (show kindD (slot0 0) = _ from rfl)
  obtain ⟨u0, g0, d0⟩ := h3 0 (by decide)
  rw [e0] at d0
  simp only [HoldsD] at d0
  subst d0
  obtain ⟨m1, e1⟩ := hk.flag (show kindD (slot0 1) = _ from rfl)
  obtain ⟨u1, g1, d1⟩ := h3 1 (by decide)
  rw [e1] at d1
  simp only [HoldsD] at d1
  subst d1
  obtain ⟨m2, e2⟩ := hk.num (show kindD (slot0 2) = _ from rfl)
  obtain ⟨u2, g2, d2⟩ := h3 2 (by decide)
  rw [e2] at d2
  simp only [HoldsD] at d2
  subst d2
  obtain ⟨m3, e3⟩ := hk.strs (show kindD (slot0 3) = _ from rfl)
  obtain ⟨u3, g3, d3⟩ := h3 3 (by decide)
  have D3 := d3
  rw [e3] at d3
  obtain ⟨a3, c3, q3, -⟩ := d3
  subst q3
  obtain ⟨m4, e4⟩ := hk.strs (show kindD (slot0 4) = _ from rfl)
  obtain ⟨u4, g4, d4⟩ := h3 4 (by decide)
  have D4 := d4
  rw [e4] at d4
  obtain ⟨a4, c4, q4, -⟩ := d4
  subst q4
  refine ⟨a3, c3, a4, c4, ?_, ?_⟩
  · rw [h1]; congr 2; apply Array.ext_getElem?; intro i
    match i with
    | 0 => rw [g0]; simp [e0, DV.n, DV.q, DV.s, DV.l, DV.ns, DV.rs]
    | 1 => rw [g1]; simp [e1, DV.n, DV.q, DV.s, DV.l, DV.ns, DV.rs]
    | 2 => rw [g2]; simp [e2, DV.n, DV.q, DV.s, DV.l, DV.ns, DV.rs]
    | 3 => rw [g3]; simp [e3, DV.n, DV.q, DV.s, DV.l, DV.ns, DV.rs]
    | 4 => rw [g4]; simp [e4, DV.n, DV.q, DV.s, DV.l, DV.ns, DV.rs]
    | i + 5 => rw [Array.getElem?_eq_none (by omega), Array.getElem?_eq_none (by simp)]
  · exact ⟨(by rw [e3] at D3 ⊢; exact D3), (by rw [e4] at D4 ⊢; exact D4)⟩
set_option maxRecDepth 100000 in
theorem read1Slot_idle (p q : Value) (w : World) : CallsD Tryz.prog 140 #[p, q] .returning w fun e u' w' => e = .returned (.tuple #[]) ∧ u' = .returning ∧ w' = w := by
  refine callsD_of_wpS Tryz.func140 rfl fun c₀ cs hu => ?_
  apply wpS_seq
  apply wpS_region
  simp [wpOpsS, go_sem, recoverD, hu, Tryz.ntmps140, Exit.thenS]
  refine wpS_of_wp ?_
  obtain ⟨Q, hQ⟩ : ∃ Q : Exit → Act → World → Prop, (fun e a' w' => bodyPostS Tryz.prog Tryz.f140 c₀ cs (fun e u' w' => e = Ending.returned (.tuple #[]) ∧ u' = .returning ∧ w' = w) e a' (c₀ :: cs) w') = Q := ⟨_, rfl⟩
  rw [hQ, read1_frame]
  have HQ := Lib.hid hQ
  clear hQ
  go_wp2
  rw [← HQ.out]
  simp [bodyPostS, results, Tryz.results140]
  cases c₀; simp_all
structure AfterSlot (tb eb fb : Nat) (w w' : World) : Prop where
  os : w'.os = w.os
  tape : w'.tape = w.tape
  output : w'.output = w.output
  size : w.heap.size ≤ w'.heap.size
  block : ∀ i, i < w.heap.size → i ≠ tb → i ≠ eb → w'.heap[i]? = w.heap[i]?
  th : w'.heap[tb]? = some (.cells #[.int .u64 0, .bool false, .int .u64 0, .slice none 0 0, .slice none 0 0] 44 (0, 0))
  er : w'.heap[eb]? = some (.cells #[.iface 127 (.pointer (some ⟨fb, 0, none⟩))] 59 (0, 0))
set_option maxRecDepth 100000 in
set_option maxHeartbeats 4000000 in
theorem read1Slot_some (tb eb fb : Nat) (cs : Array Value) (w : World) (ht : w.heap[tb]? = some (.cells cs 44 (0, 0))) (hcs : ∃ u0 u1 u2 u3 u4 : Value, cs = #[u0, u1, u2, u3, u4] ) (he : w.heap[eb]? = some (.cells #[.nilIface] 59 (0, 0))) (hne : tb ≠ eb) :
    CallsD Tryz.prog 140 #[.pointer (some ⟨tb, 0, none⟩), .pointer (some ⟨eb, 0, none⟩)] (.panicking (stopC fb)) w fun e u' w' =>
      e = .returned (.tuple #[]) ∧ u' = .panicking [{ v := .iface 193 (.agg #[.iface 127 (.pointer (some ⟨fb, 0, none⟩))]), recovered := true }] ∧ AfterSlot tb eb fb w w' := by
  obtain ⟨u0, u1, u2, u3, u4, rfl⟩ := hcs
  refine callsD_of_wpS Tryz.func140 rfl fun c₀ cs hu => ?_
  apply wpS_seq
  apply wpS_region
  simp [wpOpsS, go_sem, recoverD, hu, stopC, Tryz.ntmps140, Exit.thenS]
  refine wpS_of_wp ?_
  obtain ⟨Q, hQ⟩ : ∃ Q : Exit → Act → World → Prop, (fun e a' w' => bodyPostS Tryz.prog Tryz.f140 c₀ cs (fun e u' w' => e = Ending.returned (.tuple #[]) ∧ u' = .panicking [{ v := .iface 193 (.agg #[.iface 127 (.pointer (some ⟨fb, 0, none⟩))]), recovered := true }] ∧ AfterSlot tb eb fb w w') e a' ({ c₀ with mode := .panicking [{ v := .iface 193 (.agg #[.iface 127 (.pointer (some ⟨fb, 0, none⟩))]), recovered := true }] } :: cs) w') = Q := ⟨_, rfl⟩
  rw [hQ, read1_frame]
  have HQ := Lib.hid hQ
  have HT := Lib.hid ht
  have HE := Lib.hid he
  clear hQ hu ht he
  have ha := assert_stop fb
  go_wp2_with fail
  obtain ⟨V, hV⟩ : ∃ V, (w.alloc (.cells #[.iface 127 (.pointer (some ⟨fb, 0, none⟩))] 193)).alloc (.cells #[.int .u64 0, .bool false, .int .u64 0, .slice none 0 0, .slice none 0 0] 44) = V := ⟨_, rfl⟩
  obtain ⟨sb, hsb⟩ : ∃ sb, w.heap.size = sb := ⟨_, rfl⟩
  have HV : Hid (Below w.heap.size w V) := Lib.hid (by rw [← hV]; exact balloc (balloc (Below.refl _ _) _) _)
  have hbs : V.heap[sb]? = some (.cells #[.iface 127 (.pointer (some ⟨fb, 0, none⟩))] 193 (0, 0)) := by rw [← hV, ← hsb]; exact block_alloc (heap_alloc_new _ _) _
  have hbn : V.heap[sb + 1]? = some (.cells #[.int .u64 0, .bool false, .int .u64 0, .slice none 0 0, .slice none 0 0] 44 (0, 0)) := by rw [← hV]; exact alloc_new_at _ (by simp [hsb])
  have hbt : V.heap[tb]? = some (.cells #[u0, u1, u2, u3, u4] 44 (0, 0)) := (HV.out.block _ (lt_of_block HT.out)).trans HT.out
  have hbe : V.heap[eb]? = some (.cells #[.nilIface] 59 (0, 0)) := (HV.out.block _ (lt_of_block HE.out)).trans HE.out
  have k0 : V.cell? ⟨sb, 0, none⟩ = some (.iface 127 (.pointer (some ⟨fb, 0, none⟩))) := block_cell hbs 0
  have m0 : V.cell? ⟨sb + 1, 0, none⟩ = some (.int .u64 0) := block_cell hbn 0
  have m1 : V.cell? ⟨sb + 1, 1, none⟩ = some (.bool false) := block_cell hbn 1
  have m2 : V.cell? ⟨sb + 1, 2, none⟩ = some (.int .u64 0) := block_cell hbn 2
  have m3 : V.cell? ⟨sb + 1, 3, none⟩ = some (.slice none 0 0) := block_cell hbn 3
  have m4 : V.cell? ⟨sb + 1, 4, none⟩ = some (.slice none 0 0) := block_cell hbn 4
  have hts : tb < sb := by have := lt_of_block HT.out; omega
  have hnt : some (sb + 1) ≠ some tb := by simp; omega
  have hst : some sb ≠ some tb := by simp; omega
  have HBT := Lib.hid hbt
  have HBE := Lib.hid hbe
  try rw [hV]
  try simp only [hsb]
  clear hV hbs hbn hbt hbe ha
  refine wp_region_tail 4 3 ((some tb)) (phis [fun u _ => u = (.agg #[.int .u64 0, .bool false, .int .u64 0, .slice none 0 0, .slice none 0 0]), fun u _ => u = (.pointer (some ⟨sb, 0, none⟩)), fun u _ => u = (.iface 127 (.pointer (some ⟨fb, 0, none⟩))), fun _ w' => w'.heap[tb]? = some (.cells #[.int .u64 0, .bool false, .int .u64 0, .slice none 0 0, .slice none 0 0] 44 (0, 0))]) rfl (by kernel_rfl) (by kernel_rfl) (mono_of ⟨mono_eq, mono_eq, mono_eq, ?m3, trivial⟩) (steps_of 4 ⟨?s0, ?s1, ?s2, ?s3, trivial⟩) ?_
  case m3 =>
    exact ⟨fun u w1 w2 h hb => ext_block h hb, fun hn => absurd rfl hn⟩
  case s0 =>
    refine step_val (v := (.agg #[.int .u64 0, .bool false, .int .u64 0, .slice none 0 0, .slice none 0 0])) (fun av wv hE hS hO hD => ?_) (fun _ => rfl)
    have h5 : av.eval (.tmp 5) = (.pointer (some ⟨sb + 1, 0, none⟩)) := hO.2.2 5 rfl
    have f5 := (ev_form av 5).symm.trans h5
    have k0 := extB_cell hE hst k0
    have m0 := extB_cell hE hnt m0
    have m1 := extB_cell hE hnt m1
    have m2 := extB_cell hE hnt m2
    have m3 := extB_cell hE hnt m3
    have m4 := extB_cell hE hnt m4
    refine ⟨rfl, ?_⟩
    simp [go_sem, f5, k0, m0, m1, m2, m3, m4]
  case s1 =>
    refine step_val (v := (.pointer (some ⟨sb, 0, none⟩))) (fun av wv hE hS hO hD => ?_) (fun _ => rfl)
    have h3 : av.eval (.tmp 3) = (.pointer (some ⟨sb, 0, none⟩)) := hO.2.2 3 rfl
    have f3 := (ev_form av 3).symm.trans h3
    refine ⟨rfl, ?_⟩
    simp [go_sem, f3]
  case s2 =>
    refine step_val (v := (.iface 127 (.pointer (some ⟨fb, 0, none⟩)))) (fun av wv hE hS hO hD => ?_) (fun _ => rfl)
    have d18 : av.eval (.tmp 18) = (.pointer (some ⟨sb, 0, none⟩)) := hD.1 rfl _ rfl
    have f18 := (ev_form av 18).symm.trans d18
    have k0 := extB_cell hE hst k0
    have m0 := extB_cell hE hnt m0
    have m1 := extB_cell hE hnt m1
    have m2 := extB_cell hE hnt m2
    have m3 := extB_cell hE hnt m3
    have m4 := extB_cell hE hnt m4
    refine ⟨rfl, ?_⟩
    simp [go_sem, f18, k0, m0, m1, m2, m3, m4]
  case s3 =>
    refine step_wp (fun av wv hE hS hO hD => ?_)
    have h0 : av.eval (.tmp 0) = (.pointer (some ⟨tb, 0, none⟩)) := hO.2.2 0 rfl
    have f0 := (ev_form av 0).symm.trans h0
    have d17 : av.eval (.tmp 17) = (.agg #[.int .u64 0, .bool false, .int .u64 0, .slice none 0 0, .slice none 0 0]) := hD.1 rfl _ rfl
    have f17 := (ev_form av 17).symm.trans d17
    refine ⟨rfl, ?_⟩
    have hq : wv.heap[tb]? = some (.cells #[u0, u1, u2, u3, u4] 44 (0, 0)) := ext_block (w := V.drew) (hS rfl) HBT.out
    have q0 : wv.cell? ⟨tb, 0, none⟩ = some u0 := block_cell hq 0
    have q1 : wv.cell? ⟨tb, 1, none⟩ = some u1 := block_cell hq 1
    have q2 : wv.cell? ⟨tb, 2, none⟩ = some u2 := block_cell hq 2
    have q3 : wv.cell? ⟨tb, 3, none⟩ = some u3 := block_cell hq 3
    have q4 : wv.cell? ⟨tb, 4, none⟩ = some u4 := block_cell hq 4
    have hz : ∀ o, wv.frozen? ⟨tb, o, none⟩ = false := block_free hq
    unfold Oper.wp
    have l0 : tb < wv.heap.size := lt_of_block hq
    have h0 : av.eval (.tmp 0) = (.pointer (some ⟨tb, 0, none⟩)) := hO.2.2 0 rfl
    have f0 := (ev_form av 0).symm.trans h0
    simp [go_sem, f0, f17, hz, l0, q0, q1, q2, q3, q4]
    exact ⟨es_sp (extB_setIn (extB_setIn (extB_setIn (extB_setIn (extB_setIn (ExtB_refl _ _) 0 _) 1 _) 2 _) 3 _) 4 _), undef, (block_setCell (block_setCell (block_setCell (block_setCell (block_setCell hq (o := 0) _) (o := 1) _) (o := 2) _) (o := 3) _) (o := 4) _)⟩
  intro a' w' hE hO hall
  have hA := act_of_outer (ds := [17, 18, 19]) rfl hO (by kernel_rfl)
  have e17 : (fun u _ => u = (.agg #[.int .u64 0, .bool false, .int .u64 0, .slice none 0 0, .slice none 0 0])) (a'.eval (.tmp 17)) w' := hall.1 _ rfl
  have e18 : (fun u _ => u = (.pointer (some ⟨sb, 0, none⟩))) (a'.eval (.tmp 18)) w' := hall.2.1 _ rfl
  have e19 : (fun u _ => u = (.iface 127 (.pointer (some ⟨fb, 0, none⟩)))) (a'.eval (.tmp 19)) w' := hall.2.2.1 _ rfl
  have z3 : (fun _ w' => w'.heap[tb]? = some (.cells #[.int .u64 0, .bool false, .int .u64 0, .slice none 0 0, .slice none 0 0] 44 (0, 0))) undef w' := hall.2.2.2.1 _ rfl
  simp only [List.foldl_cons, List.foldl_nil, Act.put, List.setIfInBounds_toArray, List.set_cons_succ, List.set_cons_zero, e17, e18, e19] at hA
  clear hO hall e17 e18 e19
  subst hA
  have HE := Lib.hid (of_drewE hE)
  have HZ := Lib.hid z3
  have hbe : w'.heap[eb]? = some (.cells #[.nilIface] 59 (0, 0)) := extB_block HE.out (by simp; exact fun e => hne e.symm) HBE.out
  have HBE := Lib.hid hbe
  have q0 : w'.cell? ⟨eb, 0, none⟩ = some .nilIface := block_cell hbe 0
  have q1 : w'.frozen? ⟨eb, 0, none⟩ = false := block_free hbe 0
  clear hE z3 hbe
  go_wp2
  rw [← HQ.out]
  have hs1 : (w'.setCell ⟨eb, 0, none⟩ (.iface 127 (.pointer (some ⟨fb, 0, none⟩)))).heap.size = w'.heap.size := by simp
  refine ⟨rfl, _, rfl, .tuple #[], by simp [results, Tryz.results140], rfl, rfl, ?_⟩
  exact ⟨HE.out.os.trans HV.out.os, HE.out.tape.trans HV.out.tape, HE.out.output.trans HV.out.output, by rw [hs1]; exact Nat.le_trans HV.out.size HE.out.size, fun i hi h1 h2 => by
    rw [Below.heap_setCell _ _ _ _ h2]
    exact (HE.out.block i (Nat.lt_of_lt_of_le hi HV.out.size) (by simpa using h1)).trans (HV.out.block i hi), block_setCell_ne HZ.out hne _, block_setCell HBE.out _⟩
def RdSlot (s : ByteArray) (w : World) (e : Ending) (w' : World) : Prop :=
  Below w.heap.size w w' ∧ match objR s (slotGs s 0) slot0 0 with
    | .error f => ∃ fb, e = .returned (.tuple #[zeroSlot, .iface 127 (.pointer (some ⟨fb, 0, none⟩))]) ∧ FltB w' fb f.1 f.2
    | .ok y => Kd slot0 y.1 ∧ y.2 ≤ s.size ∧ ∃ (a3 : Option Addr) (c3 : Nat) (a4 : Option Addr) (c4 : Nat), (∃ rb tb, w.heap.size ≤ rb ∧ LiesSlot rb tb w' y.1 a3 c3 a4 c4) ∧ (if y.2 < s.size then ∃ fb, e = .returned (.tuple #[.agg (cellsSlot y.1 a3 c3 a4 c4), .iface 127 (.pointer (some ⟨fb, 0, none⟩))]) ∧ FltB w' fb 5 y.2 else e = .returned (.tuple #[.agg (cellsSlot y.1 a3 c3 a4 c4), .nilIface]))
set_option maxRecDepth 100000 in
set_option maxHeartbeats 8000000 in
theorem readSlot_any (B : Nat) (s : ByteArray) (w : World) (hT : Tabs B w) (hET : ErrType w) (hB : B ≤ w.heap.size) (hg : 0 < B) (hs : s.size ≤ 9223372036854775807) :
    Calls Tryz.prog 77 #[.string s, .func (.func 61) #[] #[]] w (RdSlot s w) := by
  have HT := Lib.hid hT
  have HET := Lib.hid hET
  have ef := enters_of Tryz.func61 (by kernel_rfl) rfl
  clear hT hET
  go_enter_defers Tryz.func77, Tryz.ntmps77
  go_wp2_with fail
  obtain ⟨tb, htb⟩ : ∃ tb, w.heap.size = tb := ⟨_, rfl⟩
  obtain ⟨W, hW⟩ : ∃ W, (w.alloc (.cells #[.int .u64 0, .bool false, .int .u64 0, .slice none 0 0, .slice none 0 0] 44)).alloc (.cells #[.nilIface] 59) = W := ⟨_, rfl⟩
  have WB : Hid (Below w.heap.size w W) := Lib.hid (by rw [← hW]; exact balloc (balloc (Below.refl _ _) _) _)
  have W0 : Hid (W.heap[tb]? = some (.cells #[.int .u64 0, .bool false, .int .u64 0, .slice none 0 0, .slice none 0 0] 44 (0, 0))) := Lib.hid (by rw [← hW, ← htb]; exact block_alloc (heap_alloc_new _ _) _)
  have W1 : Hid (W.heap[tb + 1]? = some (.cells #[.nilIface] 59 (0, 0))) := Lib.hid (by rw [← hW]; exact alloc_new_at _ (by simp [htb]))
  have hWs : W.heap.size = tb + 1 + 1 := by rw [← hW]; simp [htb]
  have HTW : Hid (w.heap.size = tb) := Lib.hid htb
  try rw [hW]
  try simp only [htb]
  clear hW htb
  refine (New_any W s 10240).mono ?_
  rintro e w1 ⟨rfl, hw1⟩
  have hm : max (10240 : Int) 0 = 10240 := by decide
  rw [hm] at hw1
  obtain ⟨rb, hrb⟩ : ∃ rb, W.heap.size = rb := ⟨_, rfl⟩
  have R1 : Hid (RdB w1 rb s 0 10240) := Lib.hid (by rw [hw1, ← hrb]; exact heap_alloc_new _ _)
  have WB1 : Hid (Below W.heap.size W w1) := Lib.hid (by rw [hw1]; exact balloc (Below.refl _ _) _)
  have hs1 : w1.heap.size = rb + 1 := by rw [hw1, ← hrb]; simp
  try rw [hrb]
  clear hw1
  go_upto_region 3 with fail
  obtain ⟨V, hV⟩ : ∃ V, w1.alloc (.cells #[.pointer (some ⟨rb, 0, none⟩)] 199) = V := ⟨_, rfl⟩
  have VB : Hid (Below w1.heap.size w1 V) := Lib.hid (by rw [← hV]; exact balloc (Below.refl _ _) _)
  have VQ : Hid (V.heap[rb + 1]? = some (.cells #[.pointer (some ⟨rb, 0, none⟩)] 199 (0, 0))) := Lib.hid (by rw [← hV]; exact alloc_new_at _ hs1)
  try rw [hV]
  try simp only [hs1]
  have hrbt : rb = tb + 1 + 1 := hrb.symm.trans hWs
  have hTW := HTW.out
  have BV : Hid (Below w.heap.size w V) := Lib.hid (bnext (bnext WB.out WB1.out) VB.out)
  have WV : Hid (Below W.heap.size W V) := Lib.hid (bnext WB1.out VB.out)
  have VT : Hid (V.heap[tb]? = some (.cells #[.int .u64 0, .bool false, .int .u64 0, .slice none 0 0, .slice none 0 0] 44 (0, 0))) := Lib.hid ((WV.out.block _ (lt_of_block W0.out)).trans W0.out)
  have VE : Hid (V.heap[tb + 1]? = some (.cells #[.nilIface] 59 (0, 0))) := Lib.hid ((WV.out.block _ (lt_of_block W1.out)).trans W1.out)
  have VR : Hid (RdB V rb s 0 10240) := Lib.hid (R1.out.below VB.out)
  have ENV : Hid (RdEnv B V (rb + 1) rb s 0) := Lib.hid ⟨VQ.out, VR.out, HT.out.below BV.out, by omega, by omega, by omega, Nat.zero_le _, hs⟩
  have E : TEnv B (rb + 1) rb tb 5 44 V := ⟨⟨_, VR.out⟩, ⟨_, VT.out⟩, by omega, by omega, by omega, by decide, by decide⟩
  have REC : Hid (RecAt rb tb 44 5 V slot0) := Lib.hid (rec_zero VT.out rfl (fun i hi => by
    match i, hi with
    | 0, _ => exact ⟨_, rfl, rfl⟩
    | 1, _ => exact ⟨_, rfl, rfl⟩
    | 2, _ => exact ⟨_, rfl, rfl⟩
    | 3, _ => exact ⟨_, rfl, rfl, rfl⟩
    | 4, _ => exact ⟨_, rfl, rfl, rfl⟩))
  have HOF := Lib.hid (rofSlot_any (x0 := slot0) (s := s) E 0 (by omega) ⟨rfl, rfl, ⟨rfl, rfl, rfl⟩⟩)
  have HE := Lib.hid E
  have G : Hid (GOk slot0 (slotGs s 0)) := Lib.hid (SlotOk s 0 ⟨rfl, rfl, ⟨rfl, rfl, rfl⟩⟩)
  have HRBT := Lib.hid hrbt
  clear hV E hrb hs1 hWs hrbt hTW
  go_wp2_with fail
  refine HOF.out.mono ?_
  rintro e w2 ⟨u, rfl, ⟨g, c, l, rfl, hc, hF, hS⟩, hb⟩
  have hl : (slotGs s 0).length = l.length := hS.1
  have hg := (HE.out.below hb).apart hF.ex
  have H2 := Lib.hid (robject_any B (rb + 1) rb tb g 0 c slot0 44 5 s w2 w2 l (slotGs s 0) 0 slot0 hF.flds hc (show l.length ≤ 1000 by rw [← hl]; exact Nat.le_of_ble_eq_true rfl) hS (Chg.refl _ _ _) hg HE.out.nq HE.out.le HE.out.ne G.out.keys G.out.disj G.out.frames G.out.kinds (fun i => rfl) (REC.out.below hb) (ENV.out.below hb) (fun i hi o ho => rfl))
  have HB := Lib.hid hb
  clear hF hS hb hl hc hg HOF ef
  go_wp2_with fail
  refine H2.out.mono ?_
  intro e w3 hh
  cases hr : objR s (slotGs s 0) slot0 0 with
  | error f =>
    rw [hr] at hh
    have HTH := Lib.hid (getIs_th hh)
    obtain ⟨fb, rfl, hf, hc3⟩ := getIs_err hh
    have HF := Lib.hid hf
    have HC := Lib.hid hc3
    have HR := Lib.hid hr
    clear hh hf hc3 hr H2
    go_wp2
    obtain ⟨cs, hcs, hcn⟩ := HTH.out
    have hce : w3.heap[tb + 1]? = some (.cells #[.nilIface] 59 (0, 0)) := (HC.out.block _ (Nat.lt_of_lt_of_le (lt_of_block VE.out) HB.out.size) (by have := HRBT.out; omega) (by omega)).trans ((HB.out.block _ (lt_of_block VE.out)).trans VE.out)
    refine leaves_cons (f := 140) (args := #[.pointer (some ⟨tb, 0, none⟩), .pointer (some ⟨tb + 1, 0, none⟩)]) (by simp) (by simp [go_sem]) ?_
    refine (read1Slot_some tb (tb + 1) fb cs w3 hcs (arr5 hcn) hce (by omega)).mono ?_
    rintro e u' w4 ⟨rfl, rfl, HA⟩
    have y0 : ∀ o, w4.cell? ⟨tb, o, none⟩ = _ := block_cell HA.th
    have y1 : w4.cell? ⟨tb + 1, 0, none⟩ = some (.iface 127 (.pointer (some ⟨fb, 0, none⟩))) := block_cell HA.er 0
    refine ⟨_, by simp [results, Tryz.results77, go_sem, y0, y1]; rfl, ?_⟩
    refine ⟨?_, by
      rw [HR.out]
      refine ⟨fb, rfl, (HA.block fb (lt_of_block HF.out) (fun e => ?_) (fun e => ?_)).trans HF.out⟩
      · subst e; have h9 := hcs.symm.trans HF.out; cases h9
      · subst e; have h9 := hce.symm.trans HF.out; cases h9⟩
    have hsz := HTW.out
    have hb9 := HRBT.out
    refine ⟨HA.os.trans (HC.out.os.trans (HB.out.os.trans BV.out.os)), HA.tape.trans (HC.out.tape.trans (HB.out.tape.trans BV.out.tape)), HA.output.trans (HC.out.output.trans (HB.out.output.trans BV.out.output)), Nat.le_trans BV.out.size (Nat.le_trans HB.out.size (Nat.le_trans HC.out.size HA.size)), fun i hi => ?_⟩
    have l1 := Nat.lt_of_lt_of_le hi BV.out.size
    have l2 := Nat.lt_of_lt_of_le l1 HB.out.size
    exact (HA.block i (Nat.lt_of_lt_of_le l2 HC.out.size) (by omega) (by omega)).trans ((HC.out.block i l2 (by omega) (by omega)).trans ((HB.out.block i l1).trans (BV.out.block i hi)))
  | ok q =>
    rw [hr] at hh
    obtain ⟨rfl, hrd, hle, hx3, hc3⟩ := getIs_ok hh
    have HRD := Lib.hid hrd
    have HC := Lib.hid hc3
    have HR := Lib.hid hr
    have HKD : Hid (Kd slot0 q.1) := Lib.hid (objR_kinds G.out.kinds hr (fun i => rfl))
    obtain ⟨a3, c3, a4, c4, hth, hlies⟩ := slot_of_rec hx3 HKD.out
    have HTH := Lib.hid hth
    have HLI := Lib.hid hlies
    clear hh hrd hx3 hc3 hr H2 hth hlies
    obtain ⟨x, a⟩ := q
    have hts : tb < w3.heap.size := lt_of_block HTH.out
    have HQ3 : Hid (w3.heap[rb + 1]? = some (.cells #[.pointer (some ⟨rb, 0, none⟩)] 199 (0, 0))) := Lib.hid ((HC.out.block _ (Nat.lt_of_lt_of_le (lt_of_block VQ.out) HB.out.size) (by omega) (by have := HRBT.out; omega)).trans ((HB.out.block _ (lt_of_block VQ.out)).trans VQ.out))
    have HE3 : Hid (w3.heap[tb + 1]? = some (.cells #[.nilIface] 59 (0, 0))) := Lib.hid ((HC.out.block _ (Nat.lt_of_lt_of_le (lt_of_block VE.out) HB.out.size) (by have := HRBT.out; omega) (by omega)).trans ((HB.out.block _ (lt_of_block VE.out)).trans VE.out))
    have HET3 : Hid (ErrType w3) := Lib.hid (by
      have h1 := HET.out.below BV.out
      have h2 := h1.below HB.out
      unfold ErrType at h2 ⊢
      rw [World.cell?_of_block (w := w2) (HC.out.block _ (lt_of_cell h2) (show 0 ≠ rb by have := HRBT.out; have := HTW.out; omega) (show 0 ≠ tb by have := HTW.out; omega))]
      exact h2)
    go_upto_region 4 with fail
    obtain ⟨VO, hVO⟩ : ∃ VO : Nat → Option Nat, VO = fun j => if j = 6 then some tb else none := ⟨_, rfl⟩
    have vo6 : VO 6 = some tb := by rw [hVO]; rfl
    have von : ∀ j, j ≠ 6 → VO j = none := fun j h1 => by rw [hVO]; simp [h1]
    have vob : ∀ j b, b ≠ tb → VO j ≠ some b := fun j b hb => by
      by_cases h : j = 6
      · subst h; rw [vo6]; simp; exact fun e => hb e.symm
      · rw [von j h]; simp
    clear hVO
    refine wp_region_tailV 7 VO (fun i j b h1 h2 => by
        by_cases e1 : i = 6
        · by_cases e2 : j = 6
          · rw [e1, e2]
          · rw [von j e2] at h2; cases h2
        · rw [von i e1] at h1; cases h1) (fun _ _ _ => True) (fun _ => True) (fun _ _ _ _ _ => True) (fun _ _ => trivial) trivial
      (phis [fun u _ => u = .agg (cellsSlot x a3 c3 a4 c4), fun u _ => u = .pointer (some ⟨rb + 1, 0, none⟩), fun u _ => u = .pointer (some ⟨rb + 1, 0, none⟩), fun u _ => u = .pointer (some ⟨rb + 1, 0, none⟩), fun u _ => u = .pointer (some ⟨rb, 0, none⟩), fun u w' => if a < s.size then ∃ fb, u = .iface 127 (.pointer (some ⟨fb, 0, none⟩)) ∧ FltB w' fb 5 a ∧ fb ≠ tb else u = .nilIface, fun _ w' => w'.heap[tb]? = some (.cells (cellsSlot x a3 c3 a4 c4) 44 (0, 0))]) rfl (by kernel_rfl) (by kernel_rfl)
      (monoV_of ⟨monoV_eq, monoV_eq, monoV_eq, monoV_eq, monoV_eq, ?m5, ?m6, trivial⟩) (fun _ _ _ _ _ => trivial) (fun _ _ _ _ _ _ _ _ _ _ _ => trivial) (stepsV_of 7 ⟨?s0, ?s1, ?s2, ?s3, ?s4, ?s5, ?s6, trivial⟩) ?_
    case m5 =>
      intro j hj u w1 w2 he hp
      by_cases hlt : a < s.size
      · simp only [hlt, if_true] at hp ⊢
        obtain ⟨fb, h1, h2, h3⟩ := hp
        refine ⟨fb, h1, (he.1.block fb (lt_of_block h2) ?_).trans h2, h3⟩
        exact fun e => vob j fb h3 e.symm
      · simp only [hlt, if_false] at hp ⊢; exact hp
    case m6 =>
      intro j hj u w1 w2 he hp
      refine (he.1.block tb (lt_of_block hp) ?_).trans hp
      rw [von j hj]; simp
    case s0 =>
      refine stepV_val (v := .agg (cellsSlot x a3 c3 a4 c4)) (fun _ _ => trivial) (fun _ _ _ _ => ⟨trivial, trivial⟩) (fun D av wv hE hO hD => ?_) (fun _ => rfl)
      have h6 : ¬ D 6 := hE.notyet 6 _ rfl { on := 0, ground := .data } (by simp) rfl hE.me
      have hb0 : wv.heap[tb]? = some (.cells (cellsSlot x a3 c3 a4 c4) 44 (0, 0)) := (hE.late 6 h6 tb vo6 hts).trans HTH.out
      have k0 : wv.cell? ⟨tb, 0, none⟩ = some (.int .u64 (x 0).n) := block_cell hb0 0
      have k1 : wv.cell? ⟨tb, 1, none⟩ = some (.bool (x 1).q) := block_cell hb0 1
      have k2 : wv.cell? ⟨tb, 2, none⟩ = some (.int .u64 (x 2).n) := block_cell hb0 2
      have k3 : wv.cell? ⟨tb, 3, none⟩ = some (.slice a3 (len (x 3).l) c3) := block_cell hb0 3
      have k4 : wv.cell? ⟨tb, 4, none⟩ = some (.slice a4 (len (x 4).l) c4) := block_cell hb0 4
      have h4 : av.eval (.tmp 4) = .pointer (some ⟨tb, 0, none⟩) := hO.2.2 4 rfl
      have f4 := (ev_form av 4).symm.trans h4
      refine ⟨rfl, ?_⟩
      simp [go_sem, f4, k0, k1, k2, k3, k4]
    case s1 =>
      refine stepV_val (v := .pointer (some ⟨rb + 1, 0, none⟩)) (fun _ _ => trivial) (fun _ _ _ _ => ⟨trivial, trivial⟩) (fun D av wv hE hO hD => ?_) (fun _ => rfl)
      have h6 : av.eval (.tmp 6) = .pointer (some ⟨rb + 1, 0, none⟩) := hO.2.2 6 rfl
      have f6 := (ev_form av 6).symm.trans h6
      refine ⟨rfl, ?_⟩
      simp [go_sem, f6]
    case s2 =>
      refine stepV_val (v := .pointer (some ⟨rb + 1, 0, none⟩)) (fun _ _ => trivial) (fun _ _ _ _ => ⟨trivial, trivial⟩) (fun D av wv hE hO hD => ?_) (fun _ => rfl)
      have d17 : av.eval (.tmp 17) = .pointer (some ⟨rb + 1, 0, none⟩) := hD.1 rfl _ rfl
      have f17 := (ev_form av 17).symm.trans d17
      refine ⟨rfl, ?_⟩
      simp [go_sem, f17]
    case s3 =>
      refine stepV_val (v := .pointer (some ⟨rb + 1, 0, none⟩)) (fun _ _ => trivial) (fun _ _ _ _ => ⟨trivial, trivial⟩) (fun D av wv hE hO hD => ?_) (fun _ => rfl)
      have d18 : av.eval (.tmp 18) = .pointer (some ⟨rb + 1, 0, none⟩) := hD.1 rfl _ rfl
      have f18 := (ev_form av 18).symm.trans d18
      refine ⟨rfl, ?_⟩
      simp [go_sem, f18]
    case s4 =>
      refine stepV_val (v := .pointer (some ⟨rb, 0, none⟩)) (fun _ _ => trivial) (fun _ _ _ _ => ⟨trivial, trivial⟩) (fun D av wv hE hO hD => ?_) (fun _ => rfl)
      have d19 : av.eval (.tmp 19) = .pointer (some ⟨rb + 1, 0, none⟩) := hD.1 rfl _ rfl
      have f19 := (ev_form av 19).symm.trans d19
      have k0 : wv.cell? ⟨rb + 1, 0, none⟩ = some (.pointer (some ⟨rb, 0, none⟩)) := block_cell ((hE.ext.block (rb + 1) (lt_of_block HQ3.out) (fun j => vob j _ (by have := HRBT.out; omega))).trans HQ3.out) 0
      refine ⟨rfl, ?_⟩
      simp [go_sem, f19, k0]
    case s5 =>
      refine stepV_wp (fun D av wv hPP hE hO hD => ?_)
      have d20 : av.eval (.tmp 20) = .pointer (some ⟨rb, 0, none⟩) := hD.1 rfl _ rfl
      have f20 := (ev_form av 20).symm.trans d20
      have hrd : RdB wv rb s a 10240 := (hE.ext.block rb (lt_of_block HRD.out) (fun j => vob j _ (by have := HRBT.out; omega))).trans HRD.out
      have het : ErrType wv := by
        have h2 : ErrType w3.drew := HET3.out
        unfold ErrType at h2 ⊢
        rw [World.cell?_of_block (w := w3.drew) (hE.ext.block _ (lt_of_cell h2) (fun j => vob j _ (show 0 ≠ tb by have := HTW.out; omega)))]
        exact h2
      have hvs : w3.heap.size ≤ wv.heap.size := hE.ext.size
      refine ⟨rfl, wp_of_callR (f := 124) (args := #[.pointer (some ⟨rb, 0, none⟩)]) (R := fun u w2 => Below wv.heap.size wv w2 ∧ (if a < s.size then ∃ fb, u = .iface 127 (.pointer (some ⟨fb, 0, none⟩)) ∧ FltB w2 fb 5 a ∧ fb ≠ tb else u = .nilIface)) (by simp [go_sem, f20]) ((End_any wv rb s a 10240 het hrd hle hs).mono fun e w2 hh => ?_) (fun u w2 ⟨h1, h2⟩ => ⟨u, rfl, esV_of_ext h1 trivial, h2, fun _ _ _ _ _ => ⟨trivial, trivial⟩⟩)⟩
      obtain ⟨h1, h2⟩ := hh
      unfold leftOf at h2
      by_cases hlt : a < s.size
      · simp only [hlt, if_true] at h2 ⊢
        obtain ⟨fb, h3, h4, h5⟩ := h2
        exact ⟨_, h3, h1, fb, rfl, h5, by omega⟩
      · simp only [hlt, if_false] at h2 ⊢
        exact ⟨_, h2, h1, rfl⟩
    case s6 =>
      refine stepV_wp (fun D av wv hPP hE hO hD => ?_)
      have d16 : av.eval (.tmp 16) = .agg (cellsSlot x a3 c3 a4 c4) := hD.1 rfl _ rfl
      have f16 := (ev_form av 16).symm.trans d16
      have h4 : av.eval (.tmp 4) = .pointer (some ⟨tb, 0, none⟩) := hO.2.2 4 rfl
      have f4 := (ev_form av 4).symm.trans h4
      have hq : wv.heap[tb]? = some (.cells (cellsSlot x a3 c3 a4 c4) 44 (0, 0)) := (hE.own tb vo6 hts).trans HTH.out
      have k0 : wv.cell? ⟨tb, 0, none⟩ = some (.int .u64 (x 0).n) := block_cell hq 0
      have k1 : wv.cell? ⟨tb, 1, none⟩ = some (.bool (x 1).q) := block_cell hq 1
      have k2 : wv.cell? ⟨tb, 2, none⟩ = some (.int .u64 (x 2).n) := block_cell hq 2
      have k3 : wv.cell? ⟨tb, 3, none⟩ = some (.slice a3 (len (x 3).l) c3) := block_cell hq 3
      have k4 : wv.cell? ⟨tb, 4, none⟩ = some (.slice a4 (len (x 4).l) c4) := block_cell hq 4
      have hz : ∀ o, wv.frozen? ⟨tb, o, none⟩ = false := block_free hq
      have l0 : tb < wv.heap.size := lt_of_block hq
      refine ⟨rfl, ?_⟩
      unfold Oper.wp
      simp [go_sem, f4, f16, hz, l0, k0, k1, k2, k3, k4]
      exact ⟨⟨by rw [vo6]; exact (extB_setIn (extB_setIn (extB_setIn (extB_setIn (extB_setIn (ExtB_refl _ _) 0 _) 1 _) 2 _) 3 _) 4 _), trivial⟩, undef, (block_setCell (block_setCell (block_setCell (block_setCell (block_setCell hq (o := 0) _) (o := 1) _) (o := 2) _) (o := 3) _) (o := 4) _), fun _ _ _ _ _ => ⟨trivial, trivial⟩⟩
    intro a' w' hE _ hO hall _
    have hA := act_of_outer (ds := [16, 17, 18, 19, 20, 21]) rfl hO (by kernel_rfl)
    have e16 : (fun u (_ : World) => u = .agg (cellsSlot x a3 c3 a4 c4)) (a'.eval (.tmp 16)) w' := hall.1 _ rfl
    have e17 : (fun u (_ : World) => u = .pointer (some ⟨rb + 1, 0, none⟩)) (a'.eval (.tmp 17)) w' := hall.2.1 _ rfl
    have e18 : (fun u (_ : World) => u = .pointer (some ⟨rb + 1, 0, none⟩)) (a'.eval (.tmp 18)) w' := hall.2.2.1 _ rfl
    have e19 : (fun u (_ : World) => u = .pointer (some ⟨rb + 1, 0, none⟩)) (a'.eval (.tmp 19)) w' := hall.2.2.2.1 _ rfl
    have e20 : (fun u (_ : World) => u = .pointer (some ⟨rb, 0, none⟩)) (a'.eval (.tmp 20)) w' := hall.2.2.2.2.1 _ rfl
    have e21 : (fun u w' => if a < s.size then ∃ fb, u = .iface 127 (.pointer (some ⟨fb, 0, none⟩)) ∧ FltB w' fb 5 a ∧ fb ≠ tb else u = .nilIface) (a'.eval (.tmp 21)) w' := hall.2.2.2.2.2.1 _ rfl
    have z6 : w'.heap[tb]? = some (.cells (cellsSlot x a3 c3 a4 c4) 44 (0, 0)) := hall.2.2.2.2.2.2.1 _ rfl
    obtain ⟨v21, hv21⟩ : ∃ v, a'.eval (.tmp 21) = v := ⟨_, rfl⟩
    rw [hv21] at e21
    simp only [List.foldl_cons, List.foldl_nil, Act.put, List.setIfInBounds_toArray, List.set_cons_succ, List.set_cons_zero, e16, e17, e18, e19, e20, hv21] at hA
    clear hO hall e16 e17 e18 e19 e20 hv21
    subst hA
    have HX4 : Hid (ExtS VO w3 w') := Lib.hid ⟨hE.os, hE.tape, hE.output, hE.size, hE.block⟩
    have HZ6 := Lib.hid z6
    have hbe : w'.heap[tb + 1]? = some (.cells #[.nilIface] 59 (0, 0)) := (HX4.out.block _ (lt_of_block HE3.out) (fun j => vob j _ (by omega))).trans HE3.out
    have HBE := Lib.hid hbe
    have g0 : w'.cell? ⟨tb + 1, 0, none⟩ = some .nilIface := block_cell hbe 0
    have g1 : w'.frozen? ⟨tb + 1, 0, none⟩ = false := block_free hbe 0
    have HVO : Hid (∀ j b, b ≠ tb → VO j ≠ some b) := Lib.hid vob
    have HFIN : ∀ v, Hid (Below w.heap.size w (w'.setCell ⟨tb + 1, 0, none⟩ v)) := fun v => Lib.hid (by
      have hsz := HTW.out
      have hb9 := HRBT.out
      refine ⟨HX4.out.os.trans (HC.out.os.trans (HB.out.os.trans BV.out.os)), HX4.out.tape.trans (HC.out.tape.trans (HB.out.tape.trans BV.out.tape)), HX4.out.output.trans (HC.out.output.trans (HB.out.output.trans BV.out.output)), by simpa using Nat.le_trans BV.out.size (Nat.le_trans HB.out.size (Nat.le_trans HC.out.size HX4.out.size)), fun i hi => ?_⟩
      have l1 := Nat.lt_of_lt_of_le hi BV.out.size
      have l2 := Nat.lt_of_lt_of_le l1 HB.out.size
      rw [Below.heap_setCell _ _ _ _ (show i ≠ tb + 1 by omega)]
      exact (HX4.out.block i (Nat.lt_of_lt_of_le l2 HC.out.size) (fun j => HVO.out j i (by omega))).trans ((HC.out.block i l2 (by omega) (by omega)).trans ((HB.out.block i l1).trans (BV.out.block i hi))))
    have HLF : ∀ v, Hid (LiesSlot rb tb (w'.setCell ⟨tb + 1, 0, none⟩ v) x a3 c3 a4 c4) := fun v => Lib.hid (HLI.out.up (fun b h1 h2 => by
      have hb9 := HRBT.out
      rw [Below.heap_setCell _ _ _ _ (show b ≠ tb + 1 by omega)]
      exact HX4.out.block b h2 (fun j => HVO.out j b (by omega))))
    have HTF : ∀ v o, (w'.setCell ⟨tb + 1, 0, none⟩ v).cell? ⟨tb, o, none⟩ = (cellsSlot x a3 c3 a4 c4)[o]? := fun v o => block_cell (block_setCell_ne HZ6.out (by show tb ≠ tb + 1; omega) v) o
    have HEF : ∀ v, (w'.setCell ⟨tb + 1, 0, none⟩ v).cell? ⟨tb + 1, 0, none⟩ = some v := fun v => block_cell (block_setCell HBE.out v) 0
    have HTFH := Lib.hid HTF
    have HEFH := Lib.hid HEF
    clear hE z6 hbe vo6 von vob HTF HEF
    by_cases hlt : a < s.size
    · simp only [hlt, if_true] at e21
      obtain ⟨fb, rfl, hf, hft⟩ := e21
      have HF := Lib.hid hf
      have HLT := Lib.hid hlt
      clear hf hlt
      go_wp2
      refine leaves_cons (f := 140) (args := #[.pointer (some ⟨tb, 0, none⟩), .pointer (some ⟨tb + 1, 0, none⟩)]) (by simp) (by simp [go_sem]) ?_
      refine (read1Slot_idle _ _ _).mono ?_
      rintro e u' w'' ⟨rfl, rfl, rfl⟩
      have y0 := HTFH.out (.iface 127 (.pointer (some ⟨fb, 0, none⟩)))
      have y1 := HEFH.out (.iface 127 (.pointer (some ⟨fb, 0, none⟩)))
      refine ⟨_, by simp [results, Tryz.results77, go_sem, y0, y1]; rfl, ?_⟩
      refine ⟨(HFIN _).out, ?_⟩
      rw [HR.out]
      refine ⟨HKD.out, hle, a3, c3, a4, c4, ⟨rb, tb, by have := HRBT.out; have := HTW.out; omega, (HLF _).out⟩, ?_⟩
      rw [if_pos HLT.out]
      exact ⟨fb, rfl, block_setCell_ne HF.out (by intro e; subst e; have h9 := HBE.out.symm.trans HF.out; cases h9) _⟩
    · simp only [hlt, if_false] at e21
      subst e21
      have HLT := Lib.hid hlt
      clear hlt
      go_wp2
      refine leaves_cons (f := 140) (args := #[.pointer (some ⟨tb, 0, none⟩), .pointer (some ⟨tb + 1, 0, none⟩)]) (by simp) (by simp [go_sem]) ?_
      refine (read1Slot_idle _ _ _).mono ?_
      rintro e u' w'' ⟨rfl, rfl, rfl⟩
      have y0 := HTFH.out .nilIface
      have y1 := HEFH.out .nilIface
      refine ⟨_, by simp [results, Tryz.results77, go_sem, y0, y1]; rfl, ?_⟩
      refine ⟨(HFIN _).out, ?_⟩
      rw [HR.out]
      refine ⟨HKD.out, hle, a3, c3, a4, c4, ⟨rb, tb, by have := HRBT.out; have := HTW.out; omega, (HLF _).out⟩, ?_⟩
      rw [if_neg HLT.out]
abbrev cellsCert (x : Rcd) (a2 : Option Addr) (c2 : Nat) (a3 : Option Addr) (c3 : Nat) (a4 : Option Addr) (c4 : Nat) (a5 : Option Addr) (c5 : Nat) : Array Value := #[.string (x 0).s, .int .u64 (x 1).n, .slice a2 (len (x 2).rs) c2, .slice a3 (len (x 3).ns) c3, .slice a4 (len (x 4).l) c4, .slice a5 (len (x 5).l) c5]
abbrev zeroCert : Value := .agg #[.string ⟨#[]⟩, .int .u64 0, .slice none 0 0, .slice none 0 0, .slice none 0 0, .slice none 0 0]
def LiesCert (rb tb : Nat) (w : World) (x : Rcd) (a2 : Option Addr) (c2 : Nat) (a3 : Option Addr) (c3 : Nat) (a4 : Option Addr) (c4 : Nat) (a5 : Option Addr) (c5 : Nat) : Prop := HoldsD rb tb w (.slice a2 (len (x 2).rs) c2) (x 2) ∧ HoldsD rb tb w (.slice a3 (len (x 3).ns) c3) (x 3) ∧ HoldsD rb tb w (.slice a4 (len (x 4).l) c4) (x 4) ∧ HoldsD rb tb w (.slice a5 (len (x 5).l) c5) (x 5)
theorem LiesCert.below {rb tb : Nat} {w w' : World} {x : Rcd} {a2 : Option Addr} {c2 : Nat} {a3 : Option Addr} {c3 : Nat} {a4 : Option Addr} {c4 : Nat} {a5 : Option Addr} {c5 : Nat} (h : LiesCert rb tb w x a2 c2 a3 c3 a4 c4 a5 c5) (hb : Below w.heap.size w w') : LiesCert rb tb w' x a2 c2 a3 c3 a4 c4 a5 c5 := ⟨h.1.chg (Chg.of_below hb), h.2.1.chg (Chg.of_below hb), h.2.2.1.chg (Chg.of_below hb), h.2.2.2.chg (Chg.of_below hb)⟩
theorem LiesCert.chg {rb tb : Nat} {w w' : World} {x : Rcd} {a2 : Option Addr} {c2 : Nat} {a3 : Option Addr} {c3 : Nat} {a4 : Option Addr} {c4 : Nat} {a5 : Option Addr} {c5 : Nat} (h : LiesCert rb tb w x a2 c2 a3 c3 a4 c4 a5 c5) (hb : Chg rb tb w w') : LiesCert rb tb w' x a2 c2 a3 c3 a4 c4 a5 c5 := ⟨h.1.chg hb, h.2.1.chg hb, h.2.2.1.chg hb, h.2.2.2.chg hb⟩
theorem LiesCert.up {rb tb : Nat} {w w' : World} {x : Rcd} {a2 : Option Addr} {c2 : Nat} {a3 : Option Addr} {c3 : Nat} {a4 : Option Addr} {c4 : Nat} {a5 : Option Addr} {c5 : Nat} (h : LiesCert rb tb w x a2 c2 a3 c3 a4 c4 a5 c5) (hb : Up rb w w') : LiesCert rb tb w' x a2 c2 a3 c3 a4 c4 a5 c5 := ⟨h.1.up hb, h.2.1.up hb, h.2.2.1.up hb, h.2.2.2.up hb⟩
theorem cert_of_rec {rb tb : Nat} {w : World} {x : Rcd} (h : RecAt rb tb 28 6 w x) (hk : Kd cert0 x) : ∃ (a2 : Option Addr) (c2 : Nat) (a3 : Option Addr) (c3 : Nat) (a4 : Option Addr) (c4 : Nat) (a5 : Option Addr) (c5 : Nat), w.heap[tb]? = some (.cells (cellsCert x a2 c2 a3 c3 a4 c4 a5 c5) 28 (0, 0)) ∧ LiesCert rb tb w x a2 c2 a3 c3 a4 c4 a5 c5 := by
  obtain ⟨cs, h1, h2, h3⟩ := h
  obtain ⟨m0, e0⟩ := hk.str (show kindD (cert0 0) = _ from rfl)
  obtain ⟨u0, g0, d0⟩ := h3 0 (by decide)
  rw [e0] at d0
  simp only [HoldsD] at d0
  subst d0
  obtain ⟨m1, e1⟩ := hk.num (show kindD (cert0 1) = _ from rfl)
  obtain ⟨u1, g1, d1⟩ := h3 1 (by decide)
  rw [e1] at d1
  simp only [HoldsD] at d1
  subst d1
  obtain ⟨m2, e2⟩ := hk.revs (show kindD (cert0 2) = _ from rfl)
  obtain ⟨u2, g2, d2⟩ := h3 2 (by decide)
  have D2 := d2
  rw [e2] at d2
  obtain ⟨a2, c2, q2, -⟩ := d2
  subst q2
  obtain ⟨m3, e3⟩ := hk.nums (show kindD (cert0 3) = _ from rfl)
  obtain ⟨u3, g3, d3⟩ := h3 3 (by decide)
  have D3 := d3
  rw [e3] at d3
  obtain ⟨a3, c3, q3, -⟩ := d3
  subst q3
  obtain ⟨m4, e4⟩ := hk.strs (show kindD (cert0 4) = _ from rfl)
  obtain ⟨u4, g4, d4⟩ := h3 4 (by decide)
  have D4 := d4
  rw [e4] at d4
  obtain ⟨a4, c4, q4, -⟩ := d4
  subst q4
  obtain ⟨m5, e5⟩ := hk.strs (show kindD (cert0 5) = _ from rfl)
  obtain ⟨u5, g5, d5⟩ := h3 5 (by decide)
  have D5 := d5
  rw [e5] at d5
  obtain ⟨a5, c5, q5, -⟩ := d5
  subst q5
  refine ⟨a2, c2, a3, c3, a4, c4, a5, c5, ?_, ?_⟩
  · rw [h1]; congr 2; apply Array.ext_getElem?; intro i
    match i with
    | 0 => rw [g0]; simp [e0, DV.n, DV.q, DV.s, DV.l, DV.ns, DV.rs]
    | 1 => rw [g1]; simp [e1, DV.n, DV.q, DV.s, DV.l, DV.ns, DV.rs]
    | 2 => rw [g2]; simp [e2, DV.n, DV.q, DV.s, DV.l, DV.ns, DV.rs]
    | 3 => rw [g3]; simp [e3, DV.n, DV.q, DV.s, DV.l, DV.ns, DV.rs]
    | 4 => rw [g4]; simp [e4, DV.n, DV.q, DV.s, DV.l, DV.ns, DV.rs]
    | 5 => rw [g5]; simp [e5, DV.n, DV.q, DV.s, DV.l, DV.ns, DV.rs]
    | i + 6 => rw [Array.getElem?_eq_none (by omega), Array.getElem?_eq_none (by simp)]
  · exact ⟨(by rw [e2] at D2 ⊢; exact D2), (by rw [e3] at D3 ⊢; exact D3), (by rw [e4] at D4 ⊢; exact D4), (by rw [e5] at D5 ⊢; exact D5)⟩
set_option maxRecDepth 100000 in
theorem read1Cert_idle (p q : Value) (w : World) : CallsD Tryz.prog 160 #[p, q] .returning w fun e u' w' => e = .returned (.tuple #[]) ∧ u' = .returning ∧ w' = w := by
  refine callsD_of_wpS Tryz.func160 rfl fun c₀ cs hu => ?_
  apply wpS_seq
  apply wpS_region
  simp [wpOpsS, go_sem, recoverD, hu, Tryz.ntmps160, Exit.thenS]
  refine wpS_of_wp ?_
  obtain ⟨Q, hQ⟩ : ∃ Q : Exit → Act → World → Prop, (fun e a' w' => bodyPostS Tryz.prog Tryz.f160 c₀ cs (fun e u' w' => e = Ending.returned (.tuple #[]) ∧ u' = .returning ∧ w' = w) e a' (c₀ :: cs) w') = Q := ⟨_, rfl⟩
  rw [hQ, read1_frame]
  have HQ := Lib.hid hQ
  clear hQ
  go_wp2
  rw [← HQ.out]
  simp [bodyPostS, results, Tryz.results160]
  cases c₀; simp_all
structure AfterCert (tb eb fb : Nat) (w w' : World) : Prop where
  os : w'.os = w.os
  tape : w'.tape = w.tape
  output : w'.output = w.output
  size : w.heap.size ≤ w'.heap.size
  block : ∀ i, i < w.heap.size → i ≠ tb → i ≠ eb → w'.heap[i]? = w.heap[i]?
  th : w'.heap[tb]? = some (.cells #[.string ⟨#[]⟩, .int .u64 0, .slice none 0 0, .slice none 0 0, .slice none 0 0, .slice none 0 0] 28 (0, 0))
  er : w'.heap[eb]? = some (.cells #[.iface 127 (.pointer (some ⟨fb, 0, none⟩))] 59 (0, 0))
set_option maxRecDepth 100000 in
set_option maxHeartbeats 4000000 in
theorem read1Cert_some (tb eb fb : Nat) (cs : Array Value) (w : World) (ht : w.heap[tb]? = some (.cells cs 28 (0, 0))) (hcs : ∃ u0 u1 u2 u3 u4 u5 : Value, cs = #[u0, u1, u2, u3, u4, u5] ) (he : w.heap[eb]? = some (.cells #[.nilIface] 59 (0, 0))) (hne : tb ≠ eb) :
    CallsD Tryz.prog 160 #[.pointer (some ⟨tb, 0, none⟩), .pointer (some ⟨eb, 0, none⟩)] (.panicking (stopC fb)) w fun e u' w' =>
      e = .returned (.tuple #[]) ∧ u' = .panicking [{ v := .iface 193 (.agg #[.iface 127 (.pointer (some ⟨fb, 0, none⟩))]), recovered := true }] ∧ AfterCert tb eb fb w w' := by
  obtain ⟨u0, u1, u2, u3, u4, u5, rfl⟩ := hcs
  refine callsD_of_wpS Tryz.func160 rfl fun c₀ cs hu => ?_
  apply wpS_seq
  apply wpS_region
  simp [wpOpsS, go_sem, recoverD, hu, stopC, Tryz.ntmps160, Exit.thenS]
  refine wpS_of_wp ?_
  obtain ⟨Q, hQ⟩ : ∃ Q : Exit → Act → World → Prop, (fun e a' w' => bodyPostS Tryz.prog Tryz.f160 c₀ cs (fun e u' w' => e = Ending.returned (.tuple #[]) ∧ u' = .panicking [{ v := .iface 193 (.agg #[.iface 127 (.pointer (some ⟨fb, 0, none⟩))]), recovered := true }] ∧ AfterCert tb eb fb w w') e a' ({ c₀ with mode := .panicking [{ v := .iface 193 (.agg #[.iface 127 (.pointer (some ⟨fb, 0, none⟩))]), recovered := true }] } :: cs) w') = Q := ⟨_, rfl⟩
  rw [hQ, read1_frame]
  have HQ := Lib.hid hQ
  have HT := Lib.hid ht
  have HE := Lib.hid he
  clear hQ hu ht he
  have ha := assert_stop fb
  go_wp2_with fail
  obtain ⟨V, hV⟩ : ∃ V, (w.alloc (.cells #[.iface 127 (.pointer (some ⟨fb, 0, none⟩))] 193)).alloc (.cells #[.string ⟨#[]⟩, .int .u64 0, .slice none 0 0, .slice none 0 0, .slice none 0 0, .slice none 0 0] 28) = V := ⟨_, rfl⟩
  obtain ⟨sb, hsb⟩ : ∃ sb, w.heap.size = sb := ⟨_, rfl⟩
  have HV : Hid (Below w.heap.size w V) := Lib.hid (by rw [← hV]; exact balloc (balloc (Below.refl _ _) _) _)
  have hbs : V.heap[sb]? = some (.cells #[.iface 127 (.pointer (some ⟨fb, 0, none⟩))] 193 (0, 0)) := by rw [← hV, ← hsb]; exact block_alloc (heap_alloc_new _ _) _
  have hbn : V.heap[sb + 1]? = some (.cells #[.string ⟨#[]⟩, .int .u64 0, .slice none 0 0, .slice none 0 0, .slice none 0 0, .slice none 0 0] 28 (0, 0)) := by rw [← hV]; exact alloc_new_at _ (by simp [hsb])
  have hbt : V.heap[tb]? = some (.cells #[u0, u1, u2, u3, u4, u5] 28 (0, 0)) := (HV.out.block _ (lt_of_block HT.out)).trans HT.out
  have hbe : V.heap[eb]? = some (.cells #[.nilIface] 59 (0, 0)) := (HV.out.block _ (lt_of_block HE.out)).trans HE.out
  have k0 : V.cell? ⟨sb, 0, none⟩ = some (.iface 127 (.pointer (some ⟨fb, 0, none⟩))) := block_cell hbs 0
  have m0 : V.cell? ⟨sb + 1, 0, none⟩ = some (.string ⟨#[]⟩) := block_cell hbn 0
  have m1 : V.cell? ⟨sb + 1, 1, none⟩ = some (.int .u64 0) := block_cell hbn 1
  have m2 : V.cell? ⟨sb + 1, 2, none⟩ = some (.slice none 0 0) := block_cell hbn 2
  have m3 : V.cell? ⟨sb + 1, 3, none⟩ = some (.slice none 0 0) := block_cell hbn 3
  have m4 : V.cell? ⟨sb + 1, 4, none⟩ = some (.slice none 0 0) := block_cell hbn 4
  have m5 : V.cell? ⟨sb + 1, 5, none⟩ = some (.slice none 0 0) := block_cell hbn 5
  have hts : tb < sb := by have := lt_of_block HT.out; omega
  have hnt : some (sb + 1) ≠ some tb := by simp; omega
  have hst : some sb ≠ some tb := by simp; omega
  have HBT := Lib.hid hbt
  have HBE := Lib.hid hbe
  try rw [hV]
  try simp only [hsb]
  clear hV hbs hbn hbt hbe ha
  refine wp_region_tail 4 3 ((some tb)) (phis [fun u _ => u = (.agg #[.string ⟨#[]⟩, .int .u64 0, .slice none 0 0, .slice none 0 0, .slice none 0 0, .slice none 0 0]), fun u _ => u = (.pointer (some ⟨sb, 0, none⟩)), fun u _ => u = (.iface 127 (.pointer (some ⟨fb, 0, none⟩))), fun _ w' => w'.heap[tb]? = some (.cells #[.string ⟨#[]⟩, .int .u64 0, .slice none 0 0, .slice none 0 0, .slice none 0 0, .slice none 0 0] 28 (0, 0))]) rfl (by kernel_rfl) (by kernel_rfl) (mono_of ⟨mono_eq, mono_eq, mono_eq, ?m3, trivial⟩) (steps_of 4 ⟨?s0, ?s1, ?s2, ?s3, trivial⟩) ?_
  case m3 =>
    exact ⟨fun u w1 w2 h hb => ext_block h hb, fun hn => absurd rfl hn⟩
  case s0 =>
    refine step_val (v := (.agg #[.string ⟨#[]⟩, .int .u64 0, .slice none 0 0, .slice none 0 0, .slice none 0 0, .slice none 0 0])) (fun av wv hE hS hO hD => ?_) (fun _ => rfl)
    have h5 : av.eval (.tmp 5) = (.pointer (some ⟨sb + 1, 0, none⟩)) := hO.2.2 5 rfl
    have f5 := (ev_form av 5).symm.trans h5
    have k0 := extB_cell hE hst k0
    have m0 := extB_cell hE hnt m0
    have m1 := extB_cell hE hnt m1
    have m2 := extB_cell hE hnt m2
    have m3 := extB_cell hE hnt m3
    have m4 := extB_cell hE hnt m4
    have m5 := extB_cell hE hnt m5
    refine ⟨rfl, ?_⟩
    simp [go_sem, f5, k0, m0, m1, m2, m3, m4, m5]
  case s1 =>
    refine step_val (v := (.pointer (some ⟨sb, 0, none⟩))) (fun av wv hE hS hO hD => ?_) (fun _ => rfl)
    have h3 : av.eval (.tmp 3) = (.pointer (some ⟨sb, 0, none⟩)) := hO.2.2 3 rfl
    have f3 := (ev_form av 3).symm.trans h3
    refine ⟨rfl, ?_⟩
    simp [go_sem, f3]
  case s2 =>
    refine step_val (v := (.iface 127 (.pointer (some ⟨fb, 0, none⟩)))) (fun av wv hE hS hO hD => ?_) (fun _ => rfl)
    have d18 : av.eval (.tmp 18) = (.pointer (some ⟨sb, 0, none⟩)) := hD.1 rfl _ rfl
    have f18 := (ev_form av 18).symm.trans d18
    have k0 := extB_cell hE hst k0
    have m0 := extB_cell hE hnt m0
    have m1 := extB_cell hE hnt m1
    have m2 := extB_cell hE hnt m2
    have m3 := extB_cell hE hnt m3
    have m4 := extB_cell hE hnt m4
    have m5 := extB_cell hE hnt m5
    refine ⟨rfl, ?_⟩
    simp [go_sem, f18, k0, m0, m1, m2, m3, m4, m5]
  case s3 =>
    refine step_wp (fun av wv hE hS hO hD => ?_)
    have h0 : av.eval (.tmp 0) = (.pointer (some ⟨tb, 0, none⟩)) := hO.2.2 0 rfl
    have f0 := (ev_form av 0).symm.trans h0
    have d17 : av.eval (.tmp 17) = (.agg #[.string ⟨#[]⟩, .int .u64 0, .slice none 0 0, .slice none 0 0, .slice none 0 0, .slice none 0 0]) := hD.1 rfl _ rfl
    have f17 := (ev_form av 17).symm.trans d17
    refine ⟨rfl, ?_⟩
    have hq : wv.heap[tb]? = some (.cells #[u0, u1, u2, u3, u4, u5] 28 (0, 0)) := ext_block (w := V.drew) (hS rfl) HBT.out
    have q0 : wv.cell? ⟨tb, 0, none⟩ = some u0 := block_cell hq 0
    have q1 : wv.cell? ⟨tb, 1, none⟩ = some u1 := block_cell hq 1
    have q2 : wv.cell? ⟨tb, 2, none⟩ = some u2 := block_cell hq 2
    have q3 : wv.cell? ⟨tb, 3, none⟩ = some u3 := block_cell hq 3
    have q4 : wv.cell? ⟨tb, 4, none⟩ = some u4 := block_cell hq 4
    have q5 : wv.cell? ⟨tb, 5, none⟩ = some u5 := block_cell hq 5
    have hz : ∀ o, wv.frozen? ⟨tb, o, none⟩ = false := block_free hq
    unfold Oper.wp
    have l0 : tb < wv.heap.size := lt_of_block hq
    have h0 : av.eval (.tmp 0) = (.pointer (some ⟨tb, 0, none⟩)) := hO.2.2 0 rfl
    have f0 := (ev_form av 0).symm.trans h0
    simp [go_sem, f0, f17, hz, l0, q0, q1, q2, q3, q4, q5]
    exact ⟨es_sp (extB_setIn (extB_setIn (extB_setIn (extB_setIn (extB_setIn (extB_setIn (ExtB_refl _ _) 0 _) 1 _) 2 _) 3 _) 4 _) 5 _), undef, (block_setCell (block_setCell (block_setCell (block_setCell (block_setCell (block_setCell hq (o := 0) _) (o := 1) _) (o := 2) _) (o := 3) _) (o := 4) _) (o := 5) _)⟩
  intro a' w' hE hO hall
  have hA := act_of_outer (ds := [17, 18, 19]) rfl hO (by kernel_rfl)
  have e17 : (fun u _ => u = (.agg #[.string ⟨#[]⟩, .int .u64 0, .slice none 0 0, .slice none 0 0, .slice none 0 0, .slice none 0 0])) (a'.eval (.tmp 17)) w' := hall.1 _ rfl
  have e18 : (fun u _ => u = (.pointer (some ⟨sb, 0, none⟩))) (a'.eval (.tmp 18)) w' := hall.2.1 _ rfl
  have e19 : (fun u _ => u = (.iface 127 (.pointer (some ⟨fb, 0, none⟩)))) (a'.eval (.tmp 19)) w' := hall.2.2.1 _ rfl
  have z3 : (fun _ w' => w'.heap[tb]? = some (.cells #[.string ⟨#[]⟩, .int .u64 0, .slice none 0 0, .slice none 0 0, .slice none 0 0, .slice none 0 0] 28 (0, 0))) undef w' := hall.2.2.2.1 _ rfl
  simp only [List.foldl_cons, List.foldl_nil, Act.put, List.setIfInBounds_toArray, List.set_cons_succ, List.set_cons_zero, e17, e18, e19] at hA
  clear hO hall e17 e18 e19
  subst hA
  have HE := Lib.hid (of_drewE hE)
  have HZ := Lib.hid z3
  have hbe : w'.heap[eb]? = some (.cells #[.nilIface] 59 (0, 0)) := extB_block HE.out (by simp; exact fun e => hne e.symm) HBE.out
  have HBE := Lib.hid hbe
  have q0 : w'.cell? ⟨eb, 0, none⟩ = some .nilIface := block_cell hbe 0
  have q1 : w'.frozen? ⟨eb, 0, none⟩ = false := block_free hbe 0
  clear hE z3 hbe
  go_wp2
  rw [← HQ.out]
  have hs1 : (w'.setCell ⟨eb, 0, none⟩ (.iface 127 (.pointer (some ⟨fb, 0, none⟩)))).heap.size = w'.heap.size := by simp
  refine ⟨rfl, _, rfl, .tuple #[], by simp [results, Tryz.results160], rfl, rfl, ?_⟩
  exact ⟨HE.out.os.trans HV.out.os, HE.out.tape.trans HV.out.tape, HE.out.output.trans HV.out.output, by rw [hs1]; exact Nat.le_trans HV.out.size HE.out.size, fun i hi h1 h2 => by
    rw [Below.heap_setCell _ _ _ _ h2]
    exact (HE.out.block i (Nat.lt_of_lt_of_le hi HV.out.size) (by simpa using h1)).trans (HV.out.block i hi), block_setCell_ne HZ.out hne _, block_setCell HBE.out _⟩
def RdCert (s : ByteArray) (w : World) (e : Ending) (w' : World) : Prop :=
  Below w.heap.size w w' ∧ match objR s (certGs s) cert0 0 with
    | .error f => ∃ fb, e = .returned (.tuple #[zeroCert, .iface 127 (.pointer (some ⟨fb, 0, none⟩))]) ∧ FltB w' fb f.1 f.2
    | .ok y => Kd cert0 y.1 ∧ y.2 ≤ s.size ∧ ∃ (a2 : Option Addr) (c2 : Nat) (a3 : Option Addr) (c3 : Nat) (a4 : Option Addr) (c4 : Nat) (a5 : Option Addr) (c5 : Nat), (∃ rb tb, w.heap.size ≤ rb ∧ LiesCert rb tb w' y.1 a2 c2 a3 c3 a4 c4 a5 c5) ∧ (if y.2 < s.size then ∃ fb, e = .returned (.tuple #[.agg (cellsCert y.1 a2 c2 a3 c3 a4 c4 a5 c5), .iface 127 (.pointer (some ⟨fb, 0, none⟩))]) ∧ FltB w' fb 5 y.2 else e = .returned (.tuple #[.agg (cellsCert y.1 a2 c2 a3 c3 a4 c4 a5 c5), .nilIface]))
set_option maxRecDepth 100000 in
set_option maxHeartbeats 8000000 in
theorem readCert_any (B : Nat) (s : ByteArray) (w : World) (hT : Tabs B w) (hET : ErrType w) (hB : B ≤ w.heap.size) (hg : 0 < B) (hs : s.size ≤ 9223372036854775807) :
    Calls Tryz.prog 100 #[.string s, .func (.func 93) #[] #[]] w (RdCert s w) := by
  have HT := Lib.hid hT
  have HET := Lib.hid hET
  have ef := enters_of Tryz.func93 (by kernel_rfl) rfl
  clear hT hET
  go_enter_defers Tryz.func100, Tryz.ntmps100
  go_wp2_with fail
  obtain ⟨tb, htb⟩ : ∃ tb, w.heap.size = tb := ⟨_, rfl⟩
  obtain ⟨W, hW⟩ : ∃ W, (w.alloc (.cells #[.string ⟨#[]⟩, .int .u64 0, .slice none 0 0, .slice none 0 0, .slice none 0 0, .slice none 0 0] 28)).alloc (.cells #[.nilIface] 59) = W := ⟨_, rfl⟩
  have WB : Hid (Below w.heap.size w W) := Lib.hid (by rw [← hW]; exact balloc (balloc (Below.refl _ _) _) _)
  have W0 : Hid (W.heap[tb]? = some (.cells #[.string ⟨#[]⟩, .int .u64 0, .slice none 0 0, .slice none 0 0, .slice none 0 0, .slice none 0 0] 28 (0, 0))) := Lib.hid (by rw [← hW, ← htb]; exact block_alloc (heap_alloc_new _ _) _)
  have W1 : Hid (W.heap[tb + 1]? = some (.cells #[.nilIface] 59 (0, 0))) := Lib.hid (by rw [← hW]; exact alloc_new_at _ (by simp [htb]))
  have hWs : W.heap.size = tb + 1 + 1 := by rw [← hW]; simp [htb]
  have HTW : Hid (w.heap.size = tb) := Lib.hid htb
  try rw [hW]
  try simp only [htb]
  clear hW htb
  refine (New_any W s 10240).mono ?_
  rintro e w1 ⟨rfl, hw1⟩
  have hm : max (10240 : Int) 0 = 10240 := by decide
  rw [hm] at hw1
  obtain ⟨rb, hrb⟩ : ∃ rb, W.heap.size = rb := ⟨_, rfl⟩
  have R1 : Hid (RdB w1 rb s 0 10240) := Lib.hid (by rw [hw1, ← hrb]; exact heap_alloc_new _ _)
  have WB1 : Hid (Below W.heap.size W w1) := Lib.hid (by rw [hw1]; exact balloc (Below.refl _ _) _)
  have hs1 : w1.heap.size = rb + 1 := by rw [hw1, ← hrb]; simp
  try rw [hrb]
  clear hw1
  go_upto_region 3 with fail
  obtain ⟨V, hV⟩ : ∃ V, w1.alloc (.cells #[.pointer (some ⟨rb, 0, none⟩)] 199) = V := ⟨_, rfl⟩
  have VB : Hid (Below w1.heap.size w1 V) := Lib.hid (by rw [← hV]; exact balloc (Below.refl _ _) _)
  have VQ : Hid (V.heap[rb + 1]? = some (.cells #[.pointer (some ⟨rb, 0, none⟩)] 199 (0, 0))) := Lib.hid (by rw [← hV]; exact alloc_new_at _ hs1)
  try rw [hV]
  try simp only [hs1]
  have hrbt : rb = tb + 1 + 1 := hrb.symm.trans hWs
  have hTW := HTW.out
  have BV : Hid (Below w.heap.size w V) := Lib.hid (bnext (bnext WB.out WB1.out) VB.out)
  have WV : Hid (Below W.heap.size W V) := Lib.hid (bnext WB1.out VB.out)
  have VT : Hid (V.heap[tb]? = some (.cells #[.string ⟨#[]⟩, .int .u64 0, .slice none 0 0, .slice none 0 0, .slice none 0 0, .slice none 0 0] 28 (0, 0))) := Lib.hid ((WV.out.block _ (lt_of_block W0.out)).trans W0.out)
  have VE : Hid (V.heap[tb + 1]? = some (.cells #[.nilIface] 59 (0, 0))) := Lib.hid ((WV.out.block _ (lt_of_block W1.out)).trans W1.out)
  have VR : Hid (RdB V rb s 0 10240) := Lib.hid (R1.out.below VB.out)
  have ENV : Hid (RdEnv B V (rb + 1) rb s 0) := Lib.hid ⟨VQ.out, VR.out, HT.out.below BV.out, by omega, by omega, by omega, Nat.zero_le _, hs⟩
  have E : TEnv B (rb + 1) rb tb 6 28 V := ⟨⟨_, VR.out⟩, ⟨_, VT.out⟩, by omega, by omega, by omega, by decide, by decide⟩
  have REC : Hid (RecAt rb tb 28 6 V cert0) := Lib.hid (rec_zero VT.out rfl (fun i hi => by
    match i, hi with
    | 0, _ => exact ⟨_, rfl, rfl⟩
    | 1, _ => exact ⟨_, rfl, rfl⟩
    | 2, _ => exact ⟨_, rfl, rfl, rfl⟩
    | 3, _ => exact ⟨_, rfl, rfl, rfl⟩
    | 4, _ => exact ⟨_, rfl, rfl, rfl⟩
    | 5, _ => exact ⟨_, rfl, rfl, rfl⟩))
  have HOF := Lib.hid (rofCert_any (s := s) E)
  have HE := Lib.hid E
  have G : Hid (GOk cert0 (certGs s)) := Lib.hid (CertOk s)
  have HRBT := Lib.hid hrbt
  clear hV E hrb hs1 hWs hrbt hTW
  go_wp2_with fail
  refine HOF.out.mono ?_
  rintro e w2 ⟨u, rfl, ⟨g, c, l, rfl, hc, hF, hS⟩, hb⟩
  have hl : (certGs s).length = l.length := hS.1
  have hg := (HE.out.below hb).apart hF.ex
  have H2 := Lib.hid (robject_any B (rb + 1) rb tb g 0 c cert0 28 6 s w2 w2 l (certGs s) 0 cert0 hF.flds hc (show l.length ≤ 1000 by rw [← hl]; exact Nat.le_of_ble_eq_true rfl) hS (Chg.refl _ _ _) hg HE.out.nq HE.out.le HE.out.ne G.out.keys G.out.disj G.out.frames G.out.kinds (fun i => rfl) (REC.out.below hb) (ENV.out.below hb) (fun i hi o ho => rfl))
  have HB := Lib.hid hb
  clear hF hS hb hl hc hg HOF ef
  go_wp2_with fail
  refine H2.out.mono ?_
  intro e w3 hh
  cases hr : objR s (certGs s) cert0 0 with
  | error f =>
    rw [hr] at hh
    have HTH := Lib.hid (getIs_th hh)
    obtain ⟨fb, rfl, hf, hc3⟩ := getIs_err hh
    have HF := Lib.hid hf
    have HC := Lib.hid hc3
    have HR := Lib.hid hr
    clear hh hf hc3 hr H2
    go_wp2
    obtain ⟨cs, hcs, hcn⟩ := HTH.out
    have hce : w3.heap[tb + 1]? = some (.cells #[.nilIface] 59 (0, 0)) := (HC.out.block _ (Nat.lt_of_lt_of_le (lt_of_block VE.out) HB.out.size) (by have := HRBT.out; omega) (by omega)).trans ((HB.out.block _ (lt_of_block VE.out)).trans VE.out)
    refine leaves_cons (f := 160) (args := #[.pointer (some ⟨tb, 0, none⟩), .pointer (some ⟨tb + 1, 0, none⟩)]) (by simp) (by simp [go_sem]) ?_
    refine (read1Cert_some tb (tb + 1) fb cs w3 hcs (arr6 hcn) hce (by omega)).mono ?_
    rintro e u' w4 ⟨rfl, rfl, HA⟩
    have y0 : ∀ o, w4.cell? ⟨tb, o, none⟩ = _ := block_cell HA.th
    have y1 : w4.cell? ⟨tb + 1, 0, none⟩ = some (.iface 127 (.pointer (some ⟨fb, 0, none⟩))) := block_cell HA.er 0
    refine ⟨_, by simp [results, Tryz.results100, go_sem, y0, y1]; rfl, ?_⟩
    refine ⟨?_, by
      rw [HR.out]
      refine ⟨fb, rfl, (HA.block fb (lt_of_block HF.out) (fun e => ?_) (fun e => ?_)).trans HF.out⟩
      · subst e; have h9 := hcs.symm.trans HF.out; cases h9
      · subst e; have h9 := hce.symm.trans HF.out; cases h9⟩
    have hsz := HTW.out
    have hb9 := HRBT.out
    refine ⟨HA.os.trans (HC.out.os.trans (HB.out.os.trans BV.out.os)), HA.tape.trans (HC.out.tape.trans (HB.out.tape.trans BV.out.tape)), HA.output.trans (HC.out.output.trans (HB.out.output.trans BV.out.output)), Nat.le_trans BV.out.size (Nat.le_trans HB.out.size (Nat.le_trans HC.out.size HA.size)), fun i hi => ?_⟩
    have l1 := Nat.lt_of_lt_of_le hi BV.out.size
    have l2 := Nat.lt_of_lt_of_le l1 HB.out.size
    exact (HA.block i (Nat.lt_of_lt_of_le l2 HC.out.size) (by omega) (by omega)).trans ((HC.out.block i l2 (by omega) (by omega)).trans ((HB.out.block i l1).trans (BV.out.block i hi)))
  | ok q =>
    rw [hr] at hh
    obtain ⟨rfl, hrd, hle, hx3, hc3⟩ := getIs_ok hh
    have HRD := Lib.hid hrd
    have HC := Lib.hid hc3
    have HR := Lib.hid hr
    have HKD : Hid (Kd cert0 q.1) := Lib.hid (objR_kinds G.out.kinds hr (fun i => rfl))
    obtain ⟨a2, c2, a3, c3, a4, c4, a5, c5, hth, hlies⟩ := cert_of_rec hx3 HKD.out
    have HTH := Lib.hid hth
    have HLI := Lib.hid hlies
    clear hh hrd hx3 hc3 hr H2 hth hlies
    obtain ⟨x, a⟩ := q
    have hts : tb < w3.heap.size := lt_of_block HTH.out
    have HQ3 : Hid (w3.heap[rb + 1]? = some (.cells #[.pointer (some ⟨rb, 0, none⟩)] 199 (0, 0))) := Lib.hid ((HC.out.block _ (Nat.lt_of_lt_of_le (lt_of_block VQ.out) HB.out.size) (by omega) (by have := HRBT.out; omega)).trans ((HB.out.block _ (lt_of_block VQ.out)).trans VQ.out))
    have HE3 : Hid (w3.heap[tb + 1]? = some (.cells #[.nilIface] 59 (0, 0))) := Lib.hid ((HC.out.block _ (Nat.lt_of_lt_of_le (lt_of_block VE.out) HB.out.size) (by have := HRBT.out; omega) (by omega)).trans ((HB.out.block _ (lt_of_block VE.out)).trans VE.out))
    have HET3 : Hid (ErrType w3) := Lib.hid (by
      have h1 := HET.out.below BV.out
      have h2 := h1.below HB.out
      unfold ErrType at h2 ⊢
      rw [World.cell?_of_block (w := w2) (HC.out.block _ (lt_of_cell h2) (show 0 ≠ rb by have := HRBT.out; have := HTW.out; omega) (show 0 ≠ tb by have := HTW.out; omega))]
      exact h2)
    go_upto_region 4 with fail
    obtain ⟨VO, hVO⟩ : ∃ VO : Nat → Option Nat, VO = fun j => if j = 6 then some tb else none := ⟨_, rfl⟩
    have vo6 : VO 6 = some tb := by rw [hVO]; rfl
    have von : ∀ j, j ≠ 6 → VO j = none := fun j h1 => by rw [hVO]; simp [h1]
    have vob : ∀ j b, b ≠ tb → VO j ≠ some b := fun j b hb => by
      by_cases h : j = 6
      · subst h; rw [vo6]; simp; exact fun e => hb e.symm
      · rw [von j h]; simp
    clear hVO
    refine wp_region_tailV 7 VO (fun i j b h1 h2 => by
        by_cases e1 : i = 6
        · by_cases e2 : j = 6
          · rw [e1, e2]
          · rw [von j e2] at h2; cases h2
        · rw [von i e1] at h1; cases h1) (fun _ _ _ => True) (fun _ => True) (fun _ _ _ _ _ => True) (fun _ _ => trivial) trivial
      (phis [fun u _ => u = .agg (cellsCert x a2 c2 a3 c3 a4 c4 a5 c5), fun u _ => u = .pointer (some ⟨rb + 1, 0, none⟩), fun u _ => u = .pointer (some ⟨rb + 1, 0, none⟩), fun u _ => u = .pointer (some ⟨rb + 1, 0, none⟩), fun u _ => u = .pointer (some ⟨rb, 0, none⟩), fun u w' => if a < s.size then ∃ fb, u = .iface 127 (.pointer (some ⟨fb, 0, none⟩)) ∧ FltB w' fb 5 a ∧ fb ≠ tb else u = .nilIface, fun _ w' => w'.heap[tb]? = some (.cells (cellsCert x a2 c2 a3 c3 a4 c4 a5 c5) 28 (0, 0))]) rfl (by kernel_rfl) (by kernel_rfl)
      (monoV_of ⟨monoV_eq, monoV_eq, monoV_eq, monoV_eq, monoV_eq, ?m5, ?m6, trivial⟩) (fun _ _ _ _ _ => trivial) (fun _ _ _ _ _ _ _ _ _ _ _ => trivial) (stepsV_of 7 ⟨?s0, ?s1, ?s2, ?s3, ?s4, ?s5, ?s6, trivial⟩) ?_
    case m5 =>
      intro j hj u w1 w2 he hp
      by_cases hlt : a < s.size
      · simp only [hlt, if_true] at hp ⊢
        obtain ⟨fb, h1, h2, h3⟩ := hp
        refine ⟨fb, h1, (he.1.block fb (lt_of_block h2) ?_).trans h2, h3⟩
        exact fun e => vob j fb h3 e.symm
      · simp only [hlt, if_false] at hp ⊢; exact hp
    case m6 =>
      intro j hj u w1 w2 he hp
      refine (he.1.block tb (lt_of_block hp) ?_).trans hp
      rw [von j hj]; simp
    case s0 =>
      refine stepV_val (v := .agg (cellsCert x a2 c2 a3 c3 a4 c4 a5 c5)) (fun _ _ => trivial) (fun _ _ _ _ => ⟨trivial, trivial⟩) (fun D av wv hE hO hD => ?_) (fun _ => rfl)
      have h6 : ¬ D 6 := hE.notyet 6 _ rfl { on := 0, ground := .data } (by simp) rfl hE.me
      have hb0 : wv.heap[tb]? = some (.cells (cellsCert x a2 c2 a3 c3 a4 c4 a5 c5) 28 (0, 0)) := (hE.late 6 h6 tb vo6 hts).trans HTH.out
      have k0 : wv.cell? ⟨tb, 0, none⟩ = some (.string (x 0).s) := block_cell hb0 0
      have k1 : wv.cell? ⟨tb, 1, none⟩ = some (.int .u64 (x 1).n) := block_cell hb0 1
      have k2 : wv.cell? ⟨tb, 2, none⟩ = some (.slice a2 (len (x 2).rs) c2) := block_cell hb0 2
      have k3 : wv.cell? ⟨tb, 3, none⟩ = some (.slice a3 (len (x 3).ns) c3) := block_cell hb0 3
      have k4 : wv.cell? ⟨tb, 4, none⟩ = some (.slice a4 (len (x 4).l) c4) := block_cell hb0 4
      have k5 : wv.cell? ⟨tb, 5, none⟩ = some (.slice a5 (len (x 5).l) c5) := block_cell hb0 5
      have h4 : av.eval (.tmp 4) = .pointer (some ⟨tb, 0, none⟩) := hO.2.2 4 rfl
      have f4 := (ev_form av 4).symm.trans h4
      refine ⟨rfl, ?_⟩
      simp [go_sem, f4, k0, k1, k2, k3, k4, k5]
    case s1 =>
      refine stepV_val (v := .pointer (some ⟨rb + 1, 0, none⟩)) (fun _ _ => trivial) (fun _ _ _ _ => ⟨trivial, trivial⟩) (fun D av wv hE hO hD => ?_) (fun _ => rfl)
      have h6 : av.eval (.tmp 6) = .pointer (some ⟨rb + 1, 0, none⟩) := hO.2.2 6 rfl
      have f6 := (ev_form av 6).symm.trans h6
      refine ⟨rfl, ?_⟩
      simp [go_sem, f6]
    case s2 =>
      refine stepV_val (v := .pointer (some ⟨rb + 1, 0, none⟩)) (fun _ _ => trivial) (fun _ _ _ _ => ⟨trivial, trivial⟩) (fun D av wv hE hO hD => ?_) (fun _ => rfl)
      have d17 : av.eval (.tmp 17) = .pointer (some ⟨rb + 1, 0, none⟩) := hD.1 rfl _ rfl
      have f17 := (ev_form av 17).symm.trans d17
      refine ⟨rfl, ?_⟩
      simp [go_sem, f17]
    case s3 =>
      refine stepV_val (v := .pointer (some ⟨rb + 1, 0, none⟩)) (fun _ _ => trivial) (fun _ _ _ _ => ⟨trivial, trivial⟩) (fun D av wv hE hO hD => ?_) (fun _ => rfl)
      have d18 : av.eval (.tmp 18) = .pointer (some ⟨rb + 1, 0, none⟩) := hD.1 rfl _ rfl
      have f18 := (ev_form av 18).symm.trans d18
      refine ⟨rfl, ?_⟩
      simp [go_sem, f18]
    case s4 =>
      refine stepV_val (v := .pointer (some ⟨rb, 0, none⟩)) (fun _ _ => trivial) (fun _ _ _ _ => ⟨trivial, trivial⟩) (fun D av wv hE hO hD => ?_) (fun _ => rfl)
      have d19 : av.eval (.tmp 19) = .pointer (some ⟨rb + 1, 0, none⟩) := hD.1 rfl _ rfl
      have f19 := (ev_form av 19).symm.trans d19
      have k0 : wv.cell? ⟨rb + 1, 0, none⟩ = some (.pointer (some ⟨rb, 0, none⟩)) := block_cell ((hE.ext.block (rb + 1) (lt_of_block HQ3.out) (fun j => vob j _ (by have := HRBT.out; omega))).trans HQ3.out) 0
      refine ⟨rfl, ?_⟩
      simp [go_sem, f19, k0]
    case s5 =>
      refine stepV_wp (fun D av wv hPP hE hO hD => ?_)
      have d20 : av.eval (.tmp 20) = .pointer (some ⟨rb, 0, none⟩) := hD.1 rfl _ rfl
      have f20 := (ev_form av 20).symm.trans d20
      have hrd : RdB wv rb s a 10240 := (hE.ext.block rb (lt_of_block HRD.out) (fun j => vob j _ (by have := HRBT.out; omega))).trans HRD.out
      have het : ErrType wv := by
        have h2 : ErrType w3.drew := HET3.out
        unfold ErrType at h2 ⊢
        rw [World.cell?_of_block (w := w3.drew) (hE.ext.block _ (lt_of_cell h2) (fun j => vob j _ (show 0 ≠ tb by have := HTW.out; omega)))]
        exact h2
      have hvs : w3.heap.size ≤ wv.heap.size := hE.ext.size
      refine ⟨rfl, wp_of_callR (f := 124) (args := #[.pointer (some ⟨rb, 0, none⟩)]) (R := fun u w2 => Below wv.heap.size wv w2 ∧ (if a < s.size then ∃ fb, u = .iface 127 (.pointer (some ⟨fb, 0, none⟩)) ∧ FltB w2 fb 5 a ∧ fb ≠ tb else u = .nilIface)) (by simp [go_sem, f20]) ((End_any wv rb s a 10240 het hrd hle hs).mono fun e w2 hh => ?_) (fun u w2 ⟨h1, h2⟩ => ⟨u, rfl, esV_of_ext h1 trivial, h2, fun _ _ _ _ _ => ⟨trivial, trivial⟩⟩)⟩
      obtain ⟨h1, h2⟩ := hh
      unfold leftOf at h2
      by_cases hlt : a < s.size
      · simp only [hlt, if_true] at h2 ⊢
        obtain ⟨fb, h3, h4, h5⟩ := h2
        exact ⟨_, h3, h1, fb, rfl, h5, by omega⟩
      · simp only [hlt, if_false] at h2 ⊢
        exact ⟨_, h2, h1, rfl⟩
    case s6 =>
      refine stepV_wp (fun D av wv hPP hE hO hD => ?_)
      have d16 : av.eval (.tmp 16) = .agg (cellsCert x a2 c2 a3 c3 a4 c4 a5 c5) := hD.1 rfl _ rfl
      have f16 := (ev_form av 16).symm.trans d16
      have h4 : av.eval (.tmp 4) = .pointer (some ⟨tb, 0, none⟩) := hO.2.2 4 rfl
      have f4 := (ev_form av 4).symm.trans h4
      have hq : wv.heap[tb]? = some (.cells (cellsCert x a2 c2 a3 c3 a4 c4 a5 c5) 28 (0, 0)) := (hE.own tb vo6 hts).trans HTH.out
      have k0 : wv.cell? ⟨tb, 0, none⟩ = some (.string (x 0).s) := block_cell hq 0
      have k1 : wv.cell? ⟨tb, 1, none⟩ = some (.int .u64 (x 1).n) := block_cell hq 1
      have k2 : wv.cell? ⟨tb, 2, none⟩ = some (.slice a2 (len (x 2).rs) c2) := block_cell hq 2
      have k3 : wv.cell? ⟨tb, 3, none⟩ = some (.slice a3 (len (x 3).ns) c3) := block_cell hq 3
      have k4 : wv.cell? ⟨tb, 4, none⟩ = some (.slice a4 (len (x 4).l) c4) := block_cell hq 4
      have k5 : wv.cell? ⟨tb, 5, none⟩ = some (.slice a5 (len (x 5).l) c5) := block_cell hq 5
      have hz : ∀ o, wv.frozen? ⟨tb, o, none⟩ = false := block_free hq
      have l0 : tb < wv.heap.size := lt_of_block hq
      refine ⟨rfl, ?_⟩
      unfold Oper.wp
      simp [go_sem, f4, f16, hz, l0, k0, k1, k2, k3, k4, k5]
      exact ⟨⟨by rw [vo6]; exact (extB_setIn (extB_setIn (extB_setIn (extB_setIn (extB_setIn (extB_setIn (ExtB_refl _ _) 0 _) 1 _) 2 _) 3 _) 4 _) 5 _), trivial⟩, undef, (block_setCell (block_setCell (block_setCell (block_setCell (block_setCell (block_setCell hq (o := 0) _) (o := 1) _) (o := 2) _) (o := 3) _) (o := 4) _) (o := 5) _), fun _ _ _ _ _ => ⟨trivial, trivial⟩⟩
    intro a' w' hE _ hO hall _
    have hA := act_of_outer (ds := [16, 17, 18, 19, 20, 21]) rfl hO (by kernel_rfl)
    have e16 : (fun u (_ : World) => u = .agg (cellsCert x a2 c2 a3 c3 a4 c4 a5 c5)) (a'.eval (.tmp 16)) w' := hall.1 _ rfl
    have e17 : (fun u (_ : World) => u = .pointer (some ⟨rb + 1, 0, none⟩)) (a'.eval (.tmp 17)) w' := hall.2.1 _ rfl
    have e18 : (fun u (_ : World) => u = .pointer (some ⟨rb + 1, 0, none⟩)) (a'.eval (.tmp 18)) w' := hall.2.2.1 _ rfl
    have e19 : (fun u (_ : World) => u = .pointer (some ⟨rb + 1, 0, none⟩)) (a'.eval (.tmp 19)) w' := hall.2.2.2.1 _ rfl
    have e20 : (fun u (_ : World) => u = .pointer (some ⟨rb, 0, none⟩)) (a'.eval (.tmp 20)) w' := hall.2.2.2.2.1 _ rfl
    have e21 : (fun u w' => if a < s.size then ∃ fb, u = .iface 127 (.pointer (some ⟨fb, 0, none⟩)) ∧ FltB w' fb 5 a ∧ fb ≠ tb else u = .nilIface) (a'.eval (.tmp 21)) w' := hall.2.2.2.2.2.1 _ rfl
    have z6 : w'.heap[tb]? = some (.cells (cellsCert x a2 c2 a3 c3 a4 c4 a5 c5) 28 (0, 0)) := hall.2.2.2.2.2.2.1 _ rfl
    obtain ⟨v21, hv21⟩ : ∃ v, a'.eval (.tmp 21) = v := ⟨_, rfl⟩
    rw [hv21] at e21
    simp only [List.foldl_cons, List.foldl_nil, Act.put, List.setIfInBounds_toArray, List.set_cons_succ, List.set_cons_zero, e16, e17, e18, e19, e20, hv21] at hA
    clear hO hall e16 e17 e18 e19 e20 hv21
    subst hA
    have HX4 : Hid (ExtS VO w3 w') := Lib.hid ⟨hE.os, hE.tape, hE.output, hE.size, hE.block⟩
    have HZ6 := Lib.hid z6
    have hbe : w'.heap[tb + 1]? = some (.cells #[.nilIface] 59 (0, 0)) := (HX4.out.block _ (lt_of_block HE3.out) (fun j => vob j _ (by omega))).trans HE3.out
    have HBE := Lib.hid hbe
    have g0 : w'.cell? ⟨tb + 1, 0, none⟩ = some .nilIface := block_cell hbe 0
    have g1 : w'.frozen? ⟨tb + 1, 0, none⟩ = false := block_free hbe 0
    have HVO : Hid (∀ j b, b ≠ tb → VO j ≠ some b) := Lib.hid vob
    have HFIN : ∀ v, Hid (Below w.heap.size w (w'.setCell ⟨tb + 1, 0, none⟩ v)) := fun v => Lib.hid (by
      have hsz := HTW.out
      have hb9 := HRBT.out
      refine ⟨HX4.out.os.trans (HC.out.os.trans (HB.out.os.trans BV.out.os)), HX4.out.tape.trans (HC.out.tape.trans (HB.out.tape.trans BV.out.tape)), HX4.out.output.trans (HC.out.output.trans (HB.out.output.trans BV.out.output)), by simpa using Nat.le_trans BV.out.size (Nat.le_trans HB.out.size (Nat.le_trans HC.out.size HX4.out.size)), fun i hi => ?_⟩
      have l1 := Nat.lt_of_lt_of_le hi BV.out.size
      have l2 := Nat.lt_of_lt_of_le l1 HB.out.size
      rw [Below.heap_setCell _ _ _ _ (show i ≠ tb + 1 by omega)]
      exact (HX4.out.block i (Nat.lt_of_lt_of_le l2 HC.out.size) (fun j => HVO.out j i (by omega))).trans ((HC.out.block i l2 (by omega) (by omega)).trans ((HB.out.block i l1).trans (BV.out.block i hi))))
    have HLF : ∀ v, Hid (LiesCert rb tb (w'.setCell ⟨tb + 1, 0, none⟩ v) x a2 c2 a3 c3 a4 c4 a5 c5) := fun v => Lib.hid (HLI.out.up (fun b h1 h2 => by
      have hb9 := HRBT.out
      rw [Below.heap_setCell _ _ _ _ (show b ≠ tb + 1 by omega)]
      exact HX4.out.block b h2 (fun j => HVO.out j b (by omega))))
    have HTF : ∀ v o, (w'.setCell ⟨tb + 1, 0, none⟩ v).cell? ⟨tb, o, none⟩ = (cellsCert x a2 c2 a3 c3 a4 c4 a5 c5)[o]? := fun v o => block_cell (block_setCell_ne HZ6.out (by show tb ≠ tb + 1; omega) v) o
    have HEF : ∀ v, (w'.setCell ⟨tb + 1, 0, none⟩ v).cell? ⟨tb + 1, 0, none⟩ = some v := fun v => block_cell (block_setCell HBE.out v) 0
    have HTFH := Lib.hid HTF
    have HEFH := Lib.hid HEF
    clear hE z6 hbe vo6 von vob HTF HEF
    by_cases hlt : a < s.size
    · simp only [hlt, if_true] at e21
      obtain ⟨fb, rfl, hf, hft⟩ := e21
      have HF := Lib.hid hf
      have HLT := Lib.hid hlt
      clear hf hlt
      go_wp2
      refine leaves_cons (f := 160) (args := #[.pointer (some ⟨tb, 0, none⟩), .pointer (some ⟨tb + 1, 0, none⟩)]) (by simp) (by simp [go_sem]) ?_
      refine (read1Cert_idle _ _ _).mono ?_
      rintro e u' w'' ⟨rfl, rfl, rfl⟩
      have y0 := HTFH.out (.iface 127 (.pointer (some ⟨fb, 0, none⟩)))
      have y1 := HEFH.out (.iface 127 (.pointer (some ⟨fb, 0, none⟩)))
      refine ⟨_, by simp [results, Tryz.results100, go_sem, y0, y1]; rfl, ?_⟩
      refine ⟨(HFIN _).out, ?_⟩
      rw [HR.out]
      refine ⟨HKD.out, hle, a2, c2, a3, c3, a4, c4, a5, c5, ⟨rb, tb, by have := HRBT.out; have := HTW.out; omega, (HLF _).out⟩, ?_⟩
      rw [if_pos HLT.out]
      exact ⟨fb, rfl, block_setCell_ne HF.out (by intro e; subst e; have h9 := HBE.out.symm.trans HF.out; cases h9) _⟩
    · simp only [hlt, if_false] at e21
      subst e21
      have HLT := Lib.hid hlt
      clear hlt
      go_wp2
      refine leaves_cons (f := 160) (args := #[.pointer (some ⟨tb, 0, none⟩), .pointer (some ⟨tb + 1, 0, none⟩)]) (by simp) (by simp [go_sem]) ?_
      refine (read1Cert_idle _ _ _).mono ?_
      rintro e u' w'' ⟨rfl, rfl, rfl⟩
      have y0 := HTFH.out .nilIface
      have y1 := HEFH.out .nilIface
      refine ⟨_, by simp [results, Tryz.results100, go_sem, y0, y1]; rfl, ?_⟩
      refine ⟨(HFIN _).out, ?_⟩
      rw [HR.out]
      refine ⟨HKD.out, hle, a2, c2, a3, c3, a4, c4, a5, c5, ⟨rb, tb, by have := HRBT.out; have := HTW.out; omega, (HLF _).out⟩, ?_⟩
      rw [if_neg HLT.out]
def LiesMsg (rb tb : Nat) (w : World) (x : Rcd) : Prop := True
theorem LiesMsg.below {rb tb : Nat} {w w' : World} {x : Rcd} (h : LiesMsg rb tb w x) (hb : Below w.heap.size w w') : LiesMsg rb tb w' x := trivial
theorem LiesMsg.chg {rb tb : Nat} {w w' : World} {x : Rcd} (h : LiesMsg rb tb w x) (hb : Chg rb tb w w') : LiesMsg rb tb w' x := trivial
theorem LiesMsg.up {rb tb : Nat} {w w' : World} {x : Rcd} (h : LiesMsg rb tb w x) (hb : Up rb w w') : LiesMsg rb tb w' x := trivial
def LiesHeader (rb tb : Nat) (w : World) (x : Rcd) : Prop := True
theorem LiesHeader.below {rb tb : Nat} {w w' : World} {x : Rcd} (h : LiesHeader rb tb w x) (hb : Below w.heap.size w w') : LiesHeader rb tb w' x := trivial
theorem LiesHeader.chg {rb tb : Nat} {w w' : World} {x : Rcd} (h : LiesHeader rb tb w x) (hb : Chg rb tb w w') : LiesHeader rb tb w' x := trivial
theorem LiesHeader.up {rb tb : Nat} {w w' : World} {x : Rcd} (h : LiesHeader rb tb w x) (hb : Up rb w w') : LiesHeader rb tb w' x := trivial
end Go.Proofs.YtihiaopilnjonaaGreatDoor
namespace Go.Proofs.YtihiaopilnjonaaGreatDoor
open Go.RowKit
set_option linter.unusedSimpArgs false
set_option linter.unusedVariables false
theorem bsn {w : World} {b c o : Nat} {x : Obj} {v : Value} (h : w.heap[b]? = some x) (hp : b ≠ c) : (w.setCell ⟨c, o, none⟩ v).heap[b]? = some x := block_setCell_ne h hp v
set_option maxRecDepth 100000 in
theorem overPart_ok (m0 : ByteArray) (m1 : Int) (m2 : Int) (m3 : Int) (m4 : Int) (w : World) : Calls Tryz.prog 66 #[.agg #[.string m0, .int .u64 m1, .int .u64 m2, .int .u64 m3, .int .u64 m4], .nilIface] w fun e w' => e = .returned (.tuple #[.agg #[.string m0, .int .u64 m1, .int .u64 m2, .int .u64 m3, .int .u64 m4], .nilIface]) ∧ Below w.heap.size w w' := by
  go_enter Tryz.func66, Tryz.ntmps66
  go_wp2
  have hb := block_setCell (block_setCell (block_setCell (block_setCell (block_setCell (alloc_new_at (w := w.alloc (.cells #[.string m0, .int .u64 m1, .int .u64 m2, .int .u64 m3, .int .u64 m4] 46)) (.cells #[.string ⟨#[]⟩, .int .u64 0, .int .u64 0, .int .u64 0, .int .u64 0] 46) (alloc_size _ rfl)) (o := 0) (.string m0)) (o := 1) (.int .u64 m1)) (o := 2) (.int .u64 m2)) (o := 3) (.int .u64 m3)) (o := 4) (.int .u64 m4)
  have d : ∀ o, _ = _ := block_cell hb
  refine bodyPost_ret (v := .tuple #[.agg #[.string m0, .int .u64 m1, .int .u64 m2, .int .u64 m3, .int .u64 m4], .nilIface]) ?_ rfl ⟨rfl, by (repeat (first | exact Below.refl _ _ | assumption | (refine bdrew ?_) | (refine bdrewN ?_ _) | (refine balloc ?_ _) | (refine bset ?_ (by first | omega | (simp; done) | (simp; omega)) _) | (refine bnext ?_ (by assumption))))⟩
  simp [results, Tryz.results66, go_sem, d]
set_option maxRecDepth 100000 in
theorem overPart_no (m0 : ByteArray) (m1 : Int) (m2 : Int) (m3 : Int) (m4 : Int) (fb : Nat) (w : World) : Calls Tryz.prog 66 #[.agg #[.string m0, .int .u64 m1, .int .u64 m2, .int .u64 m3, .int .u64 m4], .iface 127 (.pointer (some ⟨fb, 0, none⟩))] w fun e w' => e = .returned (.tuple #[zeroPart, .iface 127 (.pointer (some ⟨fb, 0, none⟩))]) ∧ Below w.heap.size w w' := by
  go_enter Tryz.func66, Tryz.ntmps66
  go_wp2
  have hb := block_setCell (block_setCell (block_setCell (block_setCell (block_setCell (block_alloc (alloc_new_at (w := w.alloc (.cells #[.string m0, .int .u64 m1, .int .u64 m2, .int .u64 m3, .int .u64 m4] 46)) (.cells #[.string ⟨#[]⟩, .int .u64 0, .int .u64 0, .int .u64 0, .int .u64 0] 46) (alloc_size _ rfl)) (.cells #[.string ⟨#[]⟩, .int .u64 0, .int .u64 0, .int .u64 0, .int .u64 0] 46)) (o := 0) (.string ⟨#[]⟩)) (o := 1) (.int .u64 0)) (o := 2) (.int .u64 0)) (o := 3) (.int .u64 0)) (o := 4) (.int .u64 0)
  have d : ∀ o, _ = _ := block_cell hb
  refine bodyPost_ret (v := .tuple #[zeroPart, .iface 127 (.pointer (some ⟨fb, 0, none⟩))]) ?_ rfl ⟨rfl, by (repeat (first | exact Below.refl _ _ | assumption | (refine bdrew ?_) | (refine bdrewN ?_ _) | (refine balloc ?_ _) | (refine bset ?_ (by first | omega | (simp; done) | (simp; omega)) _) | (refine bnext ?_ (by assumption))))⟩
  simp [results, Tryz.results66, go_sem, d]
def RePart (s : ByteArray) (w : World) (e : Ending) (w' : World) : Prop :=
  Below w.heap.size w w' ∧ match readR s (partGs s 0) part0 with
    | .error f => ∃ fb, e = .returned (.tuple #[zeroPart, .iface 127 (.pointer (some ⟨fb, 0, none⟩))]) ∧ FltB w' fb f.1 f.2
    | .ok x => Kd part0 x ∧ (∃ rb tb, LiesPart rb tb w' x) ∧ e = .returned (.tuple #[.agg (cellsPart x), .nilIface])
set_option maxRecDepth 100000 in
set_option maxHeartbeats 2000000 in
theorem reaPart_any (B : Nat) (s : ByteArray) (w : World) (hT : Tabs B w) (hET : ErrType w) (hB : B ≤ w.heap.size) (hg : 0 < B) (hs : s.size ≤ 9223372036854775807) :
    Calls Tryz.prog 29 #[.string s] w (RePart s w) := by
  have H := Lib.hid (fun (w' : World) (hb : Below w.heap.size w w') => readPart_any B s w' (hT.below hb) (hET.below hb) (Nat.le_trans hB hb.size) hg hs)
  clear hT hET
  go_enter Tryz.func29, Tryz.ntmps29
  go_wp2_with fail
  refine (H.out _ (balloc (Below.refl _ _) _)).mono ?_
  rintro e w1 ⟨hb1, hh⟩
  have hblk := (hb1.block w.heap.size (by simp)).trans (heap_alloc_new w _)
  have HBK := Lib.hid hblk
  have HB := Lib.hid (bnext (balloc (Below.refl _ _) _) hb1)
  clear hb1 hblk
  cases hr : objR s (partGs s 0) part0 0 with
  | error f =>
    rw [hr] at hh
    obtain ⟨fb, rfl, hf⟩ := hh
    have HF := Lib.hid hf
    have HR : Hid (readR s (partGs s 0) part0 = .error f) := Lib.hid (by unfold readR; rw [hr])
    clear hf hr
    go_wp2_with fail
    refine (overPart_no _ _ _ _ _ fb w1).mono ?_
    rintro e w2 ⟨rfl, hb2⟩
    have hb := (hb2.block _ (lt_of_block HBK.out)).trans HBK.out
    have HB2 := Lib.hid (bnext HB.out hb2)
    have HF2 := Lib.hid (HF.out.below hb2)
    have HBK2 := Lib.hid hb
    have g0 : ∀ o, w2.cell? ⟨w.heap.size, o, none⟩ = _ := block_cell hb
    have g1 : ∀ o, w2.frozen? ⟨w.heap.size, o, none⟩ = false := block_free hb
    have g2 : w.heap.size < w2.heap.size := lt_of_block hb
    clear hb2 hb
    go_wp2
    have hb := block_setCell (block_setCell (block_setCell (block_setCell (block_setCell (HBK2.out) (o := 0) (.string ⟨#[]⟩)) (o := 1) (.int .u64 0)) (o := 2) (.int .u64 0)) (o := 3) (.int .u64 0)) (o := 4) (.int .u64 0)
    have d : ∀ o, _ = _ := block_cell hb
    have hne : fb ≠ w.heap.size := fun e => by subst e; have h9 := HBK2.out.symm.trans HF2.out; cases h9
    refine bodyPost_ret (v := .tuple #[zeroPart, .iface 127 (.pointer (some ⟨fb, 0, none⟩))]) ?_ rfl ⟨(bset (bset (bset (bset (bset HB2.out (Nat.le_refl _) _) (Nat.le_refl _) _) (Nat.le_refl _) _) (Nat.le_refl _) _) (Nat.le_refl _) _), ?_⟩
    · simp [results, Tryz.results29, go_sem, d]
    · rw [HR.out]
      exact ⟨fb, rfl, (bsn (bsn (bsn (bsn (bsn HF2.out hne) hne) hne) hne) hne)⟩
  | ok y =>
    rw [hr] at hh
    obtain ⟨hk, hle, ⟨rb, tb, hrb, hl⟩, hh⟩ := hh
    have HL := Lib.hid hl
    by_cases hlt : y.2 < s.size
    · rw [if_pos hlt] at hh
      obtain ⟨fb, rfl, hf⟩ := hh
      have HF := Lib.hid hf
      have HR : Hid (readR s (partGs s 0) part0 = .error (5, y.2)) := Lib.hid (by unfold readR; rw [hr]; exact if_pos hlt)
      clear hf hr hlt
      go_wp2_with fail
      refine (overPart_no _ _ _ _ _ fb w1).mono ?_
      rintro e w2 ⟨rfl, hb2⟩
      have hb := (hb2.block _ (lt_of_block HBK.out)).trans HBK.out
      have HB2 := Lib.hid (bnext HB.out hb2)
      have HF2 := Lib.hid (HF.out.below hb2)
      have HBK2 := Lib.hid hb
      have g0 : ∀ o, w2.cell? ⟨w.heap.size, o, none⟩ = _ := block_cell hb
      have g1 : ∀ o, w2.frozen? ⟨w.heap.size, o, none⟩ = false := block_free hb
      have g2 : w.heap.size < w2.heap.size := lt_of_block hb
      clear hb2 hb
      go_wp2
      have hb := block_setCell (block_setCell (block_setCell (block_setCell (block_setCell (HBK2.out) (o := 0) (.string ⟨#[]⟩)) (o := 1) (.int .u64 0)) (o := 2) (.int .u64 0)) (o := 3) (.int .u64 0)) (o := 4) (.int .u64 0)
      have d : ∀ o, _ = _ := block_cell hb
      have hne : fb ≠ w.heap.size := fun e => by subst e; have h9 := HBK2.out.symm.trans HF2.out; cases h9
      refine bodyPost_ret (v := .tuple #[zeroPart, .iface 127 (.pointer (some ⟨fb, 0, none⟩))]) ?_ rfl ⟨(bset (bset (bset (bset (bset HB2.out (Nat.le_refl _) _) (Nat.le_refl _) _) (Nat.le_refl _) _) (Nat.le_refl _) _) (Nat.le_refl _) _), ?_⟩
      · simp [results, Tryz.results29, go_sem, d]
      · rw [HR.out]
        exact ⟨fb, rfl, (bsn (bsn (bsn (bsn (bsn HF2.out hne) hne) hne) hne) hne)⟩
    · rw [if_neg hlt] at hh
      subst hh
      have HR : Hid (readR s (partGs s 0) part0 = .ok y.1) := Lib.hid (by unfold readR; rw [hr]; exact if_neg hlt)
      clear hr hlt
      go_wp2_with fail
      refine (overPart_ok _ _ _ _ _ w1).mono ?_
      rintro e w2 ⟨rfl, hb2⟩
      have hb := (hb2.block _ (lt_of_block HBK.out)).trans HBK.out
      have HB2 := Lib.hid (bnext HB.out hb2)
      have HL2 := Lib.hid (HL.out.below hb2)
      have HBK2 := Lib.hid hb
      have g0 : ∀ o, w2.cell? ⟨w.heap.size, o, none⟩ = _ := block_cell hb
      have g1 : ∀ o, w2.frozen? ⟨w.heap.size, o, none⟩ = false := block_free hb
      have g2 : w.heap.size < w2.heap.size := lt_of_block hb
      clear hb2 hb
      go_wp2
      have hb := block_setCell (block_setCell (block_setCell (block_setCell (block_setCell (HBK2.out) (o := 0) (.string (y.1 0).s)) (o := 1) (.int .u64 (y.1 1).n)) (o := 2) (.int .u64 (y.1 2).n)) (o := 3) (.int .u64 (y.1 3).n)) (o := 4) (.int .u64 (y.1 4).n)
      have d : ∀ o, _ = _ := block_cell hb
      refine bodyPost_ret (v := .tuple #[.agg (cellsPart y.1), .nilIface]) ?_ rfl ⟨(bset (bset (bset (bset (bset HB2.out (Nat.le_refl _) _) (Nat.le_refl _) _) (Nat.le_refl _) _) (Nat.le_refl _) _) (Nat.le_refl _) _), ?_⟩
      · simp [results, Tryz.results29, go_sem, d]
      · rw [HR.out]
        exact ⟨hk, ⟨rb, tb, HL2.out.up (fun b h1 h2 => by
          have h3 : b ≠ w.heap.size := by simp at hrb; omega
          repeat rw [Below.heap_setCell _ _ _ _ h3])⟩, rfl⟩
set_option maxRecDepth 100000 in
theorem overSlot_ok (m0 : Int) (m1 : Bool) (m2 : Int) (a3 : Option Addr) (n3 c3 : Nat) (a4 : Option Addr) (n4 c4 : Nat) (w : World) : Calls Tryz.prog 76 #[.agg #[.int .u64 m0, .bool m1, .int .u64 m2, .slice a3 n3 c3, .slice a4 n4 c4], .nilIface] w fun e w' => e = .returned (.tuple #[.agg #[.int .u64 m0, .bool m1, .int .u64 m2, .slice a3 n3 c3, .slice a4 n4 c4], .nilIface]) ∧ Below w.heap.size w w' := by
  go_enter Tryz.func76, Tryz.ntmps76
  go_wp2
  have hb := block_setCell (block_setCell (block_setCell (block_setCell (block_setCell (alloc_new_at (w := w.alloc (.cells #[.int .u64 m0, .bool m1, .int .u64 m2, .slice a3 n3 c3, .slice a4 n4 c4] 44)) (.cells #[.int .u64 0, .bool false, .int .u64 0, .slice none 0 0, .slice none 0 0] 44) (alloc_size _ rfl)) (o := 0) (.int .u64 m0)) (o := 1) (.bool m1)) (o := 2) (.int .u64 m2)) (o := 3) (.slice a3 n3 c3)) (o := 4) (.slice a4 n4 c4)
  have d : ∀ o, _ = _ := block_cell hb
  refine bodyPost_ret (v := .tuple #[.agg #[.int .u64 m0, .bool m1, .int .u64 m2, .slice a3 n3 c3, .slice a4 n4 c4], .nilIface]) ?_ rfl ⟨rfl, by (repeat (first | exact Below.refl _ _ | assumption | (refine bdrew ?_) | (refine bdrewN ?_ _) | (refine balloc ?_ _) | (refine bset ?_ (by first | omega | (simp; done) | (simp; omega)) _) | (refine bnext ?_ (by assumption))))⟩
  simp [results, Tryz.results76, go_sem, d]
set_option maxRecDepth 100000 in
theorem overSlot_no (m0 : Int) (m1 : Bool) (m2 : Int) (a3 : Option Addr) (n3 c3 : Nat) (a4 : Option Addr) (n4 c4 : Nat) (fb : Nat) (w : World) : Calls Tryz.prog 76 #[.agg #[.int .u64 m0, .bool m1, .int .u64 m2, .slice a3 n3 c3, .slice a4 n4 c4], .iface 127 (.pointer (some ⟨fb, 0, none⟩))] w fun e w' => e = .returned (.tuple #[zeroSlot, .iface 127 (.pointer (some ⟨fb, 0, none⟩))]) ∧ Below w.heap.size w w' := by
  go_enter Tryz.func76, Tryz.ntmps76
  go_wp2
  have hb := block_setCell (block_setCell (block_setCell (block_setCell (block_setCell (block_alloc (alloc_new_at (w := w.alloc (.cells #[.int .u64 m0, .bool m1, .int .u64 m2, .slice a3 n3 c3, .slice a4 n4 c4] 44)) (.cells #[.int .u64 0, .bool false, .int .u64 0, .slice none 0 0, .slice none 0 0] 44) (alloc_size _ rfl)) (.cells #[.int .u64 0, .bool false, .int .u64 0, .slice none 0 0, .slice none 0 0] 44)) (o := 0) (.int .u64 0)) (o := 1) (.bool false)) (o := 2) (.int .u64 0)) (o := 3) (.slice none 0 0)) (o := 4) (.slice none 0 0)
  have d : ∀ o, _ = _ := block_cell hb
  refine bodyPost_ret (v := .tuple #[zeroSlot, .iface 127 (.pointer (some ⟨fb, 0, none⟩))]) ?_ rfl ⟨rfl, by (repeat (first | exact Below.refl _ _ | assumption | (refine bdrew ?_) | (refine bdrewN ?_ _) | (refine balloc ?_ _) | (refine bset ?_ (by first | omega | (simp; done) | (simp; omega)) _) | (refine bnext ?_ (by assumption))))⟩
  simp [results, Tryz.results76, go_sem, d]
def ReSlot (s : ByteArray) (w : World) (e : Ending) (w' : World) : Prop :=
  Below w.heap.size w w' ∧ match readR s (slotGs s 0) slot0 with
    | .error f => ∃ fb, e = .returned (.tuple #[zeroSlot, .iface 127 (.pointer (some ⟨fb, 0, none⟩))]) ∧ FltB w' fb f.1 f.2
    | .ok x => Kd slot0 x ∧ ∃ (a3 : Option Addr) (c3 : Nat) (a4 : Option Addr) (c4 : Nat), (∃ rb tb, LiesSlot rb tb w' x a3 c3 a4 c4) ∧ e = .returned (.tuple #[.agg (cellsSlot x a3 c3 a4 c4), .nilIface])
set_option maxRecDepth 100000 in
set_option maxHeartbeats 2000000 in
theorem reaSlot_any (B : Nat) (s : ByteArray) (w : World) (hT : Tabs B w) (hET : ErrType w) (hB : B ≤ w.heap.size) (hg : 0 < B) (hs : s.size ≤ 9223372036854775807) :
    Calls Tryz.prog 35 #[.string s] w (ReSlot s w) := by
  have H := Lib.hid (fun (w' : World) (hb : Below w.heap.size w w') => readSlot_any B s w' (hT.below hb) (hET.below hb) (Nat.le_trans hB hb.size) hg hs)
  clear hT hET
  go_enter Tryz.func35, Tryz.ntmps35
  go_wp2_with fail
  refine (H.out _ (balloc (Below.refl _ _) _)).mono ?_
  rintro e w1 ⟨hb1, hh⟩
  have hblk := (hb1.block w.heap.size (by simp)).trans (heap_alloc_new w _)
  have HBK := Lib.hid hblk
  have HB := Lib.hid (bnext (balloc (Below.refl _ _) _) hb1)
  clear hb1 hblk
  cases hr : objR s (slotGs s 0) slot0 0 with
  | error f =>
    rw [hr] at hh
    obtain ⟨fb, rfl, hf⟩ := hh
    have HF := Lib.hid hf
    have HR : Hid (readR s (slotGs s 0) slot0 = .error f) := Lib.hid (by unfold readR; rw [hr])
    clear hf hr
    go_wp2_with fail
    refine (overSlot_no _ _ _ _ _ _ _ _ _ fb w1).mono ?_
    rintro e w2 ⟨rfl, hb2⟩
    have hb := (hb2.block _ (lt_of_block HBK.out)).trans HBK.out
    have HB2 := Lib.hid (bnext HB.out hb2)
    have HF2 := Lib.hid (HF.out.below hb2)
    have HBK2 := Lib.hid hb
    have g0 : ∀ o, w2.cell? ⟨w.heap.size, o, none⟩ = _ := block_cell hb
    have g1 : ∀ o, w2.frozen? ⟨w.heap.size, o, none⟩ = false := block_free hb
    have g2 : w.heap.size < w2.heap.size := lt_of_block hb
    clear hb2 hb
    go_wp2
    have hb := block_setCell (block_setCell (block_setCell (block_setCell (block_setCell (HBK2.out) (o := 0) (.int .u64 0)) (o := 1) (.bool false)) (o := 2) (.int .u64 0)) (o := 3) (.slice none 0 0)) (o := 4) (.slice none 0 0)
    have d : ∀ o, _ = _ := block_cell hb
    have hne : fb ≠ w.heap.size := fun e => by subst e; have h9 := HBK2.out.symm.trans HF2.out; cases h9
    refine bodyPost_ret (v := .tuple #[zeroSlot, .iface 127 (.pointer (some ⟨fb, 0, none⟩))]) ?_ rfl ⟨(bset (bset (bset (bset (bset HB2.out (Nat.le_refl _) _) (Nat.le_refl _) _) (Nat.le_refl _) _) (Nat.le_refl _) _) (Nat.le_refl _) _), ?_⟩
    · simp [results, Tryz.results35, go_sem, d]
    · rw [HR.out]
      exact ⟨fb, rfl, (bsn (bsn (bsn (bsn (bsn HF2.out hne) hne) hne) hne) hne)⟩
  | ok y =>
    rw [hr] at hh
    obtain ⟨hk, hle, a3, c3, a4, c4, ⟨rb, tb, hrb, hl⟩, hh⟩ := hh
    have HL := Lib.hid hl
    by_cases hlt : y.2 < s.size
    · rw [if_pos hlt] at hh
      obtain ⟨fb, rfl, hf⟩ := hh
      have HF := Lib.hid hf
      have HR : Hid (readR s (slotGs s 0) slot0 = .error (5, y.2)) := Lib.hid (by unfold readR; rw [hr]; exact if_pos hlt)
      clear hf hr hlt
      go_wp2_with fail
      refine (overSlot_no _ _ _ _ _ _ _ _ _ fb w1).mono ?_
      rintro e w2 ⟨rfl, hb2⟩
      have hb := (hb2.block _ (lt_of_block HBK.out)).trans HBK.out
      have HB2 := Lib.hid (bnext HB.out hb2)
      have HF2 := Lib.hid (HF.out.below hb2)
      have HBK2 := Lib.hid hb
      have g0 : ∀ o, w2.cell? ⟨w.heap.size, o, none⟩ = _ := block_cell hb
      have g1 : ∀ o, w2.frozen? ⟨w.heap.size, o, none⟩ = false := block_free hb
      have g2 : w.heap.size < w2.heap.size := lt_of_block hb
      clear hb2 hb
      go_wp2
      have hb := block_setCell (block_setCell (block_setCell (block_setCell (block_setCell (HBK2.out) (o := 0) (.int .u64 0)) (o := 1) (.bool false)) (o := 2) (.int .u64 0)) (o := 3) (.slice none 0 0)) (o := 4) (.slice none 0 0)
      have d : ∀ o, _ = _ := block_cell hb
      have hne : fb ≠ w.heap.size := fun e => by subst e; have h9 := HBK2.out.symm.trans HF2.out; cases h9
      refine bodyPost_ret (v := .tuple #[zeroSlot, .iface 127 (.pointer (some ⟨fb, 0, none⟩))]) ?_ rfl ⟨(bset (bset (bset (bset (bset HB2.out (Nat.le_refl _) _) (Nat.le_refl _) _) (Nat.le_refl _) _) (Nat.le_refl _) _) (Nat.le_refl _) _), ?_⟩
      · simp [results, Tryz.results35, go_sem, d]
      · rw [HR.out]
        exact ⟨fb, rfl, (bsn (bsn (bsn (bsn (bsn HF2.out hne) hne) hne) hne) hne)⟩
    · rw [if_neg hlt] at hh
      subst hh
      have HR : Hid (readR s (slotGs s 0) slot0 = .ok y.1) := Lib.hid (by unfold readR; rw [hr]; exact if_neg hlt)
      clear hr hlt
      go_wp2_with fail
      refine (overSlot_ok _ _ _ _ _ _ _ _ _ w1).mono ?_
      rintro e w2 ⟨rfl, hb2⟩
      have hb := (hb2.block _ (lt_of_block HBK.out)).trans HBK.out
      have HB2 := Lib.hid (bnext HB.out hb2)
      have HL2 := Lib.hid (HL.out.below hb2)
      have HBK2 := Lib.hid hb
      have g0 : ∀ o, w2.cell? ⟨w.heap.size, o, none⟩ = _ := block_cell hb
      have g1 : ∀ o, w2.frozen? ⟨w.heap.size, o, none⟩ = false := block_free hb
      have g2 : w.heap.size < w2.heap.size := lt_of_block hb
      clear hb2 hb
      go_wp2
      have hb := block_setCell (block_setCell (block_setCell (block_setCell (block_setCell (HBK2.out) (o := 0) (.int .u64 (y.1 0).n)) (o := 1) (.bool (y.1 1).q)) (o := 2) (.int .u64 (y.1 2).n)) (o := 3) (.slice a3 (len (y.1 3).l) c3)) (o := 4) (.slice a4 (len (y.1 4).l) c4)
      have d : ∀ o, _ = _ := block_cell hb
      refine bodyPost_ret (v := .tuple #[.agg (cellsSlot y.1 a3 c3 a4 c4), .nilIface]) ?_ rfl ⟨(bset (bset (bset (bset (bset HB2.out (Nat.le_refl _) _) (Nat.le_refl _) _) (Nat.le_refl _) _) (Nat.le_refl _) _) (Nat.le_refl _) _), ?_⟩
      · simp [results, Tryz.results35, go_sem, d]
      · rw [HR.out]
        exact ⟨hk, a3, c3, a4, c4, ⟨rb, tb, HL2.out.up (fun b h1 h2 => by
          have h3 : b ≠ w.heap.size := by simp at hrb; omega
          repeat rw [Below.heap_setCell _ _ _ _ h3])⟩, rfl⟩
set_option maxRecDepth 100000 in
theorem overCert_ok (m0 : ByteArray) (m1 : Int) (a2 : Option Addr) (n2 c2 : Nat) (a3 : Option Addr) (n3 c3 : Nat) (a4 : Option Addr) (n4 c4 : Nat) (a5 : Option Addr) (n5 c5 : Nat) (w : World) : Calls Tryz.prog 99 #[.agg #[.string m0, .int .u64 m1, .slice a2 n2 c2, .slice a3 n3 c3, .slice a4 n4 c4, .slice a5 n5 c5], .nilIface] w fun e w' => e = .returned (.tuple #[.agg #[.string m0, .int .u64 m1, .slice a2 n2 c2, .slice a3 n3 c3, .slice a4 n4 c4, .slice a5 n5 c5], .nilIface]) ∧ Below w.heap.size w w' := by
  go_enter Tryz.func99, Tryz.ntmps99
  go_wp2
  have hb := block_setCell (block_setCell (block_setCell (block_setCell (block_setCell (block_setCell (alloc_new_at (w := w.alloc (.cells #[.string m0, .int .u64 m1, .slice a2 n2 c2, .slice a3 n3 c3, .slice a4 n4 c4, .slice a5 n5 c5] 28)) (.cells #[.string ⟨#[]⟩, .int .u64 0, .slice none 0 0, .slice none 0 0, .slice none 0 0, .slice none 0 0] 28) (alloc_size _ rfl)) (o := 0) (.string m0)) (o := 1) (.int .u64 m1)) (o := 2) (.slice a2 n2 c2)) (o := 3) (.slice a3 n3 c3)) (o := 4) (.slice a4 n4 c4)) (o := 5) (.slice a5 n5 c5)
  have d : ∀ o, _ = _ := block_cell hb
  refine bodyPost_ret (v := .tuple #[.agg #[.string m0, .int .u64 m1, .slice a2 n2 c2, .slice a3 n3 c3, .slice a4 n4 c4, .slice a5 n5 c5], .nilIface]) ?_ rfl ⟨rfl, by (repeat (first | exact Below.refl _ _ | assumption | (refine bdrew ?_) | (refine bdrewN ?_ _) | (refine balloc ?_ _) | (refine bset ?_ (by first | omega | (simp; done) | (simp; omega)) _) | (refine bnext ?_ (by assumption))))⟩
  simp [results, Tryz.results99, go_sem, d]
set_option maxRecDepth 100000 in
theorem overCert_no (m0 : ByteArray) (m1 : Int) (a2 : Option Addr) (n2 c2 : Nat) (a3 : Option Addr) (n3 c3 : Nat) (a4 : Option Addr) (n4 c4 : Nat) (a5 : Option Addr) (n5 c5 : Nat) (fb : Nat) (w : World) : Calls Tryz.prog 99 #[.agg #[.string m0, .int .u64 m1, .slice a2 n2 c2, .slice a3 n3 c3, .slice a4 n4 c4, .slice a5 n5 c5], .iface 127 (.pointer (some ⟨fb, 0, none⟩))] w fun e w' => e = .returned (.tuple #[zeroCert, .iface 127 (.pointer (some ⟨fb, 0, none⟩))]) ∧ Below w.heap.size w w' := by
  go_enter Tryz.func99, Tryz.ntmps99
  go_wp2
  have hb := block_setCell (block_setCell (block_setCell (block_setCell (block_setCell (block_setCell (block_alloc (alloc_new_at (w := w.alloc (.cells #[.string m0, .int .u64 m1, .slice a2 n2 c2, .slice a3 n3 c3, .slice a4 n4 c4, .slice a5 n5 c5] 28)) (.cells #[.string ⟨#[]⟩, .int .u64 0, .slice none 0 0, .slice none 0 0, .slice none 0 0, .slice none 0 0] 28) (alloc_size _ rfl)) (.cells #[.string ⟨#[]⟩, .int .u64 0, .slice none 0 0, .slice none 0 0, .slice none 0 0, .slice none 0 0] 28)) (o := 0) (.string ⟨#[]⟩)) (o := 1) (.int .u64 0)) (o := 2) (.slice none 0 0)) (o := 3) (.slice none 0 0)) (o := 4) (.slice none 0 0)) (o := 5) (.slice none 0 0)
  have d : ∀ o, _ = _ := block_cell hb
  refine bodyPost_ret (v := .tuple #[zeroCert, .iface 127 (.pointer (some ⟨fb, 0, none⟩))]) ?_ rfl ⟨rfl, by (repeat (first | exact Below.refl _ _ | assumption | (refine bdrew ?_) | (refine bdrewN ?_ _) | (refine balloc ?_ _) | (refine bset ?_ (by first | omega | (simp; done) | (simp; omega)) _) | (refine bnext ?_ (by assumption))))⟩
  simp [results, Tryz.results99, go_sem, d]
def ReCert (s : ByteArray) (w : World) (e : Ending) (w' : World) : Prop :=
  Below w.heap.size w w' ∧ match readR s (certGs s) cert0 with
    | .error f => ∃ fb, e = .returned (.tuple #[zeroCert, .iface 127 (.pointer (some ⟨fb, 0, none⟩))]) ∧ FltB w' fb f.1 f.2
    | .ok x => Kd cert0 x ∧ ∃ (a2 : Option Addr) (c2 : Nat) (a3 : Option Addr) (c3 : Nat) (a4 : Option Addr) (c4 : Nat) (a5 : Option Addr) (c5 : Nat), (∃ rb tb, LiesCert rb tb w' x a2 c2 a3 c3 a4 c4 a5 c5) ∧ e = .returned (.tuple #[.agg (cellsCert x a2 c2 a3 c3 a4 c4 a5 c5), .nilIface])
set_option maxRecDepth 100000 in
set_option maxHeartbeats 2000000 in
theorem reaCert_any (B : Nat) (s : ByteArray) (w : World) (hT : Tabs B w) (hET : ErrType w) (hB : B ≤ w.heap.size) (hg : 0 < B) (hs : s.size ≤ 9223372036854775807) :
    Calls Tryz.prog 50 #[.string s] w (ReCert s w) := by
  have H := Lib.hid (fun (w' : World) (hb : Below w.heap.size w w') => readCert_any B s w' (hT.below hb) (hET.below hb) (Nat.le_trans hB hb.size) hg hs)
  clear hT hET
  go_enter Tryz.func50, Tryz.ntmps50
  go_wp2_with fail
  refine (H.out _ (balloc (Below.refl _ _) _)).mono ?_
  rintro e w1 ⟨hb1, hh⟩
  have hblk := (hb1.block w.heap.size (by simp)).trans (heap_alloc_new w _)
  have HBK := Lib.hid hblk
  have HB := Lib.hid (bnext (balloc (Below.refl _ _) _) hb1)
  clear hb1 hblk
  cases hr : objR s (certGs s) cert0 0 with
  | error f =>
    rw [hr] at hh
    obtain ⟨fb, rfl, hf⟩ := hh
    have HF := Lib.hid hf
    have HR : Hid (readR s (certGs s) cert0 = .error f) := Lib.hid (by unfold readR; rw [hr])
    clear hf hr
    go_wp2_with fail
    refine (overCert_no _ _ _ _ _ _ _ _ _ _ _ _ _ _ fb w1).mono ?_
    rintro e w2 ⟨rfl, hb2⟩
    have hb := (hb2.block _ (lt_of_block HBK.out)).trans HBK.out
    have HB2 := Lib.hid (bnext HB.out hb2)
    have HF2 := Lib.hid (HF.out.below hb2)
    have HBK2 := Lib.hid hb
    have g0 : ∀ o, w2.cell? ⟨w.heap.size, o, none⟩ = _ := block_cell hb
    have g1 : ∀ o, w2.frozen? ⟨w.heap.size, o, none⟩ = false := block_free hb
    have g2 : w.heap.size < w2.heap.size := lt_of_block hb
    clear hb2 hb
    go_wp2
    have hb := block_setCell (block_setCell (block_setCell (block_setCell (block_setCell (block_setCell (HBK2.out) (o := 0) (.string ⟨#[]⟩)) (o := 1) (.int .u64 0)) (o := 2) (.slice none 0 0)) (o := 3) (.slice none 0 0)) (o := 4) (.slice none 0 0)) (o := 5) (.slice none 0 0)
    have d : ∀ o, _ = _ := block_cell hb
    have hne : fb ≠ w.heap.size := fun e => by subst e; have h9 := HBK2.out.symm.trans HF2.out; cases h9
    refine bodyPost_ret (v := .tuple #[zeroCert, .iface 127 (.pointer (some ⟨fb, 0, none⟩))]) ?_ rfl ⟨(bset (bset (bset (bset (bset (bset HB2.out (Nat.le_refl _) _) (Nat.le_refl _) _) (Nat.le_refl _) _) (Nat.le_refl _) _) (Nat.le_refl _) _) (Nat.le_refl _) _), ?_⟩
    · simp [results, Tryz.results50, go_sem, d]
    · rw [HR.out]
      exact ⟨fb, rfl, (bsn (bsn (bsn (bsn (bsn (bsn HF2.out hne) hne) hne) hne) hne) hne)⟩
  | ok y =>
    rw [hr] at hh
    obtain ⟨hk, hle, a2, c2, a3, c3, a4, c4, a5, c5, ⟨rb, tb, hrb, hl⟩, hh⟩ := hh
    have HL := Lib.hid hl
    by_cases hlt : y.2 < s.size
    · rw [if_pos hlt] at hh
      obtain ⟨fb, rfl, hf⟩ := hh
      have HF := Lib.hid hf
      have HR : Hid (readR s (certGs s) cert0 = .error (5, y.2)) := Lib.hid (by unfold readR; rw [hr]; exact if_pos hlt)
      clear hf hr hlt
      go_wp2_with fail
      refine (overCert_no _ _ _ _ _ _ _ _ _ _ _ _ _ _ fb w1).mono ?_
      rintro e w2 ⟨rfl, hb2⟩
      have hb := (hb2.block _ (lt_of_block HBK.out)).trans HBK.out
      have HB2 := Lib.hid (bnext HB.out hb2)
      have HF2 := Lib.hid (HF.out.below hb2)
      have HBK2 := Lib.hid hb
      have g0 : ∀ o, w2.cell? ⟨w.heap.size, o, none⟩ = _ := block_cell hb
      have g1 : ∀ o, w2.frozen? ⟨w.heap.size, o, none⟩ = false := block_free hb
      have g2 : w.heap.size < w2.heap.size := lt_of_block hb
      clear hb2 hb
      go_wp2
      have hb := block_setCell (block_setCell (block_setCell (block_setCell (block_setCell (block_setCell (HBK2.out) (o := 0) (.string ⟨#[]⟩)) (o := 1) (.int .u64 0)) (o := 2) (.slice none 0 0)) (o := 3) (.slice none 0 0)) (o := 4) (.slice none 0 0)) (o := 5) (.slice none 0 0)
      have d : ∀ o, _ = _ := block_cell hb
      have hne : fb ≠ w.heap.size := fun e => by subst e; have h9 := HBK2.out.symm.trans HF2.out; cases h9
      refine bodyPost_ret (v := .tuple #[zeroCert, .iface 127 (.pointer (some ⟨fb, 0, none⟩))]) ?_ rfl ⟨(bset (bset (bset (bset (bset (bset HB2.out (Nat.le_refl _) _) (Nat.le_refl _) _) (Nat.le_refl _) _) (Nat.le_refl _) _) (Nat.le_refl _) _) (Nat.le_refl _) _), ?_⟩
      · simp [results, Tryz.results50, go_sem, d]
      · rw [HR.out]
        exact ⟨fb, rfl, (bsn (bsn (bsn (bsn (bsn (bsn HF2.out hne) hne) hne) hne) hne) hne)⟩
    · rw [if_neg hlt] at hh
      subst hh
      have HR : Hid (readR s (certGs s) cert0 = .ok y.1) := Lib.hid (by unfold readR; rw [hr]; exact if_neg hlt)
      clear hr hlt
      go_wp2_with fail
      refine (overCert_ok _ _ _ _ _ _ _ _ _ _ _ _ _ _ w1).mono ?_
      rintro e w2 ⟨rfl, hb2⟩
      have hb := (hb2.block _ (lt_of_block HBK.out)).trans HBK.out
      have HB2 := Lib.hid (bnext HB.out hb2)
      have HL2 := Lib.hid (HL.out.below hb2)
      have HBK2 := Lib.hid hb
      have g0 : ∀ o, w2.cell? ⟨w.heap.size, o, none⟩ = _ := block_cell hb
      have g1 : ∀ o, w2.frozen? ⟨w.heap.size, o, none⟩ = false := block_free hb
      have g2 : w.heap.size < w2.heap.size := lt_of_block hb
      clear hb2 hb
      go_wp2
      have hb := block_setCell (block_setCell (block_setCell (block_setCell (block_setCell (block_setCell (HBK2.out) (o := 0) (.string (y.1 0).s)) (o := 1) (.int .u64 (y.1 1).n)) (o := 2) (.slice a2 (len (y.1 2).rs) c2)) (o := 3) (.slice a3 (len (y.1 3).ns) c3)) (o := 4) (.slice a4 (len (y.1 4).l) c4)) (o := 5) (.slice a5 (len (y.1 5).l) c5)
      have d : ∀ o, _ = _ := block_cell hb
      refine bodyPost_ret (v := .tuple #[.agg (cellsCert y.1 a2 c2 a3 c3 a4 c4 a5 c5), .nilIface]) ?_ rfl ⟨(bset (bset (bset (bset (bset (bset HB2.out (Nat.le_refl _) _) (Nat.le_refl _) _) (Nat.le_refl _) _) (Nat.le_refl _) _) (Nat.le_refl _) _) (Nat.le_refl _) _), ?_⟩
      · simp [results, Tryz.results50, go_sem, d]
      · rw [HR.out]
        exact ⟨hk, a2, c2, a3, c3, a4, c4, a5, c5, ⟨rb, tb, HL2.out.up (fun b h1 h2 => by
          have h3 : b ≠ w.heap.size := by simp at hrb; omega
          repeat rw [Below.heap_setCell _ _ _ _ h3])⟩, rfl⟩
end Go.Proofs.YtihiaopilnjonaaGreatDoor
namespace Go.Proofs.YtihiaopilnjonaaGreatDoor
open Go.RowKit
set_option linter.unusedSimpArgs false
set_option linter.unusedVariables false
abbrev CP := Nat → Nat → Value → Prop
def StrsC (C : CP) (a : Option Addr) (l : List ByteArray) : Prop := ∀ i, i < len l → ∃ b off, a = some ⟨b, off, none⟩ ∧ C b (off + i) (.string (sth l i))
theorem StrsC.imp {C D : CP} (h : ∀ b o x, C b o x → D b o x) {a : Option Addr} {l : List ByteArray} (hs : StrsC C a l) : StrsC D a l := fun i hi => by
  obtain ⟨b, off, e, hc⟩ := hs i hi; exact ⟨b, off, e, h _ _ _ hc⟩
structure RevCl (C : CP) (b o : Nat) (d : RevD) : Prop where
  c0 : C b o (.int .u64 d.pos)
  c1 : C b (o + 1) (.int .u64 d.L)
  c2 : C b (o + 2) (.bool d.signed)
  c3 : C b (o + 3) (.int .u64 d.idx)
  c4 : ∃ a c, C b (o + 4) (.slice a (len d.ws) c) ∧ StrsC C a d.ws
  c5 : ∃ a c, C b (o + 5) (.slice a (len d.ps) c) ∧ StrsC C a d.ps
  c6 : C b (o + 6) (.string d.root)
  c7 : C b (o + 7) (.int .u64 d.wt)
  c8 : C b (o + 8) (.int .u64 d.first)
  c9 : C b (o + 9) (.int .u64 d.life)
  c10 : C b (o + 10) (.int .u64 d.keys)
theorem RevCl.imp {C D : CP} (h : ∀ b o x, C b o x → D b o x) {b o : Nat} {d : RevD} (k : RevCl C b o d) : RevCl D b o d := by
  obtain ⟨a4, k4, h4, s4⟩ := k.c4
  obtain ⟨a5, k5, h5, s5⟩ := k.c5
  exact ⟨h _ _ _ k.c0, h _ _ _ k.c1, h _ _ _ k.c2, h _ _ _ k.c3, ⟨a4, k4, h _ _ _ h4, s4.imp h⟩, ⟨a5, k5, h _ _ _ h5, s5.imp h⟩, h _ _ _ k.c6, h _ _ _ k.c7, h _ _ _ k.c8, h _ _ _ k.c9, h _ _ _ k.c10⟩
def RvsC (C : CP) (a : Option Addr) (l : List RevD) : Prop := ∀ i, i < len l → ∃ b off, a = some ⟨b, off, none⟩ ∧ RevCl C b (off + i * 11) (lth l i)
theorem RvsC.imp {C D : CP} (h : ∀ b o x, C b o x → D b o x) {a : Option Addr} {l : List RevD} (k : RvsC C a l) : RvsC D a l := fun i hi => by
  obtain ⟨b, off, e, hc⟩ := k i hi; exact ⟨b, off, e, hc.imp h⟩
def RevV (C : CP) (v : Value) (d : RevD) : Prop := ∃ a4 k4 a5 k5, v = .agg #[.int .u64 d.pos, .int .u64 d.L, .bool d.signed, .int .u64 d.idx, .slice a4 (len d.ws) k4, .slice a5 (len d.ps) k5, .string d.root, .int .u64 d.wt, .int .u64 d.first, .int .u64 d.life, .int .u64 d.keys] ∧ StrsC C a4 d.ws ∧ StrsC C a5 d.ps
structure RvBd (d : RevD) : Prop where
  pos : U64i d.pos
  L : U64i d.L
  idx : U64i d.idx
  wt : U64i d.wt
  first : U64i d.first
  life : U64i d.life
  keys : U64i d.keys
  ws : len d.ws ≤ 100000
  ps : len d.ps ≤ 100000
  root : d.root.size ≤ 9223372036854775807
def NoRow (t : Nat) (w : World) : Prop := ∃ cs T fr, w.heap[t]? = some (.cells cs T fr) ∧ T ≠ 172
theorem NoRow.lt {t : Nat} {w : World} (h : NoRow t w) : t < w.heap.size := by obtain ⟨cs, T, fr, h1, _⟩ := h; exact lt_of_block h1
theorem NoRow.below {t : Nat} {w w' : World} (h : NoRow t w) (hb : Below w.heap.size w w') : NoRow t w' := by
  obtain ⟨cs, T, fr, h1, h2⟩ := h; exact ⟨cs, T, fr, (hb.block _ (lt_of_block h1)).trans h1, h2⟩
theorem NoRow.ne {t g : Nat} {w : World} {l : List FVal} (h : NoRow t w) (hF : FRow w g l) : g ≠ t := fun e => by
  subst e
  obtain ⟨cs, T, fr, h1, h2⟩ := h
  obtain ⟨_, cur, h3⟩ := hF
  rw [h1] at h3; cases h3; exact h2 rfl
section
variable {B t : Nat} {w : World}
set_option maxRecDepth 100000 in
theorem tpart_any (sb so : Nat) (root : ByteArray) (weight first life keys : Int) (hB : B ≤ w.heap.size) (ht : B ≤ t) (hT : NoRow t w) (h0 : CellOff B t w sb so (.string root)) (h1 : CellOff B t w sb (so + 1) (.int .u64 weight)) (h2 : CellOff B t w sb (so + 2) (.int .u64 first)) (h3 : CellOff B t w sb (so + 3) (.int .u64 life)) (h4 : CellOff B t w sb (so + 4) (.int .u64 keys)) (hr : root.size ≤ 9223372036854775807) (hw : U64i weight) (hf : U64i first) (hl : U64i life) (hk : U64i keys) :
    Calls Tryz.prog 62 #[.pointer (some ⟨sb, so, none⟩)] w (RowIs (FITs B t (partSpecs root weight first life keys)) w) := by
  refine (gofPart_any sb so w (fun w v => FIT B t w v (⟨⟨#[102]⟩, false, first == 0, true, numP first⟩)) (fun w v => FIT B t w v (⟨⟨#[107]⟩, false, keys == 0, true, numP keys⟩)) (fun w v => FIT B t w v (⟨⟨#[108]⟩, false, life == 0, true, numP life⟩)) (fun w v => FIT B t w v (⟨⟨#[114]⟩, true, false, decide (root.size = 32), binP root⟩)) (fun w v => FIT B t w v (⟨⟨#[119]⟩, false, weight == 0, true, numP weight⟩))  (fun w' hb => ?p0) (fit_lasts B t _) (fun w' hb => ?p1) (fit_lasts B t _) (fun w' hb => ?p2) (fit_lasts B t _) (fun w' hb => ?p3) (fit_lasts B t _) (fun w' hb => ?p4) (fit_lasts B t _)).mono ?_
  case p0 => exact tnum_any ⟨#[102]⟩ sb (so + 2) first (by decide) (Nat.le_trans hB hb.size) ht (hT.below hb).lt (h2.below hb) hf
  case p1 => exact tnum_any ⟨#[107]⟩ sb (so + 4) keys (by decide) (Nat.le_trans hB hb.size) ht (hT.below hb).lt (h4.below hb) hk
  case p2 => exact tnum_any ⟨#[108]⟩ sb (so + 3) life (by decide) (Nat.le_trans hB hb.size) ht (hT.below hb).lt (h3.below hb) hl
  case p3 => exact tdig_any ⟨#[114]⟩ sb (so) root (by decide) (Nat.le_trans hB hb.size) ht (hT.below hb).lt (h0.below hb) hr
  case p4 => exact tnum_any ⟨#[119]⟩ sb (so + 1) weight (by decide) (Nat.le_trans hB hb.size) ht (hT.below hb).lt (h1.below hb) hw
  rintro e w' ⟨u, he, hR, hb⟩
  exact ⟨u, he, hR.imp (fun l ⟨x0, x1, x2, x3, x4, hl, p0, p1, p2, p3, p4⟩ => by subst hl; exact fits5 p0 p1 p2 p3 p4), hb⟩
set_option maxRecDepth 100000 in
theorem tsig_any (sb so : Nat) (idx : Int) (wots path : List ByteArray) (hB : B ≤ w.heap.size) (ht : B ≤ t) (hT : NoRow t w) (h0 : CellOff B t w sb so (.int .u64 idx)) (h1 : ∃ a c, CellOff B t w sb (so + 1) (.slice a (len wots) c) ∧ StrsC (CellOff B t w) a wots) (h2 : ∃ a c, CellOff B t w sb (so + 2) (.slice a (len path) c) ∧ StrsC (CellOff B t w) a path) (hi : U64i idx) (hw : len wots ≤ 100000) (hp : len path ≤ 100000) :
    Calls Tryz.prog 108 #[.pointer (some ⟨sb, so, none⟩)] w (RowIs (FITs B t (sigSpecs idx wots path)) w) := by
  obtain ⟨a1, k1, q1, s1⟩ := h1
  obtain ⟨a2, k2, q2, s2⟩ := h2
  refine (gofSig_any sb so w (fun w v => FIT B t w v (⟨⟨#[105]⟩, false, idx == 0, true, numP idx⟩)) (fun w v => FIT B t w v (⟨⟨#[112]⟩, false, decide (len path = 0), mayB path 16, dgsP path⟩)) (fun w v => FIT B t w v (⟨⟨#[118]⟩, false, decide (len wots = 0), mayB wots 67, dgsP wots⟩))  (fun w' hb => ?p0) (fit_lasts B t _) (fun w' hb => ?p1) (fit_lasts B t _) (fun w' hb => ?p2) (fit_lasts B t _)).mono ?_
  case p0 => exact tnum_any ⟨#[105]⟩ sb (so) idx (by decide) (Nat.le_trans hB hb.size) ht (hT.below hb).lt (h0.below hb) hi
  case p1 => exact tdigs_any ⟨#[112]⟩ sb (so + 2) k2 16 a2 path (by decide) (Nat.le_trans hB hb.size) ht (hT.below hb).lt (q2.below hb) (StrsOff.below s2 hb) hp (by decide)
  case p2 => exact tdigs_any ⟨#[118]⟩ sb (so + 1) k1 67 a1 wots (by decide) (Nat.le_trans hB hb.size) ht (hT.below hb).lt (q1.below hb) (StrsOff.below s1 hb) hw (by decide)
  rintro e w' ⟨u, he, hR, hb⟩
  exact ⟨u, he, hR.imp (fun l ⟨x0, x1, x2, hl, p0, p1, p2⟩ => by subst hl; exact fits3 p0 p1 p2), hb⟩
set_option maxRecDepth 100000 in
theorem tslot_any (sb so : Nat) (L : Int) (q : Bool) (idx : Int) (wots path : List ByteArray) (hB : B ≤ w.heap.size) (ht : B ≤ t) (hT : NoRow t w) (g0 : CellOff B t w sb so (.int .u64 L)) (g1 : CellOff B t w sb (so + 1) (.bool q)) (h0 : CellOff B t w sb (so + 2) (.int .u64 idx)) (h1 : ∃ a c, CellOff B t w sb (so + 3) (.slice a (len wots) c) ∧ StrsC (CellOff B t w) a wots) (h2 : ∃ a c, CellOff B t w sb (so + 4) (.slice a (len path) c) ∧ StrsC (CellOff B t w) a path) (hL : U64i L) (hi : U64i idx) (hw : len wots ≤ 100000) (hp : len path ≤ 100000) :
    Calls Tryz.prog 61 #[.pointer (some ⟨sb, so, none⟩)] w (RowIs (FITs B t (slotSpecs L q idx wots path)) w) := by
  obtain ⟨a1, k1, q1, s1⟩ := h1
  obtain ⟨a2, k2, q2, s2⟩ := h2
  refine (gofSlot_any sb so w (fun w v => FIT B t w v (objSpec ⟨#[103]⟩ (sigSpecs idx wots path))) (fun w v => FIT B t w v (⟨⟨#[108]⟩, false, L == 0, true, numP L⟩)) (fun w v => FIT B t w v (⟨⟨#[115]⟩, false, !q, true, numP 1⟩)) (FITs B t (sigSpecs idx wots path)) (fits_lasts B t (sigSpecs idx wots path)) (fun w' hb => ?r0) (fun w' g c l hb hF hc hR => ?p0) (fit_lasts B t (objSpec ⟨#[103]⟩ (sigSpecs idx wots path))) (fun w' hb => ?p1) (fit_lasts B t _) (fun w' hb => ?p2) (fit_lasts B t _)).mono ?_
  case r0 => exact tsig_any sb (so + 2) idx wots path (Nat.le_trans hB hb.size) ht (hT.below hb) (h0.below hb) ⟨a1, k1, q1.below hb, StrsOff.below s1 hb⟩ ⟨a2, k2, q2.below hb, StrsOff.below s2 hb⟩ hi hw hp
  case p0 => exact tobj_any ⟨#[103]⟩ g c l (sigSpecs idx wots path) (by decide) (hT.below hb).lt ((hT.below hb).ne hF) hF (by show 0 < 3; decide) (by show 3 ≤ 1000; decide) hR
  case p1 => exact tnum_any ⟨#[108]⟩ sb (so) L (by decide) (Nat.le_trans hB hb.size) ht (hT.below hb).lt (g0.below hb) hL
  case p2 => exact tflag_any ⟨#[115]⟩ sb (so + 1) q (by decide) (Nat.le_trans hB hb.size) ht (hT.below hb).lt (g1.below hb)
  rintro e w' ⟨u, he, hR, hb⟩
  exact ⟨u, he, hR.imp (fun l ⟨x0, x1, x2, hl, p0, p1, p2⟩ => by subst hl; exact fits3 p0 p1 p2), hb⟩
set_option maxRecDepth 100000 in
theorem trev_any (sb so : Nat) (d : RevD) (hB : B ≤ w.heap.size) (ht : B ≤ t) (hT : NoRow t w) (h : RevCl (CellOff B t w) sb so d) (bd : RvBd d) :
    Calls Tryz.prog 155 #[.pointer (some ⟨sb, so, none⟩)] w (RowIs (FITs B t (revSpecs d)) w) := by
  obtain ⟨a1, k1, q1, s1⟩ := h.c4
  obtain ⟨a2, k2, q2, s2⟩ := h.c5
  refine (gofReveal_any sb so w (fun w v => FIT B t w v (⟨⟨#[112]⟩, false, d.pos == 0, true, numP d.pos⟩)) (fun w v => FIT B t w v (objSpec ⟨#[113]⟩ (partSpecs d.root d.wt d.first d.life d.keys))) (fun w v => FIT B t w v (objSpec ⟨#[115]⟩ (slotSpecs d.L d.signed d.idx d.ws d.ps))) (FITs B t (partSpecs d.root d.wt d.first d.life d.keys)) (FITs B t (slotSpecs d.L d.signed d.idx d.ws d.ps)) (fun w' hb => ?p0) (fit_lasts B t _) (fits_lasts B t (partSpecs d.root d.wt d.first d.life d.keys)) (fun w' hb => ?r1) (fun w' g c l hb hF hc hR => ?p1) (fit_lasts B t (objSpec ⟨#[113]⟩ (partSpecs d.root d.wt d.first d.life d.keys))) (fits_lasts B t (slotSpecs d.L d.signed d.idx d.ws d.ps)) (fun w' hb => ?r2) (fun w' g c l hb hF hc hR => ?p2) (fit_lasts B t (objSpec ⟨#[115]⟩ (slotSpecs d.L d.signed d.idx d.ws d.ps)))).mono ?_
  case p0 => exact tnum_any ⟨#[112]⟩ sb (so) d.pos (by decide) (Nat.le_trans hB hb.size) ht (hT.below hb).lt (h.c0.below hb) bd.pos
  case r1 => exact tpart_any sb (so + 6) d.root d.wt d.first d.life d.keys (Nat.le_trans hB hb.size) ht (hT.below hb) (h.c6.below hb) (h.c7.below hb) (h.c8.below hb) (h.c9.below hb) (h.c10.below hb) bd.root bd.wt bd.first bd.life bd.keys
  case p1 => exact tobj_any ⟨#[113]⟩ g c l (partSpecs d.root d.wt d.first d.life d.keys) (by decide) (hT.below hb).lt ((hT.below hb).ne hF) hF (by show 0 < 5; decide) (by show 5 ≤ 1000; decide) hR
  case r2 => exact tslot_any sb (so + 1) d.L d.signed d.idx d.ws d.ps (Nat.le_trans hB hb.size) ht (hT.below hb) (h.c1.below hb) (h.c2.below hb) (h.c3.below hb) ⟨a1, k1, q1.below hb, StrsOff.below s1 hb⟩ ⟨a2, k2, q2.below hb, StrsOff.below s2 hb⟩ bd.L bd.idx bd.ws bd.ps
  case p2 => exact tobj_any ⟨#[115]⟩ g c l (slotSpecs d.L d.signed d.idx d.ws d.ps) (by decide) (hT.below hb).lt ((hT.below hb).ne hF) hF (by show 0 < 3; decide) (by show 3 ≤ 1000; decide) hR
  rintro e w' ⟨u, he, hR, hb⟩
  exact ⟨u, he, hR.imp (fun l ⟨x0, x1, x2, hl, p0, p1, p2⟩ => by subst hl; exact fits3 p0 p1 p2), hb⟩
set_option maxRecDepth 100000 in
theorem oc4_any (pb po : Nat) (d : RevD) (hB : B ≤ w.heap.size) (ht : B ≤ t) (hT : NoRow t w) (h : RevCl (CellOff B t w) pb po d) (bd : RvBd d) :
    Calls Tryz.prog 154 #[.pointer (some ⟨pb, po, none⟩)] w fun e w' => e = .returned (.bool (allMay (revSpecs d))) ∧ Below w.heap.size w w' := by
  have H := Lib.hid (trev_any pb po d hB ht hT h bd)
  have HL3 : Hid (len (revSpecs d) = 3) := Lib.hid rfl
  clear h
  generalize revSpecs d = fs at H HL3 ⊢
  go_enter Tryz.func154, Tryz.ntmps154
  go_wp2_with fail
  refine H.out.mono ?_
  rintro e w1 ⟨u, rfl, ⟨g, c, l, rfl, hc, hF, hS⟩, hb⟩
  have HF := Lib.hid hF
  have HS := Lib.hid hS
  have HB := Lib.hid hb
  have HLN : Hid (len l = 3) := Lib.hid (hS.sems.1.symm.trans HL3.out)
  clear hF hS hb H
  go_wp2_with fail
  refine (all_any B w1 (some ⟨g, 0, none⟩) c l fs w1 HF.out.flds (by have := HLN.out; omega) HS.out.sems (Keep8.refl HS.out.1)).mono ?_
  rintro e w2 ⟨rfl, hb⟩
  have HB2 := Lib.hid (bnext HB.out hb)
  clear hb
  go_wp2
  go_ret
  exact ⟨rfl, HB2.out⟩
end
theorem off_blank {B b base : Nat} {w : World} (hB : B ≤ base) (hb : base ≤ b) (hs : B ≤ w.heap.size) : Keep8 B (putB w b (.cells #[] 5 (0, 0))) w ∧ Off8 (putB w b (.cells #[] 5 (0, 0))) b := by
  refine ⟨⟨by rw [putB_size]; exact hs, by rw [putB_size]; exact Nat.le_refl _, fun k hk => (putB_ne (by omega)).symm, fun k x hx hn => ?_⟩, fun x hx hn => ?_⟩
  · have e : k ≠ b := fun e => by
      subst e
      exact hn _ _ (putB_at hx)
    rw [putB_ne e] at hx; exact hx
  · exact hn _ _ (putB_at hx)
set_option maxRecDepth 100000 in
set_option maxHeartbeats 4000000 in
theorem oc5_any (B b base pb po : Nat) (d : RevD) (s : ByteArray) (w : World) (hBw : B ≤ w.heap.size) (h : RevCl (CellOff B b w) pb po d) (bd : RvBd d) (hm : allMay (revSpecs d) = true) (ht : PTab B w) (hB : B ≤ base) (hW : WrB w b base s) (hs : s.size + (revB d).size ≤ 60000000000000) :
    Calls Tryz.prog 156 #[.pointer (some ⟨b, 0, none⟩), .pointer (some ⟨pb, po, none⟩)] w fun e w' => e = .returned (.tuple #[]) ∧ WrB w' b base (s ++ revB d) ∧ WK base b w w' := by
  have hbb : base ≤ b := hW.1
  have hNR : NoRow b w := by obtain ⟨_, v, h1, _⟩ := hW; exact ⟨_, _, _, h1, by decide⟩
  have hbw : base ≤ w.heap.size := by have := hW.lt; omega
  have H := Lib.hid (trev_any pb po d hBw (Nat.le_trans hB hbb) hNR h bd)
  have HT := Lib.hid ht
  have HW := Lib.hid hW
  clear h ht hW hNR
  unfold revB at hs ⊢
  have HL3 : Hid (len (revSpecs d) = 3) := Lib.hid rfl
  generalize revSpecs d = fs at H HL3 hm hs ⊢
  have HM := Lib.hid hm
  have HSZ := Lib.hid hs
  clear hm hs
  go_enter Tryz.func156, Tryz.ntmps156
  go_wp2_with fail
  refine H.out.mono ?_
  rintro e w1 ⟨u, rfl, ⟨g, c, l, rfl, hc, hF, hS⟩, hb⟩
  have HF := Lib.hid hF
  have HS := Lib.hid hS
  have HB := Lib.hid hb
  have HT1 := Lib.hid (HT.out.keep hb HT.out.size)
  have HW1 := Lib.hid (HW.out.below hb)
  have HLN : Hid (len l = 3) := Lib.hid (hS.sems.1.symm.trans HL3.out)
  have hof := off_blank (w := w1) hB hbb hS.1
  have HOF := Lib.hid hof
  clear hF hS hb H hof
  go_wp2_with fail
  refine (lay_any B b base g 0 c (putB w1 b (.cells #[] 5 (0, 0))) l fs s w1 HF.out.flds (by have := HLN.out; omega) (by have := HLN.out; omega) (HS.out.2.2 _) HM.out HOF.out.1 HOF.out.2 HT1.out hB HW1.out HSZ.out).mono ?_
  rintro e w2 ⟨rfl, h3, h4⟩
  have H3 := Lib.hid h3
  have H4 : Hid (WK base b w w2) := Lib.hid ((WK.of_below HB.out hbw).trans h4)
  clear h3 h4
  go_wp2
  go_end0
  exact ⟨rfl, H3.out, H4.out⟩
structure CLasts (C : World → CP) : Prop where
  below : ∀ w w' b o x, Below w.heap.size w w' → C w b o x → C w' b o x
  cell : ∀ w b o x, C w b o x → w.cell? ⟨b, o, none⟩ = some x
theorem cellOff_lasts (B t : Nat) : CLasts (CellOff B t) := ⟨fun w w' b o x hb h => h.below hb, fun w b o x h => h.1.cell⟩
def SaysR (C : World → CP) (w : World) (l : List RevD) (g : Nat) (lb : Array Value) (p : Nat → Bool) : Prop :=
  (∀ args w', (callFunc g args).run Tryz.prog w' = .ok (.enter g args) w') ∧ ∀ i, i < len l → ∀ w' v, Below w.heap.size w w' → RevV (C w') v (lth l i) → Calls Tryz.prog g (#[v] ++ lb) w' fun e w'' => e = .returned (.bool (p i)) ∧ Below w'.heap.size w' w''
set_option maxRecDepth 100000 in
set_option maxHeartbeats 4000000 in
theorem idxr_any (C : World → CP) (hC : CLasts C) (a : Option Addr) (c : Nat) (l : List RevD) (g : Nat) (lb : Array Value) (p : Nat → Bool) (w : World) (hl : RvsC (C w) a l) (hn : len l ≤ 100000) (hp : SaysR C w l g lb p) :
    Calls Tryz.prog 197 #[.slice a (len l) c, .func (.func g) #[] lb] w (IdxOut (len l) p w) := by
  have HL := Lib.hid hl
  have HP := Lib.hid hp.2
  have eg := hp.1
  clear hl hp
  go_enter Tryz.func197, Tryz.ntmps197
  go_wp2
  go_loopg [8] (len l) (fun g i wr => ∃ m : Nat, g + m = len l ∧ i = .int .i64 m ∧ Hid (∀ i, i < m → p i = false) ∧ Hid (Below w.heap.size w wr))
  case atStart => exact ⟨0, rfl, rfl, fun i hi => by omega, Below.refl _ _⟩
  case round =>
    obtain ⟨m, hm, rfl, HN, HB⟩ := hrel
    by_cases hlt : m < len l
    · obtain ⟨b, off, rfl, hc⟩ := (HL.out.imp fun _ _ _ h => hC.below _ _ _ _ _ HB.out h) m hlt
      have i1 : (m : Int) < len l := by omega
      have hcall := HP.out m hlt wr
      obtain ⟨d, hd⟩ : ∃ d, lth l m = d := ⟨_, rfl⟩
      rw [hd] at hc hcall
      clear hd
      obtain ⟨a4, k4, h4, s4⟩ := hc.c4
      obtain ⟨a5, k5, h5, s5⟩ := hc.c5
      have HC := Lib.hid (hcall _ HB.out ⟨a4, k4, a5, k5, rfl, s4, s5⟩)
      have c0 := hC.cell _ _ _ _ hc.c0
      have c1 := hC.cell _ _ _ _ hc.c1
      have c2 := hC.cell _ _ _ _ hc.c2
      have c3 := hC.cell _ _ _ _ hc.c3
      have c4 := hC.cell _ _ _ _ h4
      have c5 := hC.cell _ _ _ _ h5
      have c6 := hC.cell _ _ _ _ hc.c6
      have c7 := hC.cell _ _ _ _ hc.c7
      have c8 := hC.cell _ _ _ _ hc.c8
      have c9 := hC.cell _ _ _ _ hc.c9
      have c10 := hC.cell _ _ _ _ hc.c10
      clear hc hcall h4 h5 s4 s5
      go_wp2_with fail
      refine HC.out.mono ?_
      rintro e w1 ⟨rfl, hb⟩
      have HB1 : Hid (Below w.heap.size w w1) := Lib.hid (bnext HB.out hb)
      clear hb c0 c1 c2 c3 c4 c5 c6 c7 c8 c9 c10
      cases hpm : p m with
      | true =>
        go_wp2
        go_ret
        exact ⟨m, rfl, .inr ⟨m, hlt, rfl, hpm, HN.out⟩, HB1.out⟩
      | false =>
        have HN2 : Hid (∀ i, i < m + 1 → p i = false) := Lib.hid (fun i hi => by
          by_cases e : i = m
          · subst e; exact hpm
          · exact HN.out i (by omega))
        clear hpm
        go_wp2
        go_roundg (len l - (m + 1))
        case rel => exact ⟨m + 1, by omega, by go_num, HN2.out, HB1.out⟩
        case measure => omega
    · obtain rfl : m = len l := by omega
      have i1 : ¬ ((len l : Nat) : Int) < len l := by omega
      go_wp2
      go_ret
      exact ⟨-1, rfl, .inl ⟨rfl, HN.out⟩, HB.out⟩
theorem containsr_any (C : World → CP) (hC : CLasts C) (a : Option Addr) (c : Nat) (l : List RevD) (g : Nat) (lb : Array Value) (p : Nat → Bool) (w : World) (hl : RvsC (C w) a l) (hn : len l ≤ 100000) (hp : SaysR C w l g lb p) :
    Calls Tryz.prog 119 #[.slice a (len l) c, .func (.func g) #[] lb] w fun e w' => ∃ b, e = .returned (.bool b) ∧ (b = true ↔ ∃ i, i < len l ∧ p i = true) ∧ Below w.heap.size w w' := by
  have H := Lib.hid (idxr_any C hC a c l g lb p w hl hn hp)
  clear hl hp
  go_enter Tryz.func119, Tryz.ntmps119
  go_wp2_with fail
  refine H.out.mono ?_
  rintro e w1 ⟨r, rfl, hr, hb⟩
  have HB := Lib.hid hb
  clear hb
  rcases hr with ⟨rfl, hall⟩ | ⟨k, hk, rfl, hpk, -⟩
  · have HA := Lib.hid hall
    clear hall
    go_wp2
    go_ret
    exact ⟨false, rfl, ⟨fun h => (by cases h), fun ⟨i, hi, h⟩ => by rw [HA.out i hi] at h; cases h⟩, HB.out⟩
  · have HK := Lib.hid hpk
    clear hpk
    go_wp2
    go_ret
    exact ⟨true, rfl, ⟨fun _ => ⟨k, hk, HK.out⟩, fun _ => rfl⟩, HB.out⟩
set_option maxRecDepth 100000 in
theorem many21r_any (B b9 : Nat) (v : Value) (d : RevD) (w : World) (hBw : B ≤ w.heap.size) (hb9 : B ≤ b9) (hT : NoRow b9 w) (h1 : CellAt B w b9 0 (.func (.func 154) #[] #[])) (hv : RevV (CellOff B b9 w) v d) (bd : RvBd d) : Calls Tryz.prog 229 #[v, .pointer (some ⟨b9, 0, none⟩)] w fun e w' => e = .returned (.bool (!allMay (revSpecs d))) ∧ Below w.heap.size w w' := by
  have c1 := h1.cell
  have l1 := h1.lt
  have eg := enters_of Tryz.func154 (by kernel_rfl) rfl
  obtain ⟨a4, k4, a5, k5, rfl, s4, s5⟩ := hv
  have S4 := Lib.hid s4
  have S5 := Lib.hid s5
  have HOC := Lib.hid (fun (V : World) (pb : Nat) (h1 : Below w.heap.size w V) (h : RevCl (CellOff B b9 V) pb 0 d) => oc4_any (B := B) (t := b9) (w := V) pb 0 d (Nat.le_trans hBw h1.size) hb9 (hT.below h1) h bd)
  generalize revSpecs d = fs at HOC ⊢
  clear h1 s4 s5
  go_enter Tryz.func229, Tryz.ntmps229
  go_wp2_with fail
  obtain ⟨V, hV⟩ : ∃ V, w.alloc (.cells #[.int .u64 d.pos, .int .u64 d.L, .bool d.signed, .int .u64 d.idx, .slice a4 (len d.ws) k4, .slice a5 (len d.ps) k5, .string d.root, .int .u64 d.wt, .int .u64 d.first, .int .u64 d.life, .int .u64 d.keys] 48) = V := ⟨_, rfl⟩
  have hB1 : Below w.heap.size w V := by rw [← hV]; exact balloc (Below.refl _ _) _
  have hN : V.heap[w.heap.size]? = some (.cells #[.int .u64 d.pos, .int .u64 d.L, .bool d.signed, .int .u64 d.idx, .slice a4 (len d.ws) k4, .slice a5 (len d.ps) k5, .string d.root, .int .u64 d.wt, .int .u64 d.first, .int .u64 d.life, .int .u64 d.keys] 48 (0, 0)) := by rw [← hV]; exact heap_alloc_new _ _
  try rw [hV]
  clear hV
  have hne : w.heap.size ≠ b9 := by omega
  have C := fun (o : Nat) (x : Value) (hx : (#[.int .u64 d.pos, .int .u64 d.L, .bool d.signed, .int .u64 d.idx, .slice a4 (len d.ws) k4, .slice a5 (len d.ps) k5, .string d.root, .int .u64 d.wt, .int .u64 d.first, .int .u64 d.life, .int .u64 d.keys] : Array Value)[o]? = some x) => (⟨cellAt_new hN (by decide) hx, hne⟩ : CellOff B b9 V w.heap.size o x)
  refine (HOC.out V w.heap.size hB1 ⟨C 0 _ rfl, C 1 _ rfl, C 2 _ rfl, C 3 _ rfl, ⟨a4, k4, C 4 _ rfl, S4.out.imp fun _ _ _ h => h.below hB1⟩, ⟨a5, k5, C 5 _ rfl, S5.out.imp fun _ _ _ h => h.below hB1⟩, C 6 _ rfl, C 7 _ rfl, C 8 _ rfl, C 9 _ rfl, C 10 _ rfl⟩).mono ?_
  rintro e w1 ⟨rfl, hb⟩
  have HB : Hid (Below w.heap.size w w1) := Lib.hid (bnext hB1 hb)
  clear hb C hN hB1 S4 S5
  go_wp2
  go_ret
  exact ⟨rfl, HB.out⟩
theorem mayR_no (l : List RevD) : ((l.all fun r => allMay (revSpecs r)) = false ↔ ∃ i, i < len l ∧ (!allMay (revSpecs (lth l i))) = true) := by
  rw [List.all_eq_false]
  constructor
  · rintro ⟨x, hx, hm⟩
    obtain ⟨i, hi, rfl⟩ := List.getElem_of_mem hx
    exact ⟨i, hi, by rw [lth_eq l i hi]; simpa using hm⟩
  · rintro ⟨i, hi, hm⟩
    have hi' : i < l.length := hi
    exact ⟨l[i], List.getElem_mem _, by rw [lth_eq l i hi'] at hm; simpa using hm⟩
theorem mayR_at {l : List RevD} {most : Nat} (h : mayR l most = true) : len l ≤ most ∧ ∀ i, i < len l → allMay (revSpecs (lth l i)) = true := by
  obtain ⟨h1, h2⟩ := (mayR_iff l most).1 h
  exact ⟨h1, fun i hi => by rw [lth_eq l i hi]; exact h2 _ (List.getElem_mem _)⟩
set_option maxRecDepth 100000 in
set_option maxHeartbeats 4000000 in
theorem many2r_any (B b7 b8 b9 pb po c most : Nat) (a : Option Addr) (l : List RevD) (w : World) (h1 : CellAt B w b7 0 (.pointer (some ⟨pb, po, none⟩))) (h2 : CellAt B w pb po (.slice a (len l) c)) (h3 : CellAt B w b8 0 (.int .i64 most)) (h4 : CellAt B w b9 0 (.func (.func 154) #[] #[]))
    (hBw : B ≤ w.heap.size) (hb9 : B ≤ b9) (hT : NoRow b9 w) (hl : RvsC (CellOff B b9 w) a l) (hbd : ∀ i, i < len l → RvBd (lth l i)) (hn : len l ≤ 100000) : Calls Tryz.prog 228 #[.pointer (some ⟨b7, 0, none⟩), .pointer (some ⟨b8, 0, none⟩), .pointer (some ⟨b9, 0, none⟩)] w fun e w' => e = .returned (.bool (mayR l most)) ∧ Below w.heap.size w w' := by
  have c1 := h1.cell
  have c2 := h2.cell
  have c3 := h3.cell
  have H4 := Lib.hid h4
  have HT := Lib.hid hT
  have HL := Lib.hid hl
  have eg := enters_of Tryz.func229 (by kernel_rfl) rfl
  clear h1 h2 h3 h4 hl hT
  have HCF : Hid (∀ w', Below w.heap.size w w' → Calls Tryz.prog 119 #[.slice a (len l) c, .func (.func 229) #[] #[.pointer (some ⟨b9, 0, none⟩)]] w' fun e w'' => ∃ b, e = .returned (.bool b) ∧ (b = true ↔ ∃ i, i < len l ∧ (!allMay (revSpecs (lth l i))) = true) ∧ Below w'.heap.size w' w'') :=
    Lib.hid (fun w' hb => containsr_any (CellOff B b9) (cellOff_lasts B b9) a c l _ _ (fun i => !allMay (revSpecs (lth l i))) w' (HL.out.imp fun _ _ _ h => h.below hb) hn ⟨eg, fun i hi w'' v hb2 hv => many21r_any B b9 v (lth l i) w'' (Nat.le_trans hBw (bnext hb hb2).size) hb9 (HT.out.below (bnext hb hb2)) ((H4.out.below hb).below hb2) hv (hbd i hi)⟩)
  by_cases hm : len l ≤ most
  · have i1 : decide (len l ≤ most) = true := decide_eq_true hm
    have i2 : (len l : Int) ≤ most := by omega
    have HM := Lib.hid i1
    clear i1 hm
    go_enter Tryz.func228, Tryz.ntmps228
    go_wp2_with fail
    go_still_tail 11, (by kernel_rfl)
    go_wp2_with fail
    refine (HCF.out _ (bdrew (Below.refl _ _))).mono ?_
    rintro e w1 ⟨q, rfl, hq, hb⟩
    have HB : Hid (Below w.heap.size w w1) := Lib.hid (bnext (bdrew (Below.refl _ _)) hb)
    have HE : Hid ((!q) = mayR l most) := Lib.hid (by
      unfold mayR
      rw [HM.out, Bool.true_and]
      have h := mayR_no l
      cases q with
      | true => rw [h.2 (hq.1 rfl)]; rfl
      | false =>
        cases hm : (l.all fun r => allMay (revSpecs r)) with
        | true => rfl
        | false => exact absurd (hq.2 (h.1 hm)) (by decide))
    clear hb hq c1 c2 c3
    go_wp2
    go_ret
    exact ⟨ret_bool HE.out, HB.out⟩
  · have i1 : decide (len l ≤ most) = false := decide_eq_false hm
    have HM := Lib.hid i1
    have i2 : ¬ (len l : Int) ≤ most := by omega
    go_enter Tryz.func228, Tryz.ntmps228
    go_wp2_with fail
    go_quiet (fail)
    go_wp2
    go_ret
    exact ⟨ret_bool (by unfold mayR; rw [HM.out]; rfl), by (repeat (first | exact Below.refl _ _ | assumption | (refine bdrew ?_) | (refine bdrewN ?_ _) | (refine balloc ?_ _) | (refine bset ?_ (by first | omega | (simp; done) | (simp; omega)) _) | (refine bnext ?_ (by assumption))))⟩
def rvsP (l : List RevD) : ByteArray := listP (len l) ++ catB (l.map revB)
set_option maxRecDepth 100000 in
set_option maxHeartbeats 4000000 in
theorem many3r_any (B b base b7 b10 pb po c : Nat) (a : Option Addr) (l : List RevD) (s : ByteArray) (W0 w : World) (h1 : CellAt B W0 b7 0 (.pointer (some ⟨pb, po, none⟩))) (h2 : CellAt B W0 pb po (.slice a (len l) c)) (h3 : CellAt B W0 b10 0 (.func (.func 156) #[] #[]))
    (hl : RvsC (CellAt B W0) a l) (hbd : ∀ i, i < len l → RvBd (lth l i)) (hn : len l ≤ 60000) (h32 : ∀ i, i < len l → allMay (revSpecs (lth l i)) = true) (hk : Keep8 B W0 w) (hb0 : Off8 W0 b)
    (ht : PTab B w) (hB : B ≤ base) (hW : WrB w b base s) (hs : s.size + (rvsP l).size ≤ 60000000000000) :
    Calls Tryz.prog 230 #[.pointer (some ⟨b, 0, none⟩), .pointer (some ⟨b7, 0, none⟩), .pointer (some ⟨b10, 0, none⟩)] w fun e w' => e = .returned (.tuple #[]) ∧ WrB w' b base (s ++ rvsP l) ∧ WK base b w w' := by
  have H1 := Lib.hid h1
  have H2 := Lib.hid h2
  have H3 := Lib.hid h3
  have HL := Lib.hid hl
  have H32 := Lib.hid h32
  have HK := Lib.hid hk
  have HT := Lib.hid ht
  have HWR := Lib.hid hW
  have HBS : Hid (base ≤ w.heap.size) := Lib.hid (by have := hW.1; have := hW.lt; omega)
  have HS : Hid (s.size + (listP (len l)).size + (catB (l.map revB)).size ≤ 60000000000000) := Lib.hid (by unfold rvsP at hs; rw [ByteArray.size_append] at hs; omega)
  have hs0 : s.size ≤ 60000000000000 := by omega
  have c1 := (h1.keep hk).cell
  have c2 := (h2.keep hk).cell
  have eg := enters_of Tryz.func156 (by kernel_rfl) rfl
  clear h1 h2 h3 hl h32 hk ht hW hs
  go_enter Tryz.func230, Tryz.ntmps230
  go_wp2_with fail
  refine (List_w B b base (len l) s w HT.out hB HWR.out (by omega) (by omega)).mono ?_
  rintro e w3 ⟨rfl, hw3, hk3⟩
  have HW3 : Hid (WrB w3 b base (s ++ listP (len l) ++ catB ((l.map revB).take 0))) := Lib.hid (by
    have e : s ++ listP (len l) ++ catB ((l.map revB).take 0) = s ++ listP (len l) := ba_ext (by simp [catB])
    rw [e]; exact hw3)
  have HK3 : Hid (WK base b w w3) := Lib.hid hk3
  have hk8 := HK.out.wk hk3 hb0 hB
  have d1 := (H1.out.keep hk8).cell
  have d2 := (H2.out.keep hk8).cell
  clear hw3 hk3 hk8 c1 c2
  go_wp2
  clear d1 d2
  go_loopg [15] (len l) (fun gg i wr => ∃ m : Nat, gg + m = len l ∧ i = .int .i64 m ∧ Hid (WrB wr b base (s ++ listP (len l) ++ catB ((l.map revB).take m))) ∧ Hid (WK base b w wr))
  case atStart => exact ⟨0, rfl, rfl, HW3.out, HK3.out⟩
  case round =>
    clear HW3 HK3
    obtain ⟨m, hm2, rfl, HWW, HWK⟩ := hrel
    by_cases hlt : m < len l
    · have i1 : (m : Int) < len l := by omega
      have hml : m < l.length := hlt
      have hk8 := HK.out.wk HWK.out hb0 hB
      have HK8 := Lib.hid hk8
      have d1 := (H1.out.keep hk8).cell
      have d2 := (H2.out.keep hk8).cell
      have d3 := (H3.out.keep hk8).cell
      have hBD := hbd m hlt
      have hbb : base ≤ b := HWR.out.1
      obtain ⟨gb, go, rfl, hcell⟩ := (HL.out.imp (D := CellOff B b wr) fun _ _ _ h => ⟨h.keep hk8, CellOff.of h hb0 (Nat.le_trans hB hbb)⟩) m hlt
      have HCL := Lib.hid hcell
      have hsn : (l.map revB).take (m + 1) = (l.map revB).take m ++ [revB (lth l m)] := by
        rw [List.take_succ_eq_append_getElem (by simpa using hml), List.getElem_map, lth_eq l m hml]
      have hct := catB_take (L := l.map revB) (t := m) (by simpa using hml)
      have hfm : (l.map revB)[m]'(by simpa using hml) = revB (lth l m) := by rw [List.getElem_map, lth_eq l m hml]
      rw [hfm] at hct
      have h32m := H32.out m hlt
      obtain ⟨x, hx⟩ : ∃ x, lth l m = x := ⟨_, rfl⟩
      rw [hx] at hsn hct h32m HCL hBD
      obtain ⟨s1, hs1⟩ : ∃ s1, s ++ listP (len l) ++ catB ((l.map revB).take m) = s1 := ⟨_, rfl⟩
      rw [hs1] at HWW
      have hs1s : s1.size + (revB x).size ≤ 60000000000000 := by
        rw [← hs1, ByteArray.size_append, ByteArray.size_append]
        have := HS.out
        omega
      have HSN : Hid (s ++ listP (len l) ++ catB ((l.map revB).take (m + 1)) = s1 ++ revB x) := Lib.hid (by
        rw [hsn, catB_snoc, ← hs1]; simp only [ByteArray.append_assoc])
      have HTR : Hid (PTab B wr) := Lib.hid (HT.out.keep HWK.out.bel hB)
      have hbr : base ≤ wr.heap.size := by have := HWK.out.bel.size; have := HBS.out; omega
      have HBR := Lib.hid hbr
      clear hk8 hcell hsn hct hfm hx hs1 hbr
      go_upto_region 4 with fail
      go_still_tail 7, (by kernel_rfl)
      go_wp2_with fail
      refine (oc5_any B b base gb (go + m * 11) x s1 _ (Nat.le_trans HTR.out.size (bdrew (Below.refl _ _)).size) (HCL.out.imp fun _ _ _ h => h.below (bdrew (Below.refl _ _))) hBD h32m (HTR.out.keep (bdrew (Below.refl _ _)) HTR.out.size) hB (HWW.out.below (bdrew (Below.refl _ _))) hs1s).mono ?_
      rintro e w5 ⟨rfl, hw5, hk5⟩
      have HW5 : Hid (WrB w5 b base (s ++ listP (len l) ++ catB ((l.map revB).take (m + 1)))) := Lib.hid (by rw [HSN.out]; exact hw5)
      have HK5 : Hid (WK base b w w5) := Lib.hid ((HWK.out.trans (WK.of_below (bdrew (Below.refl _ _)) HBR.out)).trans hk5)
      clear hw5 hk5 HWW HWK d1 d2 d3 HCL
      go_wp2
      go_roundg (len l - (m + 1))
      case rel => exact ⟨m + 1, by omega, by go_num, HW5.out, HK5.out⟩
      case measure => omega
    · obtain rfl : m = len l := by omega
      have i1 : ¬ ((len l : Nat) : Int) < len l := by omega
      go_wp2
      go_end0
      refine ⟨rfl, ?_, HWK.out⟩
      have h := HWW.out
      rw [List.take_of_length_le (by rw [List.length_map]; exact Nat.le_refl _), ByteArray.append_assoc] at h
      exact h
theorem frevs_any (B : Nat) (key : ByteArray) (pb po c most : Nat) (a : Option Addr) (l : List RevD) (w : World) (hk : key.size < 65536) (hBw : B ≤ w.heap.size) (hc : CellAt B w pb po (.slice a (len l) c)) (hl : RvsC (CellAt B w) a l) (hn : len l ≤ 100000) (hbd : ∀ i, i < len l → RvBd (lth l i)) (hm : most ≤ 60000) :
    Calls Tryz.prog 153 #[.string key, .pointer (some ⟨pb, po, none⟩), .int .i64 most, .func (.func 154) #[] #[], .func (.func 156) #[] #[], .func (.func 157) #[] #[]] w fun e w' => ∃ v : FVal, e = .returned v.val ∧ FSem B w' v ⟨key, false, decide (len l = 0), mayR l most, rvsP l⟩ ∧ Below w.heap.size w w' := by
  refine (smanyr_any key pb po most w).mono ?_
  rintro e V ⟨v, rfl, ⟨bx, hlo, hM, rfl⟩, hb⟩
  have C0 : CellAt B V bx 0 (.pointer (some ⟨pb, po, none⟩)) := cellAt_new hM.b0 (by decide) rfl
  have C1 : CellAt B V (bx + 1) 0 (.int .i64 most) := cellAt_new hM.b1 (by decide) rfl
  have C2 : CellAt B V (bx + 1 + 1) 0 (.func (.func 154) #[] #[]) := cellAt_new hM.b2 (by decide) rfl
  have C3 : CellAt B V (bx + 1 + 1 + 1) 0 (.func (.func 156) #[] #[]) := cellAt_new hM.b3 (by decide) rfl
  have CP : CellAt B V pb po (.slice a (len l) c) := hc.below hb
  have SL : RvsC (CellAt B V) a l := hl.imp fun _ _ _ h => h.below hb
  have HN : NoRow (bx + 1 + 1) V := ⟨_, _, _, hM.b2, by decide⟩
  refine ⟨_, rfl, ?_, hb⟩
  refine ⟨rfl, rfl, hk, enters_of Tryz.func227 (by kernel_rfl) rfl, enters_of Tryz.func228 (by kernel_rfl) rfl, enters_of Tryz.func230 (by kernel_rfl) rfl, fun w' hw => many1r_any B bx pb po (len l) c a w' (C0.keep hw) (CP.keep hw), fun w' hw => ?_, fun hm1 he w' b base s hw hb ht hB hW hs => many3r_any B b base bx (bx + 1 + 1 + 1) pb po c a l s V w' C0 CP C3 SL hbd (by have := (mayR_at hm1).1; omega) (mayR_at hm1).2 hw hb ht hB hW hs⟩
  exact many2r_any B bx (bx + 1) (bx + 1 + 1) pb po c most a l w' (C0.keep hw) (CP.keep hw) (C1.keep hw) (C2.keep hw) (by have := hw.s0; have := hw.s1; omega) (by omega) ⟨_, _, _, hw.keep _ _ hM.b2 (not8_cells (by decide)), by decide⟩ (hl.imp fun b o x h => ⟨(h.below hb).keep hw, by have := h.lt; omega⟩) hbd hn
end Go.Proofs.YtihiaopilnjonaaGreatDoor
namespace Go.Proofs.YtihiaopilnjonaaGreatDoor
open Go.RowKit
set_option linter.unusedSimpArgs false
set_option linter.unusedVariables false
abbrev BPs := List (ByteArray × ByteArray)
def catK (ps : BPs) : ByteArray := catB ((rkept ps).map fun p => strP p.1 ++ p.2)
def LyB (w : World) (b : Nat) (ps : BPs) : Prop := w.heap[b]? = some (.cells #[.int .u64 ((rkept ps).length : Nat), .string (catK ps)] 141 (0, 0))
theorem LyB.below {w w' : World} {b : Nat} {ps : BPs} (h : LyB w b ps) (hb : Below w.heap.size w w') : LyB w' b ps := by
  unfold LyB; rw [hb.block b (lt_of_block h)]; exact h
end Go.Proofs.YtihiaopilnjonaaGreatDoor
namespace Go.Proofs.YtihiaopilnjonaaGreatDoor
open Go.RowKit
set_option linter.unusedSimpArgs false
set_option linter.unusedVariables false
theorem laidP_len (sort : Nat) (n : Int) (t : ByteArray) : (laidP sort n t).size ≤ 9 + t.size := by
  unfold laidP
  have := headP_len sort n
  rw [ByteArray.size_append, baL_size]
  split
  · omega
  · show _ + 0 ≤ _; omega
end Go.Proofs.YtihiaopilnjonaaGreatDoor
namespace Go.Proofs.YtihiaopilnjonaaGreatDoor
open Go.RowKit
set_option linter.unusedSimpArgs false
set_option linter.unusedVariables false
theorem binP_len (s : ByteArray) : (binP s).size ≤ 9 + s.size := laidP_len 1 _ _
end Go.Proofs.YtihiaopilnjonaaGreatDoor
namespace Go.Proofs.YtihiaopilnjonaaGreatDoor
open Go.RowKit
set_option linter.unusedSimpArgs false
set_option linter.unusedVariables false
theorem fin_sems6 {B : Nat} {w : World} {x0 x1 x2 x3 x4 x5 : FVal} {S0 S1 S2 S3 S4 S5 : FSpec} (p0 : FIn B w x0 S0) (p1 : FIn B w x1 S1) (p2 : FIn B w x2 S2) (p3 : FIn B w x3 S3) (p4 : FIn B w x4 S4) (p5 : FIn B w x5 S5) : FSems B w [x0, x1, x2, x3, x4, x5] [S0, S1, S2, S3, S4, S5] :=
  ⟨rfl, fun i hi => by
    have hi : i < 6 := by simpa [len] using hi
    match i, hi with
    | 0, _ => exact p0.2
    | 1, _ => exact p1.2
    | 2, _ => exact p2.2
    | 3, _ => exact p3.2
    | 4, _ => exact p4.2
    | 5, _ => exact p5.2⟩
structure CtBd (root : ByteArray) (sg : Int) (rs : List RevD) (cs : List Int) (sp pp : List ByteArray) : Prop where
  root : root.size ≤ 9223372036854775807
  sg : U64i sg
  rl : len rs ≤ 100000
  rs : ∀ i, i < len rs → RvBd (lth rs i)
  cl : len cs ≤ 100000
  cs : ∀ i, i < len cs → U64i (nth cs i)
  sp : len sp ≤ 100000
  pp : len pp ≤ 100000
set_option maxRecDepth 100000 in
theorem ofcert_any (B sb so : Nat) (root : ByteArray) (sg : Int) (rs : List RevD) (cs : List Int) (sp pp : List ByteArray) (a2 a3 a4 a5 : Option Addr) (k2 k3 k4 k5 : Nat) (w : World) (hB : B ≤ w.heap.size)
    (c0 : CellAt B w sb so (.string root)) (c1 : CellAt B w sb (so + 1) (.int .u64 sg)) (c2 : CellAt B w sb (so + 2) (.slice a2 (len rs) k2)) (c3 : CellAt B w sb (so + 3) (.slice a3 (len cs) k3)) (c4 : CellAt B w sb (so + 4) (.slice a4 (len sp) k4)) (c5 : CellAt B w sb (so + 5) (.slice a5 (len pp) k5))
    (s2 : RvsC (CellAt B w) a2 rs) (s3 : Nms B w a3 cs) (s4 : Strs B w a4 sp) (s5 : Strs B w a5 pp) (bd : CtBd root sg rs cs sp pp) :
    Calls Tryz.prog 93 #[.pointer (some ⟨sb, so, none⟩)] w (RowOf B (certSpecs root sg rs cs sp pp) w) := by
  refine (gofCert_any sb so w (fun w v => FIn B w v ⟨⟨#[80]⟩, false, decide (len pp = 0), mayB pp 10240, dgsP pp⟩) (fun w v => FIn B w v ⟨⟨#[83]⟩, false, decide (len sp = 0), mayB sp 10240, dgsP sp⟩) (fun w v => FIn B w v ⟨⟨#[99]⟩, true, false, decide (root.size = 32), binP root⟩) (fun w v => FIn B w v ⟨⟨#[112]⟩, false, decide (len cs = 0), decide (len cs ≤ 640), nmsP cs⟩) (fun w v => FIn B w v ⟨⟨#[114]⟩, false, decide (len rs = 0), mayR rs 640, rvsP rs⟩) (fun w v => FIn B w v ⟨⟨#[119]⟩, false, sg == 0, true, numP sg⟩)
    (fun w' hb => ?p0) (fin_lasts B _) (fun w' hb => ?p1) (fin_lasts B _) (fun w' hb => ?p2) (fin_lasts B _) (fun w' hb => ?p3) (fin_lasts B _) (fun w' hb => ?p4) (fin_lasts B _) (fun w' hb => ?p5) (fin_lasts B _)).mono ?_
  case p0 => exact (fdigests_any B ⟨#[80]⟩ sb (so + 5) k5 10240 a5 pp w' (by decide) (Nat.le_trans hB hb.size) (c5.below hb) (s5.below hb) bd.pp (by decide)).mono (fun e w'' hh => madeF (Nat.le_trans hB hb.size) hh)
  case p1 => exact (fdigests_any B ⟨#[83]⟩ sb (so + 4) k4 10240 a4 sp w' (by decide) (Nat.le_trans hB hb.size) (c4.below hb) (s4.below hb) bd.sp (by decide)).mono (fun e w'' hh => madeF (Nat.le_trans hB hb.size) hh)
  case p2 => exact (fdigest_any B ⟨#[99]⟩ sb so root w' (by decide) (Nat.le_trans hB hb.size) (c0.below hb) bd.root).mono (fun e w'' hh => madeF (Nat.le_trans hB hb.size) hh)
  case p3 => exact (fnums_any B ⟨#[112]⟩ sb (so + 3) k3 640 a3 cs w' (by decide) (Nat.le_trans hB hb.size) (c3.below hb) (s3.below hb) bd.cl bd.cs (by decide)).mono (fun e w'' hh => madeF (Nat.le_trans hB hb.size) hh)
  case p4 => exact (frevs_any B ⟨#[114]⟩ sb (so + 2) k2 640 a2 rs w' (by decide) (Nat.le_trans hB hb.size) (c2.below hb) (s2.imp fun _ _ _ h => h.below hb) bd.rl bd.rs (by decide)).mono (fun e w'' hh => madeF (Nat.le_trans hB hb.size) hh)
  case p5 => exact (fnum_any B ⟨#[119]⟩ sb (so + 1) sg w' (by decide) (Nat.le_trans hB hb.size) (c1.below hb) bd.sg.1 bd.sg.2).mono (fun e w'' hh => madeF (Nat.le_trans hB hb.size) hh)
  rintro e w' ⟨u, rfl, ⟨g, c, l, rfl, hc, hF, ⟨x0, x1, x2, x3, x4, x5, rfl, p0, p1, p2, p3, p4, p5⟩⟩, hb⟩
  exact ⟨g, c, [x0, x1, x2, x3, x4, x5], rfl, hF, fin_sems6 p0 p1 p2 p3 p4 p5, hb⟩
set_option maxRecDepth 100000 in
theorem wcert2_any (B : Nat) (root : ByteArray) (sg : Int) (rs : List RevD) (cs : List Int) (sp pp : List ByteArray) (a2 a3 a4 a5 : Option Addr) (k2 k3 k4 k5 : Nat) (w : World) (ht : PTab B w)
    (s2 : RvsC (CellAt B w) a2 rs) (s3 : Nms B w a3 cs) (s4 : Strs B w a4 sp) (s5 : Strs B w a5 pp) (bd : CtBd root sg rs cs sp pp)
    (hsz : allMay (certSpecs root sg rs cs sp pp) = true → (layP (certSpecs root sg rs cs sp pp)).size ≤ 60000000000000) :
    Calls Tryz.prog 48 #[.agg #[.string root, .int .u64 sg, .slice a2 (len rs) k2, .slice a3 (len cs) k3, .slice a4 (len sp) k4, .slice a5 (len pp) k5]] w (LaidIs (certSpecs root sg rs cs sp pp) w) := by
  have HT := Lib.hid ht
  have HBD := Lib.hid bd
  have S2 := Lib.hid s2
  have S3 := Lib.hid s3
  have S4 := Lib.hid s4
  have S5 := Lib.hid s5
  clear ht bd s2 s3 s4 s5
  obtain ⟨fs, hfs⟩ : ∃ fs, certSpecs root sg rs cs sp pp = fs := ⟨_, rfl⟩
  have HL6 : Hid (len fs = 6) := Lib.hid (by rw [← hfs]; rfl)
  have HO : Hid (∀ (sb : Nat) (V : World), B ≤ V.heap.size → Below w.heap.size w V → V.heap[sb]? = some (.cells #[.string root, .int .u64 sg, .slice a2 (len rs) k2, .slice a3 (len cs) k3, .slice a4 (len sp) k4, .slice a5 (len pp) k5] 28 (0, 0)) → Calls Tryz.prog 93 #[.pointer (some ⟨sb, 0, none⟩)] V (RowOf B fs V)) := Lib.hid (fun sb V hV hb h => by
    rw [← hfs]
    exact ofcert_any B sb 0 root sg rs cs sp pp a2 a3 a4 a5 k2 k3 k4 k5 V hV (cellAt_new h (by decide) rfl) (cellAt_new h (by decide) rfl) (cellAt_new h (by decide) rfl) (cellAt_new h (by decide) rfl) (cellAt_new h (by decide) rfl) (cellAt_new h (by decide) rfl) (S2.out.imp fun _ _ _ h => h.below hb) (S3.out.below hb) (S4.out.below hb) (S5.out.below hb) HBD.out)
  rw [hfs] at hsz ⊢
  clear hfs
  have HSZ := Lib.hid hsz
  clear hsz
  generalize len rs = n2 at HO ⊢
  generalize len cs = n3 at HO ⊢
  generalize len sp = n4 at HO ⊢
  generalize len pp = n5 at HO ⊢
  go_enter Tryz.func48, Tryz.ntmps48
  go_wp2_with fail
  obtain ⟨V, hV⟩ : ∃ V, w.alloc (.cells #[.string root, .int .u64 sg, .slice a2 n2 k2, .slice a3 n3 k3, .slice a4 n4 k4, .slice a5 n5 k5] 28) = V := ⟨_, rfl⟩
  have HB : Hid (Below w.heap.size w V) := Lib.hid (by rw [← hV]; exact balloc (Below.refl _ _) _)
  have hblk : V.heap[w.heap.size]? = some (.cells #[.string root, .int .u64 sg, .slice a2 n2 k2, .slice a3 n3 k3, .slice a4 n4 k4, .slice a5 n5 k5] 28 (0, 0)) := by rw [← hV]; exact heap_alloc_new _ _
  have HBK := Lib.hid hblk
  have HTV := Lib.hid (HT.out.keep HB.out HT.out.size)
  try rw [hV]
  clear hV hblk HT
  refine (HO.out w.heap.size V HTV.out.size HB.out HBK.out).mono ?_
  rintro e w1 ⟨g, c, l, rfl, hF, hS, hb⟩
  have HF := Lib.hid hF
  have HS := Lib.hid hS
  have HB1 : Hid (Below w.heap.size w w1) := Lib.hid (bnext HB.out hb)
  have HT1 := Lib.hid (HTV.out.keep hb HTV.out.size)
  have HL : Hid (len l = 6) := Lib.hid (hS.1.symm.trans HL6.out)
  clear hF hS hb HTV HO
  go_wp2_with fail
  refine (wlaid2_any B g 0 c w1 l fs w1 HF.out.flds (by rw [HL.out]; decide) (by rw [HL.out]; decide) HS.out (Keep8.refl HT1.out.size) HT1.out HSZ.out).mono ?_
  rintro e w2 ⟨rfl, hb2⟩
  have HB2 : Hid (Below w.heap.size w w2) := Lib.hid (bnext HB1.out hb2)
  clear hb2
  cases hm : allMay fs with
  | true =>
    have HM := Lib.hid hm
    clear hm
    rw [if_pos rfl]
    go_wp2
    go_ret2
    exact ⟨by rw [HM.out]; rfl, HB2.out⟩
  | false =>
    have HM := Lib.hid hm
    clear hm
    rw [if_neg (by decide)]
    go_wp2
    go_ret2
    exact ⟨by rw [HM.out]; rfl, HB2.out⟩
theorem catB_size_le {α : Type} (f : α → ByteArray) (M : Nat) : ∀ l : List α, (∀ x ∈ l, (f x).size ≤ M) → (catB (l.map f)).size ≤ l.length * M
  | [], _ => by simp [catB]
  | x :: r, h => by
    rw [List.map_cons, catB, ByteArray.size_append, List.length_cons, Nat.succ_mul]
    have h1 := h x (List.mem_cons_self ..)
    have h2 := catB_size_le f M r (fun y hy => h y (List.mem_cons_of_mem _ hy))
    omega
theorem layP_size (fs : List FSpec) (M : Nat) (h : ∀ f ∈ fs, f.key.size ≤ 1 ∧ f.bytes.size ≤ M) : (layP fs).size ≤ 9 + fs.length * (M + 10) := by
  unfold layP
  rw [ByteArray.size_append]
  have h1 : (mapP (keptF fs).length).size ≤ 9 := laidP_len 4 _ ByteArray.empty
  have h2 := catB_size_le fieldP (M + 10) (keptF fs) (fun f hf => by
    obtain ⟨h3, h4⟩ := h f (List.mem_filter.1 hf).1
    unfold fieldP
    rw [ByteArray.size_append]
    have h5 : (strP f.key).size ≤ 9 + f.key.size := laidP_len 2 _ _
    omega)
  have h3 := Nat.mul_le_mul_right (M + 10) (kept_le fs)
  omega
theorem dgsP_size {l : List ByteArray} {n : Nat} (h : mayB l n = true) : (dgsP l).size ≤ 9 + n * 41 := by
  obtain ⟨h1, h2⟩ := (mayB_iff l n).1 h
  unfold dgsP
  rw [ByteArray.size_append]
  have h3 : (listP (len l)).size ≤ 9 := laidP_len 3 _ ByteArray.empty
  have h4 := catB_size_le binP 41 l (fun x hx => by have := binP_len x; rw [h2 x hx] at this; exact this)
  have h5 := Nat.mul_le_mul_right 41 h1
  rw [len_eq] at h5
  omega
theorem numP_size (n : Int) : (numP n).size ≤ 9 := laidP_len 0 _ ByteArray.empty
theorem may_all {fs : List FSpec} (h : allMay fs = true) : ∀ f ∈ fs, f.may = true := List.all_eq_true.1 h
theorem partSz {root : ByteArray} {weight first life keys : Int} (h : allMay (partSpecs root weight first life keys) = true) : (layP (partSpecs root weight first life keys)).size ≤ 300 := by
  have hr : root.size = 32 := of_decide_eq_true (may_all h ⟨⟨#[114]⟩, true, false, decide (root.size = 32), binP root⟩ (by unfold partSpecs; simp))
  have hb := binP_len root
  refine Nat.le_trans (layP_size _ 41 fun f hf => ?_) (show 9 + 5 * 51 ≤ 300 by decide)
  unfold partSpecs at hf
  simp only [List.mem_cons, List.not_mem_nil, or_false] at hf
  rcases hf with rfl | rfl | rfl | rfl | rfl
  · exact ⟨Nat.le_refl _, Nat.le_trans (numP_size _) (by decide)⟩
  · exact ⟨Nat.le_refl _, Nat.le_trans (numP_size _) (by decide)⟩
  · exact ⟨Nat.le_refl _, Nat.le_trans (numP_size _) (by decide)⟩
  · exact ⟨Nat.le_refl _, by show (binP root).size ≤ 41; omega⟩
  · exact ⟨Nat.le_refl _, Nat.le_trans (numP_size _) (by decide)⟩
theorem sigSz {idx : Int} {ws ps : List ByteArray} (h : allMay (sigSpecs idx ws ps) = true) : (layP (sigSpecs idx ws ps)).size ≤ 9000 := by
  have h1 := may_all h ⟨⟨#[112]⟩, false, decide (len ps = 0), mayB ps 16, dgsP ps⟩ (by unfold sigSpecs; simp)
  have h2 := may_all h ⟨⟨#[118]⟩, false, decide (len ws = 0), mayB ws 67, dgsP ws⟩ (by unfold sigSpecs; simp)
  refine Nat.le_trans (layP_size _ 2756 fun f hf => ?_) (show 9 + 3 * 2766 ≤ 9000 by decide)
  unfold sigSpecs at hf
  simp only [List.mem_cons, List.not_mem_nil, or_false] at hf
  rcases hf with rfl | rfl | rfl
  · exact ⟨Nat.le_refl _, Nat.le_trans (numP_size _) (by decide)⟩
  · exact ⟨Nat.le_refl _, Nat.le_trans (dgsP_size h1) (by decide)⟩
  · exact ⟨Nat.le_refl _, Nat.le_trans (dgsP_size h2) (by decide)⟩
theorem slotSz {L : Int} {q : Bool} {idx : Int} {ws ps : List ByteArray} (h : allMay (slotSpecs L q idx ws ps) = true) : (layP (slotSpecs L q idx ws ps)).size ≤ 28000 := by
  have h1 : allMay (sigSpecs idx ws ps) = true := may_all h (objSpec ⟨#[103]⟩ (sigSpecs idx ws ps)) (by unfold slotSpecs; simp)
  refine Nat.le_trans (layP_size _ 9000 fun f hf => ?_) (show 9 + 3 * 9010 ≤ 28000 by decide)
  unfold slotSpecs at hf
  simp only [List.mem_cons, List.not_mem_nil, or_false] at hf
  rcases hf with rfl | rfl | rfl
  · exact ⟨Nat.le_refl _, sigSz h1⟩
  · exact ⟨Nat.le_refl _, Nat.le_trans (numP_size _) (by decide)⟩
  · exact ⟨Nat.le_refl _, Nat.le_trans (numP_size _) (by decide)⟩
theorem revSz {d : RevD} (h : allMay (revSpecs d) = true) : (revB d).size ≤ 90000 := by
  have h1 : allMay (partSpecs d.root d.wt d.first d.life d.keys) = true := may_all h (objSpec ⟨#[113]⟩ (partSpecs d.root d.wt d.first d.life d.keys)) (by unfold revSpecs; simp)
  have h2 : allMay (slotSpecs d.L d.signed d.idx d.ws d.ps) = true := may_all h (objSpec ⟨#[115]⟩ (slotSpecs d.L d.signed d.idx d.ws d.ps)) (by unfold revSpecs; simp)
  refine Nat.le_trans (layP_size _ 28000 fun f hf => ?_) (show 9 + 3 * 28010 ≤ 90000 by decide)
  unfold revSpecs at hf
  simp only [List.mem_cons, List.not_mem_nil, or_false] at hf
  rcases hf with rfl | rfl | rfl
  · exact ⟨Nat.le_refl _, Nat.le_trans (numP_size _) (by decide)⟩
  · exact ⟨Nat.le_refl _, Nat.le_trans (partSz h1) (by decide)⟩
  · exact ⟨Nat.le_refl _, slotSz h2⟩
theorem certSz {root : ByteArray} {sg : Int} {rs : List RevD} {cs : List Int} {sp pp : List ByteArray} (h : allMay (certSpecs root sg rs cs sp pp) = true) : (layP (certSpecs root sg rs cs sp pp)).size ≤ 400000000 := by
  have h1 := may_all h ⟨⟨#[80]⟩, false, decide (len pp = 0), mayB pp 10240, dgsP pp⟩ (by unfold certSpecs; simp)
  have h2 := may_all h ⟨⟨#[83]⟩, false, decide (len sp = 0), mayB sp 10240, dgsP sp⟩ (by unfold certSpecs; simp)
  have hr : root.size = 32 := of_decide_eq_true (may_all h ⟨⟨#[99]⟩, true, false, decide (root.size = 32), binP root⟩ (by unfold certSpecs; simp))
  have h3 : len cs ≤ 640 := of_decide_eq_true (may_all h ⟨⟨#[112]⟩, false, decide (len cs = 0), decide (len cs ≤ 640), listP (len cs) ++ catB (cs.map numP)⟩ (by unfold certSpecs; simp))
  have h4 := (mayR_iff rs 640).1 (may_all h ⟨⟨#[114]⟩, false, decide (len rs = 0), mayR rs 640, listP (len rs) ++ catB (rs.map revB)⟩ (by unfold certSpecs; simp))
  have hb := binP_len root
  refine Nat.le_trans (layP_size _ 57600009 fun f hf => ?_) (show 9 + 6 * 57600019 ≤ 400000000 by decide)
  unfold certSpecs at hf
  simp only [List.mem_cons, List.not_mem_nil, or_false] at hf
  rcases hf with rfl | rfl | rfl | rfl | rfl | rfl
  · exact ⟨Nat.le_refl _, Nat.le_trans (dgsP_size h1) (by decide)⟩
  · exact ⟨Nat.le_refl _, Nat.le_trans (dgsP_size h2) (by decide)⟩
  · exact ⟨Nat.le_refl _, by show (binP root).size ≤ 57600009; omega⟩
  · refine ⟨Nat.le_refl _, ?_⟩
    show (listP (len cs) ++ catB (cs.map numP)).size ≤ 57600009
    rw [ByteArray.size_append]
    have q1 : (listP (len cs)).size ≤ 9 := laidP_len 3 _ ByteArray.empty
    have q2 := catB_size_le numP 9 cs (fun x _ => numP_size x)
    rw [len_eq] at h3
    omega
  · refine ⟨Nat.le_refl _, ?_⟩
    show (listP (len rs) ++ catB (rs.map revB)).size ≤ 57600009
    rw [ByteArray.size_append]
    have q1 : (listP (len rs)).size ≤ 9 := laidP_len 3 _ ByteArray.empty
    have q2 := catB_size_le revB 90000 rs (fun x hx => revSz (h4.2 x hx))
    have q3 := h4.1
    rw [len_eq] at q3
    omega
  · exact ⟨Nat.le_refl _, Nat.le_trans (numP_size _) (by decide)⟩
end Go.Proofs.YtihiaopilnjonaaGreatDoor
namespace Go.Proofs.YtihiaopilnjonaaGreatDoor
open Go.RowKit
set_option linter.unusedSimpArgs false
set_option linter.unusedVariables false
theorem extS_cell {VO : Nat → Option Nat} {w w1 : World} (h : ExtS VO w.drew w1) {b o : Nat} (hn : ∀ j, VO j ≠ some b) {v : Value} (hc : w.cell? ⟨b, o, none⟩ = some v) : w1.cell? ⟨b, o, none⟩ = some v := by
  rw [World.cell?_of_block (w := w) (h.block b (lt_of_cell hc) hn)]; exact hc
theorem told_none (w : World) : Calls Tryz.prog 31 #[.nilIface, .agg #[.int .i64 0, .int .i64 0]] w fun e w' => e = .returned (.bool true) ∧ Below w.heap.size w w' := by
  go_enter Tryz.func31, Tryz.ntmps31
  go_wp2
  go_ret
  exact ⟨rfl, by (repeat (first | exact Below.refl _ _ | assumption | (refine bdrew ?_) | (refine bdrewN ?_ _) | (refine balloc ?_ _) | (refine bset ?_ (by first | omega | (simp; done) | (simp; omega)) _) | (refine bnext ?_ (by assumption))))⟩
set_option maxRecDepth 100000 in
set_option maxHeartbeats 4000000 in
theorem told_fault (fb : Nat) (k : Int) (a : Nat) (w : World) (het : ErrType w) (h : FltB w fb k a) (hk : k ≠ 0) (hg : 0 < w.heap.size) : Calls Tryz.prog 31 #[.iface 127 (.pointer (some ⟨fb, 0, none⟩)), .agg #[.int .i64 k, .int .i64 a]] w fun e w' => e = .returned (.bool true) ∧ Below w.heap.size w w' := by
  have H := Lib.hid h
  have HET0 := Lib.hid het
  have hk1 : (k == 0) = false := by simpa using hk
  have hfl := lt_of_block h
  clear h het hk
  go_enter Tryz.func31, Tryz.ntmps31
  go_upto_region 4 with fail
  obtain ⟨b3, hb3⟩ : ∃ b3, w.heap.size = b3 := ⟨_, rfl⟩
  obtain ⟨W, hW⟩ : ∃ W, (w.alloc (.cells #[.int .i64 k, .int .i64 a] 63)).alloc (.cells #[.pointer none] 127) = W := ⟨_, rfl⟩
  have WB : Hid (Below w.heap.size w W) := Lib.hid (by rw [← hW]; exact balloc (balloc (Below.refl _ _) _) _)
  have W3 : Hid (W.heap[b3]? = some (.cells #[.int .i64 k, .int .i64 a] 63 (0, 0))) := Lib.hid (by rw [← hW, ← hb3]; exact block_alloc (heap_alloc_new _ _) _)
  obtain ⟨gb, hgb⟩ : ∃ gb, b3 + 1 = gb := ⟨_, rfl⟩
  have WG : Hid (W.heap[gb]? = some (.cells #[.pointer none] 127 (0, 0))) := Lib.hid (by rw [← hW, ← hgb]; exact alloc_new_at _ (by simp [hb3]))
  try rw [hW]
  try simp only [hb3, hgb]
  have hyg : fb ≠ gb := by omega
  have hzg : b3 ≠ gb := by omega
  have hgg : 0 ≠ gb := by omega
  have HET : Hid (ErrType W) := Lib.hid (HET0.out.below WB.out)
  have y0 : W.cell? ⟨fb, 0, none⟩ = some (.int .i64 k) := block_cell (H.out.below WB.out) 0
  have y1 : W.cell? ⟨fb, 1, none⟩ = some (.int .i64 a) := block_cell (H.out.below WB.out) 1
  have z0 : W.cell? ⟨b3, 0, none⟩ = some (.int .i64 k) := block_cell W3.out 0
  have z1 : W.cell? ⟨b3, 1, none⟩ = some (.int .i64 a) := block_cell W3.out 1
  have HGB : Hid (w.heap.size ≤ gb) := Lib.hid (by omega)
  clear hW hb3 hgb
  obtain ⟨VO, hVO⟩ : ∃ VO : Nat → Option Nat, VO = fun j => if j = 2 then some (gb) else none := ⟨_, rfl⟩
  have vok : VO 2 = some (gb) := by rw [hVO]; rfl
  have von : ∀ j, j ≠ 2 → VO j = none := fun j h1 => by rw [hVO]; simp [h1]
  have vob : ∀ j b, b ≠ gb → VO j ≠ some b := fun j b hb => by
    by_cases h : j = 2
    · subst h; rw [vok]; simp; exact fun e => hb e.symm
    · rw [von j h]; simp
  clear hVO
  have xrefl : ∀ j w, (fun (_ : Nat) (w1 w2 : World) => w1.heap[gb]? = some (.cells #[.pointer (some ⟨fb, 0, none⟩)] 127 (0, 0)) → w2.heap[gb]? = some (.cells #[.pointer (some ⟨fb, 0, none⟩)] 127 (0, 0))) j w w := fun j w h => h
  have voi : ∀ i j b, VO i = some b → VO j = some b → i = j := fun i j b h1 h2 => by
    by_cases e1 : i = 2
    · by_cases e2 : j = 2
      · rw [e1, e2]
      · rw [von j e2] at h2; cases h2
    · rw [von i e1] at h1; cases h1
  refine wp_region_tailV 17 VO voi (fun (_ : Nat) (w1 w2 : World) => w1.heap[gb]? = some (.cells #[.pointer (some ⟨fb, 0, none⟩)] 127 (0, 0)) → w2.heap[gb]? = some (.cells #[.pointer (some ⟨fb, 0, none⟩)] 127 (0, 0))) (fun _ => True) (fun _ _ _ _ _ => True) xrefl trivial (phis [fun u _ => u = (.iface 127 (.pointer (some ⟨fb, 0, none⟩))), fun u _ => u = (.iface 129 (.pointer (some ⟨gb, 0, none⟩))), fun u w' => u = .bool true ∧ w'.heap[gb]? = some (.cells #[.pointer (some ⟨fb, 0, none⟩)] 127 (0, 0)), fun u w' => u = .bool true ∧ w'.heap[gb]? = some (.cells #[.pointer (some ⟨fb, 0, none⟩)] 127 (0, 0)), fun u _ => u = (.pointer (some ⟨fb, 0, none⟩)), fun u _ => u = (.pointer (some ⟨fb, 0, none⟩)), fun u _ => u = (.agg #[.int .i64 k, .int .i64 a]), fun u _ => u = (.agg #[.int .i64 k, .int .i64 a]), fun u _ => u = (.bool true), fun u _ => u = (.bool true), fun u _ => u = (.bool true), fun u _ => u = (.iface 127 (.pointer (some ⟨fb, 0, none⟩))), fun u _ => u = (.pointer (some ⟨b3, 0, none⟩)), fun u _ => u = (.int .i64 k), fun u _ => u = (.iface 30 (.int .i64 k)), fun u _ => u = (.bool true), fun u _ => u = (.bool true)]) rfl (by kernel_rfl) (by kernel_rfl) (monoV_of ⟨monoV_eq, monoV_eq, ?m2, ?m3, monoV_eq, monoV_eq, monoV_eq, monoV_eq, monoV_eq, monoV_eq, monoV_eq, monoV_eq, monoV_eq, monoV_eq, monoV_eq, monoV_eq, monoV_eq, trivial⟩) (fun _ _ _ _ _ => trivial) (fun _ _ _ _ _ _ _ _ _ _ _ => trivial) (stepsV_of 17 ⟨?s0, ?s1, ?s2, ?s3, ?s4, ?s5, ?s6, ?s7, ?s8, ?s9, ?s10, ?s11, ?s12, ?s13, ?s14, ?s15, ?s16, trivial⟩) ?_
  case m2 =>
    exact fun j hj u w1 w2 he ⟨h1, h2⟩ => ⟨h1, he.2 h2⟩
  case m3 =>
    exact fun j hj u w1 w2 he ⟨h1, h2⟩ => ⟨h1, he.2 h2⟩
  case s0 =>
    refine stepV_val (v := (.iface 127 (.pointer (some ⟨fb, 0, none⟩)))) xrefl (fun _ _ _ _ => ⟨trivial, trivial⟩) (fun D av wv hE hO hD => ?_) (fun _ => rfl)
    have h0 : av.eval (.tmp 0) = (.iface 127 (.pointer (some ⟨fb, 0, none⟩))) := hO.2.2 0 rfl
    have f0 := (ev_form av 0).symm.trans h0
    refine ⟨rfl, ?_⟩
    simp [go_sem, f0]
  case s1 =>
    refine stepV_val (v := (.iface 129 (.pointer (some ⟨gb, 0, none⟩)))) xrefl (fun _ _ _ _ => ⟨trivial, trivial⟩) (fun D av wv hE hO hD => ?_) (fun _ => rfl)
    have h5 : av.eval (.tmp 5) = (.pointer (some ⟨gb, 0, none⟩)) := hO.2.2 5 rfl
    have f5 := (ev_form av 5).symm.trans h5
    refine ⟨rfl, ?_⟩
    simp [go_sem, f5]
  case s2 =>
    refine stepV_wp (fun D av wv hPP hE hO hD => ?_)
    have d20 : av.eval (.tmp 20) = (.iface 127 (.pointer (some ⟨fb, 0, none⟩))) := hD.1 rfl _ rfl
    have f20 := (ev_form av 20).symm.trans d20
    have d21 : av.eval (.tmp 21) = (.iface 129 (.pointer (some ⟨gb, 0, none⟩))) := hD.2.1 rfl _ rfl
    have f21 := (ev_form av 21).symm.trans d21
    refine ⟨rfl, ?_⟩
    have hg0 : wv.heap[gb]? = some (.cells #[.pointer none] 127 (0, 0)) := (hE.own gb vok (lt_of_block WG.out)).trans WG.out
    have het : ErrType wv := extS_cell hE.ext (fun j => vob j _ hgg) HET.out
    refine wp_of_callR (f := 71) (args := #[.iface 127 (.pointer (some ⟨fb, 0, none⟩)), .iface 129 (.pointer (some ⟨gb, 0, none⟩))]) (R := fun u w2 => (u = .bool true ∧ w2.heap[gb]? = some (.cells #[.pointer (some ⟨fb, 0, none⟩)] 127 (0, 0))) ∧ ExtB (some gb) wv w2) (by simp [go_sem, f20, f21]) ((as_fault fb gb none wv het hg0).mono (fun e w2 ⟨h1, h2, h3⟩ => ⟨_, h1, ⟨rfl, h3⟩, h2⟩)) (fun u w2 ⟨h1, h2⟩ => ⟨u, rfl, ⟨by rw [vok]; exact h2, fun _ => h1.2⟩, h1, fun _ _ _ _ _ => ⟨trivial, trivial⟩⟩)
  case s3 =>
    refine stepV_wp (fun D av wv hPP hE hO hD => ?_)
    have d22 : (fun u w' => u = .bool true ∧ w'.heap[gb]? = some (.cells #[.pointer (some ⟨fb, 0, none⟩)] 127 (0, 0))) (av.eval (.tmp 22)) wv := hD.1 rfl _ rfl
    refine ⟨rfl, ?_⟩
    obtain ⟨g1, g2⟩ := d22
    have f22 := (ev_form av 22).symm.trans g1
    exact wp_of_run (v := .bool true) (by simp [go_sem, f22]) ⟨_, rfl, esV_of_ext (Ext_refl _) (xrefl 0 _), ⟨rfl, g2⟩, fun _ _ _ _ _ => ⟨trivial, trivial⟩⟩
  case s4 =>
    refine stepV_val (v := (.pointer (some ⟨fb, 0, none⟩))) xrefl (fun _ _ _ _ => ⟨trivial, trivial⟩) (fun D av wv hE hO hD => ?_) (fun _ => rfl)
    have h5 : av.eval (.tmp 5) = (.pointer (some ⟨gb, 0, none⟩)) := hO.2.2 5 rfl
    have f5 := (ev_form av 5).symm.trans h5
    have d23 : (fun u w' => u = .bool true ∧ w'.heap[gb]? = some (.cells #[.pointer (some ⟨fb, 0, none⟩)] 127 (0, 0))) (av.eval (.tmp 23)) wv := hD.1 rfl _ rfl
    have g23 : av.eval (.tmp 23) = .bool true := d23.1
    have f23 := (ev_form av 23).symm.trans g23
    have y0 := extS_cell hE.ext (fun j => vob j _ hyg) y0
    have y1 := extS_cell hE.ext (fun j => vob j _ hyg) y1
    have z0 := extS_cell hE.ext (fun j => vob j _ hzg) z0
    have z1 := extS_cell hE.ext (fun j => vob j _ hzg) z1
    refine ⟨(wanted_of (d := 23) (b := true) (want := true) rfl rfl rfl g23), ?_⟩
    have q0 : wv.cell? ⟨gb, 0, none⟩ = some (.pointer (some ⟨fb, 0, none⟩)) := block_cell d23.2 0
    simp [go_sem, f5, q0]
  case s5 =>
    refine stepV_val (v := (.pointer (some ⟨fb, 0, none⟩))) xrefl (fun _ _ _ _ => ⟨trivial, trivial⟩) (fun D av wv hE hO hD => ?_) (fun _ => rfl)
    have d24 : av.eval (.tmp 24) = (.pointer (some ⟨fb, 0, none⟩)) := hD.1 rfl _ rfl
    have f24 := (ev_form av 24).symm.trans d24
    have d23 : (fun u w' => u = .bool true ∧ w'.heap[gb]? = some (.cells #[.pointer (some ⟨fb, 0, none⟩)] 127 (0, 0))) (av.eval (.tmp 23)) wv := hD.2.1 rfl _ rfl
    have g23 : av.eval (.tmp 23) = .bool true := d23.1
    have f23 := (ev_form av 23).symm.trans g23
    refine ⟨(wanted_of (d := 23) (b := true) (want := true) rfl rfl rfl g23), ?_⟩
    simp [go_sem, f24, f23]
  case s6 =>
    refine stepV_val (v := (.agg #[.int .i64 k, .int .i64 a])) xrefl (fun _ _ _ _ => ⟨trivial, trivial⟩) (fun D av wv hE hO hD => ?_) (fun _ => rfl)
    have d25 : av.eval (.tmp 25) = (.pointer (some ⟨fb, 0, none⟩)) := hD.1 rfl _ rfl
    have f25 := (ev_form av 25).symm.trans d25
    have d23 : (fun u w' => u = .bool true ∧ w'.heap[gb]? = some (.cells #[.pointer (some ⟨fb, 0, none⟩)] 127 (0, 0))) (av.eval (.tmp 23)) wv := hD.2.1 rfl _ rfl
    have g23 : av.eval (.tmp 23) = .bool true := d23.1
    have f23 := (ev_form av 23).symm.trans g23
    have y0 := extS_cell hE.ext (fun j => vob j _ hyg) y0
    have y1 := extS_cell hE.ext (fun j => vob j _ hyg) y1
    have z0 := extS_cell hE.ext (fun j => vob j _ hzg) z0
    have z1 := extS_cell hE.ext (fun j => vob j _ hzg) z1
    refine ⟨(wanted_of (d := 23) (b := true) (want := true) rfl rfl rfl g23), ?_⟩
    simp [go_sem, f25, f23, y0, y1, z0, z1]
  case s7 =>
    refine stepV_val (v := (.agg #[.int .i64 k, .int .i64 a])) xrefl (fun _ _ _ _ => ⟨trivial, trivial⟩) (fun D av wv hE hO hD => ?_) (fun _ => rfl)
    have h3 : av.eval (.tmp 3) = (.pointer (some ⟨b3, 0, none⟩)) := hO.2.2 3 rfl
    have f3 := (ev_form av 3).symm.trans h3
    have d23 : (fun u w' => u = .bool true ∧ w'.heap[gb]? = some (.cells #[.pointer (some ⟨fb, 0, none⟩)] 127 (0, 0))) (av.eval (.tmp 23)) wv := hD.1 rfl _ rfl
    have g23 : av.eval (.tmp 23) = .bool true := d23.1
    have f23 := (ev_form av 23).symm.trans g23
    have y0 := extS_cell hE.ext (fun j => vob j _ hyg) y0
    have y1 := extS_cell hE.ext (fun j => vob j _ hyg) y1
    have z0 := extS_cell hE.ext (fun j => vob j _ hzg) z0
    have z1 := extS_cell hE.ext (fun j => vob j _ hzg) z1
    refine ⟨(wanted_of (d := 23) (b := true) (want := true) rfl rfl rfl g23), ?_⟩
    simp [go_sem, f3, f23, y0, y1, z0, z1]
  case s8 =>
    refine stepV_val (v := (.bool true)) xrefl (fun _ _ _ _ => ⟨trivial, trivial⟩) (fun D av wv hE hO hD => ?_) (fun _ => rfl)
    have d26 : av.eval (.tmp 26) = (.agg #[.int .i64 k, .int .i64 a]) := hD.1 rfl _ rfl
    have f26 := (ev_form av 26).symm.trans d26
    have d27 : av.eval (.tmp 27) = (.agg #[.int .i64 k, .int .i64 a]) := hD.2.1 rfl _ rfl
    have f27 := (ev_form av 27).symm.trans d27
    have d23 : (fun u w' => u = .bool true ∧ w'.heap[gb]? = some (.cells #[.pointer (some ⟨fb, 0, none⟩)] 127 (0, 0))) (av.eval (.tmp 23)) wv := hD.2.2.1 rfl _ rfl
    have g23 : av.eval (.tmp 23) = .bool true := d23.1
    have f23 := (ev_form av 23).symm.trans g23
    refine ⟨(wanted_of (d := 23) (b := true) (want := true) rfl rfl rfl g23), ?_⟩
    simp [go_sem, f26, f27, f23]
  case s9 =>
    refine stepV_val (v := (.bool true)) xrefl (fun _ _ _ _ => ⟨trivial, trivial⟩) (fun D av wv hE hO hD => ?_) (fun _ => rfl)
    have d23 : (fun u w' => u = .bool true ∧ w'.heap[gb]? = some (.cells #[.pointer (some ⟨fb, 0, none⟩)] 127 (0, 0))) (av.eval (.tmp 23)) wv := hD.1 rfl _ rfl
    have g23 : av.eval (.tmp 23) = .bool true := d23.1
    have f23 := (ev_form av 23).symm.trans g23
    have d28 : av.eval (.tmp 28) = (.bool true) := hD.2.1 rfl _ rfl
    have f28 := (ev_form av 28).symm.trans d28
    refine ⟨rfl, ?_⟩
    simp [go_sem, f23, f28]
  case s10 =>
    refine stepV_val (v := (.bool true)) xrefl (fun _ _ _ _ => ⟨trivial, trivial⟩) (fun D av wv hE hO hD => ?_) (fun _ => rfl)
    have d29 : av.eval (.tmp 29) = (.bool true) := hD.1 rfl _ rfl
    have f29 := (ev_form av 29).symm.trans d29
    refine ⟨rfl, ?_⟩
    simp [go_sem, f29]
  case s11 =>
    refine stepV_val (v := (.iface 127 (.pointer (some ⟨fb, 0, none⟩)))) xrefl (fun _ _ _ _ => ⟨trivial, trivial⟩) (fun D av wv hE hO hD => ?_) (fun _ => rfl)
    have h0 : av.eval (.tmp 0) = (.iface 127 (.pointer (some ⟨fb, 0, none⟩))) := hO.2.2 0 rfl
    have f0 := (ev_form av 0).symm.trans h0
    have d30 : av.eval (.tmp 30) = (.bool true) := hD.1 rfl _ rfl
    have f30 := (ev_form av 30).symm.trans d30
    refine ⟨(wanted_of (d := 30) (b := true) (want := true) rfl rfl rfl d30), ?_⟩
    simp [go_sem, f0, f30]
  case s12 =>
    refine stepV_val (v := (.pointer (some ⟨b3, 0, none⟩))) xrefl (fun _ _ _ _ => ⟨trivial, trivial⟩) (fun D av wv hE hO hD => ?_) (fun _ => rfl)
    have h3 : av.eval (.tmp 3) = (.pointer (some ⟨b3, 0, none⟩)) := hO.2.2 3 rfl
    have f3 := (ev_form av 3).symm.trans h3
    have d30 : av.eval (.tmp 30) = (.bool true) := hD.1 rfl _ rfl
    have f30 := (ev_form av 30).symm.trans d30
    refine ⟨(wanted_of (d := 30) (b := true) (want := true) rfl rfl rfl d30), ?_⟩
    simp [go_sem, f3, f30]
  case s13 =>
    refine stepV_val (v := (.int .i64 k)) xrefl (fun _ _ _ _ => ⟨trivial, trivial⟩) (fun D av wv hE hO hD => ?_) (fun _ => rfl)
    have d32 : av.eval (.tmp 32) = (.pointer (some ⟨b3, 0, none⟩)) := hD.1 rfl _ rfl
    have f32 := (ev_form av 32).symm.trans d32
    have d30 : av.eval (.tmp 30) = (.bool true) := hD.2.1 rfl _ rfl
    have f30 := (ev_form av 30).symm.trans d30
    have y0 := extS_cell hE.ext (fun j => vob j _ hyg) y0
    have y1 := extS_cell hE.ext (fun j => vob j _ hyg) y1
    have z0 := extS_cell hE.ext (fun j => vob j _ hzg) z0
    have z1 := extS_cell hE.ext (fun j => vob j _ hzg) z1
    refine ⟨(wanted_of (d := 30) (b := true) (want := true) rfl rfl rfl d30), ?_⟩
    simp [go_sem, f32, f30, y0, y1, z0, z1]
  case s14 =>
    refine stepV_val (v := (.iface 30 (.int .i64 k))) xrefl (fun _ _ _ _ => ⟨trivial, trivial⟩) (fun D av wv hE hO hD => ?_) (fun _ => rfl)
    have d33 : av.eval (.tmp 33) = (.int .i64 k) := hD.1 rfl _ rfl
    have f33 := (ev_form av 33).symm.trans d33
    have d30 : av.eval (.tmp 30) = (.bool true) := hD.2.1 rfl _ rfl
    have f30 := (ev_form av 30).symm.trans d30
    refine ⟨(wanted_of (d := 30) (b := true) (want := true) rfl rfl rfl d30), ?_⟩
    simp [go_sem, f33, f30]
  case s15 =>
    refine stepV_wp (fun D av wv hPP hE hO hD => ?_)
    have d31 : av.eval (.tmp 31) = (.iface 127 (.pointer (some ⟨fb, 0, none⟩))) := hD.1 rfl _ rfl
    have f31 := (ev_form av 31).symm.trans d31
    have d34 : av.eval (.tmp 34) = (.iface 30 (.int .i64 k)) := hD.2.1 rfl _ rfl
    have f34 := (ev_form av 34).symm.trans d34
    have d30 : av.eval (.tmp 30) = (.bool true) := hD.2.2.1 rfl _ rfl
    have f30 := (ev_form av 30).symm.trans d30
    refine ⟨(wanted_of (d := 30) (b := true) (want := true) rfl rfl rfl d30), ?_⟩
    refine wp_of_callR (f := 72) (args := #[.iface 127 (.pointer (some ⟨fb, 0, none⟩)), .iface 30 (.int .i64 k)]) (R := fun u w2 => u = .bool true ∧ w2 = wv) (by simp [go_sem, f31, f34]) ((is_fault fb k k wv (extS_cell hE.ext (fun j => vob j _ hyg) y0)).mono (fun e w2 ⟨h1, h2⟩ => ⟨_, h1, by simp, h2⟩)) (fun u w2 ⟨h1, h2⟩ => ⟨u, rfl, esV_of_ext (by rw [h2]; exact Ext_refl _) (by rw [h2]; exact xrefl 0 _), h1, fun _ _ _ _ _ => ⟨trivial, trivial⟩⟩)
  case s16 =>
    refine stepV_val (v := (.bool true)) xrefl (fun _ _ _ _ => ⟨trivial, trivial⟩) (fun D av wv hE hO hD => ?_) (fun _ => rfl)
    have d30 : av.eval (.tmp 30) = (.bool true) := hD.1 rfl _ rfl
    have f30 := (ev_form av 30).symm.trans d30
    have d35 : av.eval (.tmp 35) = (.bool true) := hD.2.1 rfl _ rfl
    have f35 := (ev_form av 35).symm.trans d35
    refine ⟨rfl, ?_⟩
    simp [go_sem, f30, f35]
  intro a' w' hE _ hO hall _
  have hA := act_of_outer (ds := [20, 21, 22, 23, 24, 25, 26, 27, 28, 29, 30, 31, 32, 33, 34, 35, 36]) rfl hO (by kernel_rfl)
  have e20 : (fun u _ => u = (.iface 127 (.pointer (some ⟨fb, 0, none⟩)))) (a'.eval (.tmp 20)) w' := hall.1 _ rfl
  have e21 : (fun u _ => u = (.iface 129 (.pointer (some ⟨gb, 0, none⟩)))) (a'.eval (.tmp 21)) w' := hall.2.1 _ rfl
  have e22 : (fun u w' => u = .bool true ∧ w'.heap[gb]? = some (.cells #[.pointer (some ⟨fb, 0, none⟩)] 127 (0, 0))) (a'.eval (.tmp 22)) w' := hall.2.2.1 _ rfl
  have e23 : (fun u w' => u = .bool true ∧ w'.heap[gb]? = some (.cells #[.pointer (some ⟨fb, 0, none⟩)] 127 (0, 0))) (a'.eval (.tmp 23)) w' := hall.2.2.2.1 _ rfl
  have e24 : (fun u _ => u = (.pointer (some ⟨fb, 0, none⟩))) (a'.eval (.tmp 24)) w' := hall.2.2.2.2.1 _ rfl
  have e25 : (fun u _ => u = (.pointer (some ⟨fb, 0, none⟩))) (a'.eval (.tmp 25)) w' := hall.2.2.2.2.2.1 _ rfl
  have e26 : (fun u _ => u = (.agg #[.int .i64 k, .int .i64 a])) (a'.eval (.tmp 26)) w' := hall.2.2.2.2.2.2.1 _ rfl
  have e27 : (fun u _ => u = (.agg #[.int .i64 k, .int .i64 a])) (a'.eval (.tmp 27)) w' := hall.2.2.2.2.2.2.2.1 _ rfl
  have e28 : (fun u _ => u = (.bool true)) (a'.eval (.tmp 28)) w' := hall.2.2.2.2.2.2.2.2.1 _ rfl
  have e29 : (fun u _ => u = (.bool true)) (a'.eval (.tmp 29)) w' := hall.2.2.2.2.2.2.2.2.2.1 _ rfl
  have e30 : (fun u _ => u = (.bool true)) (a'.eval (.tmp 30)) w' := hall.2.2.2.2.2.2.2.2.2.2.1 _ rfl
  have e31 : (fun u _ => u = (.iface 127 (.pointer (some ⟨fb, 0, none⟩)))) (a'.eval (.tmp 31)) w' := hall.2.2.2.2.2.2.2.2.2.2.2.1 _ rfl
  have e32 : (fun u _ => u = (.pointer (some ⟨b3, 0, none⟩))) (a'.eval (.tmp 32)) w' := hall.2.2.2.2.2.2.2.2.2.2.2.2.1 _ rfl
  have e33 : (fun u _ => u = (.int .i64 k)) (a'.eval (.tmp 33)) w' := hall.2.2.2.2.2.2.2.2.2.2.2.2.2.1 _ rfl
  have e34 : (fun u _ => u = (.iface 30 (.int .i64 k))) (a'.eval (.tmp 34)) w' := hall.2.2.2.2.2.2.2.2.2.2.2.2.2.2.1 _ rfl
  have e35 : (fun u _ => u = (.bool true)) (a'.eval (.tmp 35)) w' := hall.2.2.2.2.2.2.2.2.2.2.2.2.2.2.2.1 _ rfl
  have e36 : (fun u _ => u = (.bool true)) (a'.eval (.tmp 36)) w' := hall.2.2.2.2.2.2.2.2.2.2.2.2.2.2.2.2.1 _ rfl
  obtain ⟨v22, hv22⟩ : ∃ v, a'.eval (.tmp 22) = v := ⟨_, rfl⟩
  rw [hv22] at e22
  obtain ⟨v23, hv23⟩ : ∃ v, a'.eval (.tmp 23) = v := ⟨_, rfl⟩
  rw [hv23] at e23
  simp only [List.foldl_cons, List.foldl_nil, Act.put, List.setIfInBounds_toArray, List.set_cons_succ, List.set_cons_zero, e20, e21, hv22, hv23, e24, e25, e26, e27, e28, e29, e30, e31, e32, e33, e34, e35, e36] at hA
  clear hO hall e20 e21 hv22 hv23 e24 e25 e26 e27 e28 e29 e30 e31 e32 e33 e34 e35 e36
  subst hA
  have HX : Hid (ExtS VO W w') := Lib.hid ⟨hE.os, hE.tape, hE.output, hE.size, hE.block⟩
  have HV : Hid (∀ j b, b ≠ gb → VO j ≠ some b) := Lib.hid vob
  clear hE vob von vok voi xrefl y0 y1 z0 z1
  go_wp2
  go_ret
  exact ⟨rfl, HX.out.os.trans WB.out.os, HX.out.tape.trans WB.out.tape, HX.out.output.trans WB.out.output, Nat.le_trans WB.out.size HX.out.size, fun i hi => (HX.out.block i (Nat.lt_of_lt_of_le hi WB.out.size) (fun j => HV.out j i (by have := HGB.out; omega))).trans (WB.out.block i hi)⟩
end Go.Proofs.YtihiaopilnjonaaGreatDoor
namespace Go.Proofs
set_option linter.unusedSimpArgs false
set_option linter.unusedVariables false
open Go.Shelf
def Tryz.lays105_ren : Go.Shelf.Ren := ⟨fun | 105 => 102 | 212 => 164 | 99 => 165 | 165 => 166 | 166 => 167 | 170 => 168 | 169 => 169 | 263 => 234 | 264 => 235 | 206 => 236 | 240 => 237 | 241 => 238 | 276 => 257 | 277 => 258 | n => n, fun | 9 => 9 | 3 => 3 | 4 => 4 | 20 => 20 | 0 => 0 | 46 => 251 | 109 => 252 | 5 => 5 | 72 => 257 | 76 => 259 | 51 => 315 | 146 => 316 | 53 => 23 | 148 => 318 | 70 => 255 | 37 => 106 | 75 => 59 | 127 => 320 | 164 => 211 | 80 => 144 | n => n, fun | n => n⟩
theorem Tryz.lays105 : Go.Proofs.Lays.n105 Tryz.prog Tryz.lays105_ren := {
  mixed := by kernel_rfl
  f99 := Tryz.func165.trans (congrArg some (by kernel_rfl))
  f105 := Tryz.func102.trans (congrArg some (by kernel_rfl))
  f165 := Tryz.func166.trans (congrArg some (by kernel_rfl))
  f166 := Tryz.func167.trans (congrArg some (by kernel_rfl))
  f169 := Tryz.func169.trans (congrArg some (by kernel_rfl))
  f170 := Tryz.func168.trans (congrArg some (by kernel_rfl))
  f206 := Tryz.func236.trans (congrArg some (by kernel_rfl))
  f212 := Tryz.func164.trans (congrArg some (by kernel_rfl))
  f240 := Tryz.func237.trans (congrArg some (by kernel_rfl))
  f241 := Tryz.func238.trans (congrArg some (by kernel_rfl))
  f263 := Tryz.func234.trans (congrArg some (by kernel_rfl))
  f264 := Tryz.func235.trans (congrArg some (by kernel_rfl))
  f276 := Tryz.func257.trans (congrArg some (by kernel_rfl))
  f277 := Tryz.func258.trans (congrArg some (by kernel_rfl))
  t0 := Tryz.underlying0
  a0 := Tryz.isAgg0
  z0 := Tryz.sizeOf0
  v0 := Tryz.zeroValue0
  t3 := Tryz.underlying3
  a3 := Tryz.isAgg3
  z3 := Tryz.sizeOf3
  v3 := Tryz.zeroValue3
  t4 := Tryz.underlying4
  a4 := Tryz.isAgg4
  z4 := Tryz.sizeOf4
  v4 := Tryz.zeroValue4
  t5 := Tryz.underlying5
  a5 := Tryz.isAgg5
  z5 := Tryz.sizeOf5
  v5 := Tryz.zeroValue5
  t9 := Tryz.underlying9
  a9 := Tryz.isAgg9
  z9 := Tryz.sizeOf9
  v9 := Tryz.zeroValue9
  t20 := Tryz.underlying20
  a20 := Tryz.isAgg20
  z20 := Tryz.sizeOf20
  v20 := Tryz.zeroValue20
  t37 := Tryz.underlying106
  a37 := Tryz.isAgg106
  z37 := Tryz.sizeOf106
  v37 := Tryz.zeroValue106
  t46 := Tryz.underlying251
  a46 := Tryz.isAgg251
  z46 := Tryz.sizeOf251
  v46 := Tryz.zeroValue251
  t51 := Tryz.underlying315
  a51 := Tryz.isAgg315
  z51 := Tryz.sizeOf315
  v51 := Tryz.zeroValue315
  t53 := Tryz.underlying23
  a53 := Tryz.isAgg23
  z53 := Tryz.sizeOf23
  v53 := Tryz.zeroValue23
  t70 := Tryz.underlying255
  a70 := Tryz.isAgg255
  z70 := Tryz.sizeOf255
  v70 := Tryz.zeroValue255
  t72 := Tryz.underlying257
  a72 := Tryz.isAgg257
  z72 := Tryz.sizeOf257
  v72 := Tryz.zeroValue257
  t75 := Tryz.underlying59
  a75 := Tryz.isAgg59
  z75 := Tryz.sizeOf59
  v75 := Tryz.zeroValue59
  t76 := Tryz.underlying259
  a76 := Tryz.isAgg259
  z76 := Tryz.sizeOf259
  v76 := Tryz.zeroValue259
  t109 := Tryz.underlying252
  a109 := Tryz.isAgg252
  z109 := Tryz.sizeOf252
  v109 := Tryz.zeroValue252
  t127 := Tryz.underlying320
  a127 := Tryz.isAgg320
  z127 := Tryz.sizeOf320
  v127 := Tryz.zeroValue320
  t146 := Tryz.underlying316
  a146 := Tryz.isAgg316
  z146 := Tryz.sizeOf316
  v146 := Tryz.zeroValue316
  t148 := Tryz.underlying318
  a148 := Tryz.isAgg318
  z148 := Tryz.sizeOf318
  v148 := Tryz.zeroValue318
  t164 := Tryz.underlying211
  a164 := Tryz.isAgg211
  z164 := Tryz.sizeOf211
  v164 := Tryz.zeroValue211 }
theorem Tryz.Builder_Extra_105 : Builder.Extra Tryz.prog Tryz.lays105_ren := {
  sizeBuilder := by kernel_rfl
  liesBuilder := by kernel_rfl
  t5 := Tryz.underlying5
  a5 := Tryz.isAgg5
  z5 := Tryz.sizeOf5
  v5 := Tryz.zeroValue5
  infoByte := by kernel_rfl
  cellsByte := by kernel_rfl
  sizeByte := by kernel_rfl
  neB5 := by decide }
open Go.RowKit Go.Lib in
theorem Tryz.strings_Repeat (s : ByteArray) (c : Nat) (w : World) (hc : c ≤ 9223372036854775807) (hlen : s.size * c ≤ 140737488355328) :
    Calls Tryz.prog 102 #[.string s, .int .i64 c] w fun e w' => e = .returned (.string ⟨(Lib.repeatL s.data.toList c).toArray⟩) ∧ Below w.heap.size w w' := Any.strings_Repeat Tryz.lays105 Tryz.Builder_Extra_105 s c w hc hlen
end Go.Proofs
namespace Go.Proofs.YtihiaopilnjonaaGreatDoor
open Go.RowKit
set_option linter.unusedSimpArgs false
set_option linter.unusedVariables false
def fullR : ByteArray := ⟨(Go.Lib.repeatL [114] 32).toArray⟩
theorem full_any (w : World) : Calls Tryz.prog 54 #[.string ⟨#[114]⟩] w fun e w' => e = .returned (.string fullR) ∧ Below w.heap.size w w' := by
  go_enter Tryz.func54, Tryz.ntmps54
  go_wp2_with fail
  refine (Tryz.strings_Repeat ⟨#[114]⟩ 32 _ (by decide) (by decide)).mono ?_
  rintro e w1 ⟨rfl, hb⟩
  go_wp2
  go_ret
  exact ⟨rfl, hb⟩
theorem conv_some (w : World) (B n cap : Nat) (h : ∀ j, j < n → ∃ v, w.cell? ⟨B, j, none⟩ = some (.int .u8 v)) : ∃ t : ByteArray, t.size = n ∧ (convert 106 9 (.slice (some ⟨B, 0, none⟩) n cap)).run Tryz.prog w = .ok (.string t) w := by
  have h' : ∀ j, ∃ v, j < n → w.cell? ⟨B, j, none⟩ = some (.int .u8 v) := fun j => by
    by_cases hj : j < n
    · obtain ⟨v, hv⟩ := h j hj; exact ⟨v, fun _ => hv⟩
    · exact ⟨0, fun h => absurd h hj⟩
  let f : Nat → Int := fun j => Classical.choose (h' j)
  have hf : ∀ j, j < n → w.cell? ⟨B, j, none⟩ = some (.int .u8 (f j)) := fun j => Classical.choose_spec (h' j)
  refine ⟨strOfNums ((List.range n).map f), by rw [strOfNums_size]; simp, ?_⟩
  exact run_convert_bytes_arg (P := Tryz.prog) w 106 5 Tryz.underlying106 Tryz.underlying5 B 0 n cap ((List.range n).map f) (by simp) (fun i hi => by
    rw [Nat.zero_add, hf i hi]
    simp [hi]) 9 Tryz.underlying9
theorem bworld_below (w : World) (e : TypeId) (s : ByteArray) : Below w.heap.size w (Lib.bytesWorld w e s) := by
  have h : Below w.heap.size w (w.drew.alloc (.cells (Lib.bytesCells w e s) e)) := ((Below.refl _ _).drew).alloc (by simp) _
  exact ⟨h.os, h.tape, h.output, by rw [Lib.bytesWorld_size]; omega, fun i hi => Lib.bytesWorld_at_old _ _ _ _ hi⟩
set_option maxRecDepth 100000 in
set_option maxHeartbeats 4000000 in
theorem turned_any (s : ByteArray) (a y st : Int) (w : World) (ha : 0 ≤ a ∧ a ≤ 65535) (hy : 0 ≤ y ∧ y ≤ 255) (hs : s.size ≤ 140737488355328) : Calls Tryz.prog 28 #[.string s, .agg #[.int .u16 a, .int .u8 y, .int .i64 st]] w fun e w' => ∃ t : ByteArray, e = .returned (.string t) ∧ t.size ≤ s.size ∧ Below w.heap.size w w' := by
  obtain ⟨tb, htb⟩ : ∃ tb, w.heap.size = tb := ⟨_, rfl⟩
  obtain ⟨n, hn⟩ : ∃ n, s.size = n := ⟨_, rfl⟩
  go_enter Tryz.func28, Tryz.ntmps28
  go_upto_region 1 with fail
  obtain ⟨V, hV⟩ : ∃ V, w.alloc (.cells #[.int .u16 a, .int .u8 y, .int .i64 st] 55) = V := ⟨_, rfl⟩
  rw [hV]
  have VB : Hid (Below w.heap.size w V) := Lib.hid (by rw [← hV]; exact balloc (Below.refl _ _) _)
  have VT : Hid (V.heap[tb]? = some (.cells #[.int .u16 a, .int .u8 y, .int .i64 st] 55 (0, 0))) := Lib.hid (by rw [← hV, ← htb]; exact heap_alloc_new _ _)
  have VS : Hid (V.heap.size = tb + 1) := Lib.hid (by rw [← hV, ← htb]; simp)
  clear hV
  have hc := Lib.run_convert_string_bytes (P := Tryz.prog) V 9 106 5 s Tryz.underlying9 Tryz.underlying106 Tryz.underlying5
  go_upto_region 2 with fail
  obtain ⟨cap, hcap⟩ : ∃ cap, grownCap V n 0 5 = cap := ⟨_, rfl⟩
  obtain ⟨W, hW⟩ : ∃ W, Lib.bytesWorld V 5 s = W := ⟨_, rfl⟩
  obtain ⟨B, hB⟩ : ∃ B, V.heap.size = B := ⟨_, rfl⟩
  obtain ⟨cs, hcs⟩ : ∃ cs, Lib.bytesCells V 5 s = cs := ⟨_, rfl⟩
  have HBK0 := Lib.bytesWorld_at_new V 5 s
  have HCE0 := fun j (hj : j < s.size) => Lib.bytesWorld_cell V 5 s j hj
  have WB : Hid (Below w.heap.size w W) := Lib.hid (by rw [← hW]; exact bnext VB.out (bworld_below V 5 s))
  have WT : Hid (W.heap[tb]? = some (.cells #[.int .u16 a, .int .u8 y, .int .i64 st] 55 (0, 0))) := Lib.hid (by rw [← hW]; exact ((bworld_below V 5 s).block tb (by have := VS.out; omega)).trans VT.out)
  have CAP : Hid (n ≤ cap) := Lib.hid (by rw [← hcap]; exact grownCap_ge _ _ _ _)
  simp only [hcap, hW, hB]
  rw [hW, hB] at HBK0
  rw [hcs] at HBK0
  have HCE : Hid (∀ j, j < s.size → cs[j]? = some (.int .u8 (byte s j))) := Lib.hid (fun j hj => by have := HCE0 j hj; rw [hW, hB] at this; exact (block_cell HBK0 j).symm.trans this)
  obtain ⟨fr, hfr⟩ : ∃ fr, (cs.size, cs.size + 1) = fr := ⟨_, rfl⟩
  rw [hfr] at HBK0
  have HFR : Hid (fr = (cs.size, cs.size + 1)) := Lib.hid hfr.symm
  have HBK := Lib.hid HBK0
  have htB : tb ≠ B := by have := VS.out; omega
  have HWB : Hid (w.heap.size ≤ B) := Lib.hid (by have := VS.out; omega)
  clear HBK0 HCE0 hc hW hcs hcap hfr
  rw [hn] at HCE
  have HN := Lib.hid hn
  clear hn
  by_cases h0 : n = 0
  · have hpos : decide (0 < n) = false := by simp; omega
    have H0 := Lib.hid h0
    clear h0
    go_upto_region 4 with fail
    obtain ⟨W2, hW2⟩ : ∃ W2, W = W2 := ⟨_, rfl⟩
    rw [hW2] at WB WT ⊢
    have W2B := WB
    have HT := Lib.hid (block_cell WT.out 2)
    have HC : Hid (∀ j, j < n → ∃ v, W2.cell? ⟨B, j, none⟩ = some (.int .u8 v)) := Lib.hid (fun j hj => absurd hj (by have := H0.out; omega))
    clear hW2
    rcases Int.lt_or_le st 0 with c1 | c1
    · have b1 : decide (0 ≤ st) = false := by simp; omega
      obtain ⟨t, ht, hcv⟩ := conv_some W2 B n cap HC.out
      have HCV := Lib.hid ht
      have q2 := HT.out
      clear ht
      go_wp2
      go_ret
      exact ⟨t, rfl, by rw [HCV.out, HN.out]; exact Nat.le_refl _, by have := W2B.out; exact this⟩
    · obtain ⟨m, rfl⟩ := Int.eq_ofNat_of_zero_le c1
      have b1 : decide (0 ≤ (m : Int)) = true := by simp
      by_cases c2 : m < n
      · have b2 : decide (m < n) = true := by simp; exact c2
        obtain ⟨t, ht, hcv⟩ := conv_some W2 B m cap (fun j hj => HC.out j (Nat.lt_trans hj c2))
        have HCV := Lib.hid ht
        have q2 := HT.out
        have c3 : m ≤ cap := by have := CAP.out; omega
        have c4 : (cap < m) = False := by simp; omega
        clear ht
        go_wp2
        go_ret
        exact ⟨t, rfl, by rw [HCV.out, HN.out]; omega, by have := W2B.out; exact this⟩
      · have b2 : decide (m < n) = false := by simp; omega
        obtain ⟨t, ht, hcv⟩ := conv_some W2 B n cap HC.out
        have HCV := Lib.hid ht
        have q2 := HT.out
        clear ht
        go_wp2
        go_ret
        exact ⟨t, rfl, by rw [HCV.out, HN.out]; exact Nat.le_refl _, by have := W2B.out; exact this⟩
  · have hpos : decide (0 < n) = true := by simp; omega
    obtain ⟨k, hk⟩ : ∃ k : Nat, a.toNat % n = k := ⟨_, rfl⟩
    have hkn : k < n := by rw [← hk]; exact Nat.mod_lt _ (by omega)
    have KK : Hid (a.tmod (n : Int) = (k : Int)) := Lib.hid (by rw [← hk]; exact (congrArg (fun z => Int.tmod z (n : Int)) (Int.toNat_of_nonneg ha.1).symm).trans (Int.ofNat_tmod _ _).symm)
    obtain ⟨x, hx⟩ : ∃ x, byte s k = x := ⟨_, rfl⟩
    have QK : Hid (cs[k]? = some (.int .u8 x)) := Lib.hid (by rw [← hx]; exact HCE.out k hkn)
    have FZ : Hid (W.frozen? ⟨B, k, none⟩ = false) := Lib.hid (by unfold World.frozen?; rw [HBK.out]; have := (Array.getElem?_eq_some_iff.1 QK.out).1; rw [HFR.out]; simp; omega)
    have hBl : B < W.heap.size := lt_of_block HBK.out
    have y0 : W.cell? ⟨tb, 0, none⟩ = some (.int .u16 a) := block_cell WT.out 0
    have y1 : W.cell? ⟨tb, 1, none⟩ = some (.int .u8 y) := block_cell WT.out 1
    obtain ⟨z, r4⟩ : ∃ z : Int, bits BinOp.xor IntKind.u8 x y = z := ⟨_, rfl⟩
    have q0 : W.cell? ⟨B, k, none⟩ = some (.int .u8 x) := (block_cell HBK.out k).trans QK.out
    have r0 : IntKind.i64.wrap a = a := wrap_small a ha.1 (by omega)
    have r1 : (n = 0) = False := by simp [h0]
    have r2 : a.tmod (n : Int) = (k : Int) := KK.out
    have r3 : (n ≤ k) = False := by simp; omega
    go_upto_region 3 with fail
    refine wp_region_tail 13 1000 (none) (phis [fun u _ => u = (.slice (some ⟨B, 0, none⟩) n cap), fun u _ => u = (.pointer (some ⟨tb, 0, none⟩)), fun u _ => u = (.int .u16 a), fun u _ => u = (.int .i64 a), fun u _ => u = (.slice (some ⟨B, 0, none⟩) n cap), fun u _ => u = (.int .i64 n), fun u _ => u = (.int .i64 k), fun u _ => u = (.pointer (some ⟨B, k, none⟩)), fun u _ => u = (.int .u8 x), fun u _ => u = (.pointer (some ⟨tb, 1, none⟩)), fun u _ => u = (.int .u8 y), fun u _ => u = (.int .u8 z), fun u _ => u = (.pointer (some ⟨B, k, none⟩))]) rfl (by kernel_rfl) (by kernel_rfl) (mono_of ⟨mono_eq, mono_eq, mono_eq, mono_eq, mono_eq, mono_eq, mono_eq, mono_eq, mono_eq, mono_eq, mono_eq, mono_eq, mono_eq, trivial⟩) (steps_of 13 ⟨?s0, ?s1, ?s2, ?s3, ?s4, ?s5, ?s6, ?s7, ?s8, ?s9, ?s10, ?s11, ?s12, trivial⟩) ?_
    case s0 =>
      refine step_val (v := (.slice (some ⟨B, 0, none⟩) n cap)) (fun av wv hE hS hO hD => ?_) (fun _ => rfl)
      have h5 : av.eval (.tmp 5) = (.slice (some ⟨B, 0, none⟩) n cap) := hO.2.2 5 rfl
      have f5 := (ev_form av 5).symm.trans h5
      refine ⟨rfl, ?_⟩
      simp [go_sem, f5, r0, r1, r2, r3, r4]
    case s1 =>
      refine step_val (v := (.pointer (some ⟨tb, 0, none⟩))) (fun av wv hE hS hO hD => ?_) (fun _ => rfl)
      have h3 : av.eval (.tmp 3) = (.pointer (some ⟨tb, 0, none⟩)) := hO.2.2 3 rfl
      have f3 := (ev_form av 3).symm.trans h3
      refine ⟨rfl, ?_⟩
      simp [go_sem, f3, r0, r1, r2, r3, r4]
    case s2 =>
      refine step_val (v := (.int .u16 a)) (fun av wv hE hS hO hD => ?_) (fun _ => rfl)
      have d12 : av.eval (.tmp 12) = (.pointer (some ⟨tb, 0, none⟩)) := hD.1 rfl _ rfl
      have f12 := (ev_form av 12).symm.trans d12
      have y0 := extB_cell hE (by simp) y0
      have y1 := extB_cell hE (by simp) y1
      have q0 := extB_cell hE (by simp) q0
      refine ⟨rfl, ?_⟩
      simp [go_sem, f12, y0, y1, q0, r0, r1, r2, r3, r4]
    case s3 =>
      refine step_val (v := (.int .i64 a)) (fun av wv hE hS hO hD => ?_) (fun _ => rfl)
      have d13 : av.eval (.tmp 13) = (.int .u16 a) := hD.1 rfl _ rfl
      have f13 := (ev_form av 13).symm.trans d13
      refine ⟨rfl, ?_⟩
      simp [go_sem, f13, r0, r1, r2, r3, r4]
    case s4 =>
      refine step_val (v := (.slice (some ⟨B, 0, none⟩) n cap)) (fun av wv hE hS hO hD => ?_) (fun _ => rfl)
      have h5 : av.eval (.tmp 5) = (.slice (some ⟨B, 0, none⟩) n cap) := hO.2.2 5 rfl
      have f5 := (ev_form av 5).symm.trans h5
      refine ⟨rfl, ?_⟩
      simp [go_sem, f5, r0, r1, r2, r3, r4]
    case s5 =>
      refine step_val (v := (.int .i64 n)) (fun av wv hE hS hO hD => ?_) (fun _ => rfl)
      have d15 : av.eval (.tmp 15) = (.slice (some ⟨B, 0, none⟩) n cap) := hD.1 rfl _ rfl
      have f15 := (ev_form av 15).symm.trans d15
      refine ⟨rfl, ?_⟩
      simp [go_sem, f15, r0, r1, r2, r3, r4]
    case s6 =>
      refine step_val (v := (.int .i64 k)) (fun av wv hE hS hO hD => ?_) (fun _ => rfl)
      have d14 : av.eval (.tmp 14) = (.int .i64 a) := hD.1 rfl _ rfl
      have f14 := (ev_form av 14).symm.trans d14
      have d16 : av.eval (.tmp 16) = (.int .i64 n) := hD.2.1 rfl _ rfl
      have f16 := (ev_form av 16).symm.trans d16
      refine ⟨rfl, ?_⟩
      simp [go_sem, f14, f16, r0, r1, r2, r3, r4]
    case s7 =>
      refine step_val (v := (.pointer (some ⟨B, k, none⟩))) (fun av wv hE hS hO hD => ?_) (fun _ => rfl)
      have d11 : av.eval (.tmp 11) = (.slice (some ⟨B, 0, none⟩) n cap) := hD.1 rfl _ rfl
      have f11 := (ev_form av 11).symm.trans d11
      have d17 : av.eval (.tmp 17) = (.int .i64 k) := hD.2.1 rfl _ rfl
      have f17 := (ev_form av 17).symm.trans d17
      refine ⟨rfl, ?_⟩
      simp [go_sem, f11, f17, r0, r1, r2, r3, r4]
    case s8 =>
      refine step_val (v := (.int .u8 x)) (fun av wv hE hS hO hD => ?_) (fun _ => rfl)
      have d18 : av.eval (.tmp 18) = (.pointer (some ⟨B, k, none⟩)) := hD.1 rfl _ rfl
      have f18 := (ev_form av 18).symm.trans d18
      have y0 := extB_cell hE (by simp) y0
      have y1 := extB_cell hE (by simp) y1
      have q0 := extB_cell hE (by simp) q0
      refine ⟨rfl, ?_⟩
      simp [go_sem, f18, y0, y1, q0, r0, r1, r2, r3, r4]
    case s9 =>
      refine step_val (v := (.pointer (some ⟨tb, 1, none⟩))) (fun av wv hE hS hO hD => ?_) (fun _ => rfl)
      have h3 : av.eval (.tmp 3) = (.pointer (some ⟨tb, 0, none⟩)) := hO.2.2 3 rfl
      have f3 := (ev_form av 3).symm.trans h3
      refine ⟨rfl, ?_⟩
      simp [go_sem, f3, r0, r1, r2, r3, r4]
    case s10 =>
      refine step_val (v := (.int .u8 y)) (fun av wv hE hS hO hD => ?_) (fun _ => rfl)
      have d20 : av.eval (.tmp 20) = (.pointer (some ⟨tb, 1, none⟩)) := hD.1 rfl _ rfl
      have f20 := (ev_form av 20).symm.trans d20
      have y0 := extB_cell hE (by simp) y0
      have y1 := extB_cell hE (by simp) y1
      have q0 := extB_cell hE (by simp) q0
      refine ⟨rfl, ?_⟩
      simp [go_sem, f20, y0, y1, q0, r0, r1, r2, r3, r4]
    case s11 =>
      refine step_val (v := (.int .u8 z)) (fun av wv hE hS hO hD => ?_) (fun _ => rfl)
      have d19 : av.eval (.tmp 19) = (.int .u8 x) := hD.1 rfl _ rfl
      have f19 := (ev_form av 19).symm.trans d19
      have d21 : av.eval (.tmp 21) = (.int .u8 y) := hD.2.1 rfl _ rfl
      have f21 := (ev_form av 21).symm.trans d21
      refine ⟨rfl, ?_⟩
      simp [go_sem, f19, f21, r0, r1, r2, r3, r4]
    case s12 =>
      refine step_val (v := (.pointer (some ⟨B, k, none⟩))) (fun av wv hE hS hO hD => ?_) (fun _ => rfl)
      have d11 : av.eval (.tmp 11) = (.slice (some ⟨B, 0, none⟩) n cap) := hD.1 rfl _ rfl
      have f11 := (ev_form av 11).symm.trans d11
      have d17 : av.eval (.tmp 17) = (.int .i64 k) := hD.2.1 rfl _ rfl
      have f17 := (ev_form av 17).symm.trans d17
      refine ⟨rfl, ?_⟩
      simp [go_sem, f11, f17, r0, r1, r2, r3, r4]
    intro a' w' hE hO hall
    have hA := act_of_outer (ds := [11, 12, 13, 14, 15, 16, 17, 18, 19, 20, 21, 22, 23]) rfl hO (by kernel_rfl)
    have e11 : (fun u _ => u = (.slice (some ⟨B, 0, none⟩) n cap)) (a'.eval (.tmp 11)) w' := hall.1 _ rfl
    have e12 : (fun u _ => u = (.pointer (some ⟨tb, 0, none⟩))) (a'.eval (.tmp 12)) w' := hall.2.1 _ rfl
    have e13 : (fun u _ => u = (.int .u16 a)) (a'.eval (.tmp 13)) w' := hall.2.2.1 _ rfl
    have e14 : (fun u _ => u = (.int .i64 a)) (a'.eval (.tmp 14)) w' := hall.2.2.2.1 _ rfl
    have e15 : (fun u _ => u = (.slice (some ⟨B, 0, none⟩) n cap)) (a'.eval (.tmp 15)) w' := hall.2.2.2.2.1 _ rfl
    have e16 : (fun u _ => u = (.int .i64 n)) (a'.eval (.tmp 16)) w' := hall.2.2.2.2.2.1 _ rfl
    have e17 : (fun u _ => u = (.int .i64 k)) (a'.eval (.tmp 17)) w' := hall.2.2.2.2.2.2.1 _ rfl
    have e18 : (fun u _ => u = (.pointer (some ⟨B, k, none⟩))) (a'.eval (.tmp 18)) w' := hall.2.2.2.2.2.2.2.1 _ rfl
    have e19 : (fun u _ => u = (.int .u8 x)) (a'.eval (.tmp 19)) w' := hall.2.2.2.2.2.2.2.2.1 _ rfl
    have e20 : (fun u _ => u = (.pointer (some ⟨tb, 1, none⟩))) (a'.eval (.tmp 20)) w' := hall.2.2.2.2.2.2.2.2.2.1 _ rfl
    have e21 : (fun u _ => u = (.int .u8 y)) (a'.eval (.tmp 21)) w' := hall.2.2.2.2.2.2.2.2.2.2.1 _ rfl
    have e22 : (fun u _ => u = (.int .u8 z)) (a'.eval (.tmp 22)) w' := hall.2.2.2.2.2.2.2.2.2.2.2.1 _ rfl
    have e23 : (fun u _ => u = (.pointer (some ⟨B, k, none⟩))) (a'.eval (.tmp 23)) w' := hall.2.2.2.2.2.2.2.2.2.2.2.2.1 _ rfl
    simp only [List.foldl_cons, List.foldl_nil, Act.put, List.setIfInBounds_toArray, List.set_cons_succ, List.set_cons_zero, e11, e12, e13, e14, e15, e16, e17, e18, e19, e20, e21, e22, e23] at hA
    clear hO hall e11 e12 e13 e14 e15 e16 e17 e18 e19 e20 e21 e22 e23
    subst hA
    have hE' := of_drew hE
    clear y0 y1 q0 r0 r1 r2 r3 r4 hE
    have HE := Lib.hid hE'
    have HB1 : Hid (w'.heap[B]? = some (.cells cs 5 fr)) := Lib.hid ((hE'.block B hBl).trans HBK.out)
    have p0 : w'.cell? ⟨B, k, none⟩ = some (.int .u8 x) := (block_cell HB1.out k).trans QK.out
    have p1 : w'.frozen? ⟨B, k, none⟩ = false := by have := FZ.out; unfold World.frozen? at this ⊢; rw [HB1.out]; rw [HBK.out] at this; exact this
    clear hE'
    go_upto_region 4 with fail
    obtain ⟨W2, hW2⟩ : ∃ W2, w'.setCell ⟨B, k, none⟩ (.int .u8 z) = W2 := ⟨_, rfl⟩
    rw [hW2]
    have W2B : Hid (Below w.heap.size w W2) := Lib.hid (by rw [← hW2]; exact bset (bnext WB.out HE.out) HWB.out _)
    have HT := Lib.hid (block_cell (show W2.heap[tb]? = _ by rw [← hW2]; exact block_setCell_ne ((HE.out.block tb (lt_of_block WT.out)).trans WT.out) htB _) 2)
    have HC : Hid (∀ j, j < n → ∃ v, W2.cell? ⟨B, j, none⟩ = some (.int .u8 v)) := Lib.hid (fun j hj => by
      have e := block_cell (show W2.heap[B]? = _ by rw [← hW2]; exact block_setCell HB1.out _) j
      rw [e, Array.getElem?_setIfInBounds]
      by_cases h : k = j
      · subst h
        have := (Array.getElem?_eq_some_iff.1 QK.out).1
        simp [this]
      · rw [if_neg h]; exact ⟨_, HCE.out j hj⟩)
    clear hW2 p0 p1
    rcases Int.lt_or_le st 0 with c1 | c1
    · have b1 : decide (0 ≤ st) = false := by simp; omega
      obtain ⟨t, ht, hcv⟩ := conv_some W2 B n cap HC.out
      have HCV := Lib.hid ht
      have q2 := HT.out
      clear ht
      go_wp2
      go_ret
      exact ⟨t, rfl, by rw [HCV.out, HN.out]; exact Nat.le_refl _, by have := W2B.out; exact this⟩
    · obtain ⟨m, rfl⟩ := Int.eq_ofNat_of_zero_le c1
      have b1 : decide (0 ≤ (m : Int)) = true := by simp
      by_cases c2 : m < n
      · have b2 : decide (m < n) = true := by simp; exact c2
        obtain ⟨t, ht, hcv⟩ := conv_some W2 B m cap (fun j hj => HC.out j (Nat.lt_trans hj c2))
        have HCV := Lib.hid ht
        have q2 := HT.out
        have c3 : m ≤ cap := by have := CAP.out; omega
        have c4 : (cap < m) = False := by simp; omega
        clear ht
        go_wp2
        go_ret
        exact ⟨t, rfl, by rw [HCV.out, HN.out]; omega, by have := W2B.out; exact this⟩
      · have b2 : decide (m < n) = false := by simp; omega
        obtain ⟨t, ht, hcv⟩ := conv_some W2 B n cap HC.out
        have HCV := Lib.hid ht
        have q2 := HT.out
        clear ht
        go_wp2
        go_ret
        exact ⟨t, rfl, by rw [HCV.out, HN.out]; exact Nat.le_refl _, by have := W2B.out; exact this⟩
end Go.Proofs.YtihiaopilnjonaaGreatDoor
namespace Go.Proofs.YtihiaopilnjonaaGreatDoor
open Go.RowKit
set_option linter.unusedSimpArgs false
set_option linter.unusedVariables false
theorem wk_may1 : allMay (partSpecs fullR 300 0 2 3) = true := by kernel_rfl
theorem wk_lay1 : layP (partSpecs fullR 300 0 2 3) = ⟨#[132, 161, 107, 3, 161, 108, 2, 161, 114, 196, 32, 114, 114, 114, 114, 114, 114, 114, 114, 114, 114, 114, 114, 114, 114, 114, 114, 114, 114, 114, 114, 114, 114, 114, 114, 114, 114, 114, 114, 114, 114, 114, 114, 161, 119, 205, 1, 44]⟩ := by kernel_rfl
theorem wk_same1 : ((⟨#[132, 161, 107, 3, 161, 108, 2, 161, 114, 196, 32, 114, 114, 114, 114, 114, 114, 114, 114, 114, 114, 114, 114, 114, 114, 114, 114, 114, 114, 114, 114, 114, 114, 114, 114, 114, 114, 114, 114, 114, 114, 114, 114, 161, 119, 205, 1, 44]⟩ : ByteArray).toList == ((⟨#[132, 161, 107, 3, 161, 108, 2, 161, 114, 196, 32]⟩ : ByteArray) ++ fullR ++ ⟨#[161, 119, 205, 1, 44]⟩).toList) = true := by kernel_rfl
theorem wk_may2 : allMay (slotSpecs 0 false 0 [] []) = true := by kernel_rfl
theorem wk_lay2 : layP (slotSpecs 0 false 0 [] []) = ⟨#[128]⟩ := by kernel_rfl
theorem wk_may3 : allMay (slotSpecs 5 true 0 [] []) = true := by kernel_rfl
theorem wk_lay3 : layP (slotSpecs 5 true 0 [] []) = ⟨#[130, 161, 108, 5, 161, 115, 1]⟩ := by kernel_rfl
theorem wk_may4 : allMay (partSpecs (fullR.extract 1 fullR.size) 0 0 0 0) = false := by kernel_rfl
theorem wk_may5 : allMay (msgSpecs ⟨#[]⟩ ⟨#[]⟩ 0 0 0 0) = false := by kernel_rfl
theorem wk_rd1 : readR ⟨#[128]⟩ (slotGs ⟨#[128]⟩ 0) slot0 = .ok slot0 := by kernel_rfl
theorem wk_rd2 : readR ⟨#[129, 161, 108, 0]⟩ (slotGs ⟨#[129, 161, 108, 0]⟩ 0) slot0 = .error (5, 0) := by kernel_rfl
theorem wk_rd3 : readR ⟨#[130, 161, 115, 1, 161, 108, 5]⟩ (slotGs ⟨#[130, 161, 115, 1, 161, 108, 5]⟩ 0) slot0 = .error (5, 0) := by kernel_rfl
theorem wk_rd4 : readR ⟨#[129, 161, 115, 2]⟩ (slotGs ⟨#[129, 161, 115, 2]⟩ 0) slot0 = .error (5, 0) := by kernel_rfl
theorem wk_rd5 : readR ⟨#[128, 128]⟩ (slotGs ⟨#[128, 128]⟩ 0) slot0 = .error (5, 1) := by kernel_rfl
theorem wk_rd6 : readR ⟨#[128]⟩ (partGs ⟨#[128]⟩ 0) part0 = .error (5, 0) := by kernel_rfl
theorem wk_rd7 : readR ⟨#[]⟩ (partGs ⟨#[]⟩ 0) part0 = .error (4, 0) := by kernel_rfl
theorem wk_rd8 : readR ⟨#[129, 161, 119, 204, 5]⟩ (partGs ⟨#[129, 161, 119, 204, 5]⟩ 0) part0 = .error (5, 3) := by kernel_rfl
def bdS : Nat → ByteArray
  | 0 => ⟨#[129, 161, 108, 0]⟩
  | 1 => ⟨#[130, 161, 115, 1, 161, 108, 5]⟩
  | _ => ⟨#[129, 161, 115, 2]⟩
theorem bdS_rd (m : Nat) : readR (bdS m) (slotGs (bdS m) 0) slot0 = .error (5, 0) := by
  match m with
  | 0 => exact wk_rd2
  | 1 => exact wk_rd3
  | _ + 2 => exact wk_rd4
theorem bdS_size (m : Nat) : (bdS m).size ≤ 9223372036854775807 := by
  match m with
  | 0 => decide
  | 1 => decide
  | _ + 2 => exact (show (4 : Nat) ≤ 9223372036854775807 by decide)
theorem bdS_at (m : Nat) (h : m < 3) : (#[Value.string ⟨#[129, 161, 108, 0]⟩, .string ⟨#[130, 161, 115, 1, 161, 108, 5]⟩, .string ⟨#[129, 161, 115, 2]⟩] : Array Value)[m]? = some (.string (bdS m)) := by
  match m, h with
  | 0, _ => rfl
  | 1, _ => rfl
  | 2, _ => rfl
end Go.Proofs.YtihiaopilnjonaaGreatDoor
namespace Go.Proofs.YtihiaopilnjonaaGreatDoor
open Go.RowKit
set_option linter.unusedSimpArgs false
set_option linter.unusedVariables false
structure TE7 (B : Nat) (w : World) : Prop where
  p : PTab B w
  t : Tabs B w
  e : ErrType w
  s : B ≤ w.heap.size
  g : 0 < B
theorem TE7.below {B : Nat} {w w' : World} (h : TE7 B w) (hb : Below w.heap.size w w') : TE7 B w' := ⟨h.p.keep hb h.s, h.t.below hb, h.e.below hb, Nat.le_trans h.s hb.size, h.g⟩
theorem readSlot_no (B : Nat) (s : ByteArray) (k : Int) (a : Nat) (w : World) (h : TE7 B w) (hs : s.size ≤ 9223372036854775807) (hr : readR s (slotGs s 0) slot0 = .error (k, a)) :
    Calls Tryz.prog 35 #[.string s] w fun e w' => ∃ fb, e = .returned (.tuple #[zeroSlot, .iface 127 (.pointer (some ⟨fb, 0, none⟩))]) ∧ FltB w' fb k a ∧ Below w.heap.size w w' := by
  refine (reaSlot_any B s w h.t h.e h.s h.g hs).mono ?_
  rintro e w' ⟨hb, hh⟩
  rw [hr] at hh
  obtain ⟨fb, he, hf⟩ := hh
  exact ⟨fb, he, hf, hb⟩
theorem readPart_no (B : Nat) (s : ByteArray) (k : Int) (a : Nat) (w : World) (h : TE7 B w) (hs : s.size ≤ 9223372036854775807) (hr : readR s (partGs s 0) part0 = .error (k, a)) :
    Calls Tryz.prog 29 #[.string s] w fun e w' => ∃ fb, e = .returned (.tuple #[zeroPart, .iface 127 (.pointer (some ⟨fb, 0, none⟩))]) ∧ FltB w' fb k a ∧ Below w.heap.size w w' := by
  refine (reaPart_any B s w h.t h.e h.s h.g hs).mono ?_
  rintro e w' ⟨hb, hh⟩
  rw [hr] at hh
  obtain ⟨fb, he, hf⟩ := hh
  exact ⟨fb, he, hf, hb⟩
theorem laid_yes {fs : List FSpec} {s : ByteArray} (h1 : allMay fs = true) (h2 : layP fs = s) {w w' : World} {e : Ending} (h : LaidIs fs w e w') : e = .returned (.tuple #[.string s, .int .i64 0]) ∧ Below w.heap.size w w' := by
  obtain ⟨h3, h4⟩ := h; rw [h1, if_pos rfl, h2] at h3; exact ⟨h3, h4⟩
theorem laid_no {fs : List FSpec} (h1 : allMay fs = false) {w w' : World} {e : Ending} (h : LaidIs fs w e w') : e = .returned (.tuple #[.string ⟨#[]⟩, .int .i64 2]) ∧ Below w.heap.size w w' := by
  obtain ⟨h3, h4⟩ := h; rw [h1, if_neg (by decide)] at h3; exact ⟨h3, h4⟩
set_option maxRecDepth 100000 in
set_option maxHeartbeats 4000000 in
theorem works7_any (B : Nat) (w : World) (h : TE7 B w) : Calls Tryz.prog 32 #[] w fun e w' => e = .returned (.bool true) ∧ Below w.heap.size w w' := by
  have HE := Lib.hid h
  clear h
  have hfs : (1 : Int) ≤ (fullR.size : Int) := by decide
  have hfn : (1 ≤ fullR.size) = True := by decide
  go_enter Tryz.func32, Tryz.ntmps32
  go_wp2_with fail
  refine (full_any w).mono ?_
  rintro e w1 ⟨rfl, hb⟩
  have HB := Lib.hid hb
  have HE := Lib.hid (HE.out.below hb)
  clear hb
  go_wp2_with fail
  refine (wpart_any B fullR 300 0 2 3 w1 HE.out.p (by decide) ⟨by decide, by decide⟩ ⟨by decide, by decide⟩ ⟨by decide, by decide⟩ ⟨by decide, by decide⟩ (by rw [wk_lay1]; decide)).mono ?_
  rintro e w2 hh
  obtain ⟨S1, hS1⟩ : ∃ S, layP (partSpecs fullR 300 0 2 3) = S := ⟨_, rfl⟩
  have HS1 := Lib.hid (hS1.symm.trans wk_lay1)
  obtain ⟨rfl, hb⟩ := laid_yes wk_may1 hS1 hh
  clear hS1
  have tS : (S1.toList == ((⟨#[132, 161, 107, 3, 161, 108, 2, 161, 114, 196, 32]⟩ : ByteArray) ++ fullR ++ ⟨#[161, 119, 205, 1, 44]⟩).toList) = true := by rw [HS1.out]; exact wk_same1
  have HB := Lib.hid (bnext HB.out hb)
  have HE := Lib.hid (HE.out.below hb)
  clear hb hh
  go_wp2_with fail
  refine (wslot_any B 0 false 0 none none 0 0 [] [] w2 HE.out.p (fun i hi => absurd hi (by simp [len])) (fun i hi => absurd hi (by simp [len])) (by decide) (by decide) (by decide) (by decide) (by decide) (by decide) (by rw [wk_lay2]; decide)).mono ?_
  rintro e w3 hh
  obtain ⟨rfl, hb⟩ := laid_yes wk_may2 wk_lay2 hh
  have HB := Lib.hid (bnext HB.out hb)
  have HE := Lib.hid (HE.out.below hb)
  clear hb hh
  go_wp2_with fail
  refine (wslot_any B 5 true 0 none none 0 0 [] [] w3 HE.out.p (fun i hi => absurd hi (by simp [len])) (fun i hi => absurd hi (by simp [len])) (by decide) (by decide) (by decide) (by decide) (by decide) (by decide) (by rw [wk_lay3]; decide)).mono ?_
  rintro e w4 hh
  obtain ⟨rfl, hb⟩ := laid_yes wk_may3 wk_lay3 hh
  have HB := Lib.hid (bnext HB.out hb)
  have HE := Lib.hid (HE.out.below hb)
  clear hb hh
  go_wp2_with fail
  refine (wpart_any B (fullR.extract 1 fullR.size) 0 0 0 0 w4 HE.out.p (by decide) ⟨by decide, by decide⟩ ⟨by decide, by decide⟩ ⟨by decide, by decide⟩ ⟨by decide, by decide⟩ (by decide)).mono ?_
  rintro e w5 hh
  obtain ⟨rfl, hb⟩ := laid_no wk_may4 hh
  have HB := Lib.hid (bnext HB.out hb)
  have HE := Lib.hid (HE.out.below hb)
  clear hb hh
  go_wp2_with fail
  refine (wmsg2_any B ⟨#[]⟩ ⟨#[]⟩ 0 0 0 0 w5 HE.out.p (by decide) (by decide) ⟨by decide, by decide⟩ ⟨by decide, by decide⟩ ⟨by decide, by decide⟩ ⟨by decide, by decide⟩ (by decide)).mono ?_
  rintro e w6 hh
  obtain ⟨rfl, hb⟩ := laid_no wk_may5 hh
  have HB := Lib.hid (bnext HB.out hb)
  have HE := Lib.hid (HE.out.below hb)
  clear hb hh
  go_wp2_with fail
  refine (reaSlot_any B ⟨#[128]⟩ w6 HE.out.t HE.out.e HE.out.s HE.out.g (by decide)).mono ?_
  rintro e w7 ⟨hb, hh⟩
  rw [wk_rd1] at hh
  obtain ⟨-, a3, c3, a4, c4, -, rfl⟩ := hh
  have HB := Lib.hid (bnext HB.out hb)
  have HE := Lib.hid (HE.out.below hb)
  clear hb tS
  go_wp2_with fail
  obtain ⟨sb, hsb⟩ : ∃ sb, w7.heap.size + 1 = sb := ⟨_, rfl⟩
  obtain ⟨W, hW⟩ : ∃ W, (w7.alloc (.cells #[.int .u64 0, .bool false, .int .u64 (slot0 2).n, .slice a3 (len (slot0 3).l) c3, .slice a4 (len (slot0 4).l) c4] 44)).alloc (.cells #[.string ⟨#[129, 161, 108, 0]⟩, .string ⟨#[130, 161, 115, 1, 161, 108, 5]⟩, .string ⟨#[129, 161, 115, 2]⟩] 9) = W := ⟨_, rfl⟩
  have HB : Hid (Below w.heap.size w W) := Lib.hid (by rw [← hW]; exact balloc (balloc HB.out _) _)
  have HE : Hid (TE7 B W) := Lib.hid (by rw [← hW]; exact HE.out.below (balloc (balloc (Below.refl _ _) _) _))
  have HS : Hid (W.heap[sb]? = some (.cells #[.string ⟨#[129, 161, 108, 0]⟩, .string ⟨#[130, 161, 115, 1, 161, 108, 5]⟩, .string ⟨#[129, 161, 115, 2]⟩] 9 (0, 0))) := Lib.hid (by rw [← hW, ← hsb]; exact alloc_new_at _ (by simp))
  rw [hW, hsb]
  clear hW hsb
  go_loopg [15] 3 (fun g i wr => ∃ m : Nat, g + m = 3 ∧ i = .int .i64 m ∧ Hid (Below W.heap.size W wr))
  case atStart => exact ⟨0, rfl, rfl, Below.refl _ _⟩
  case round =>
    obtain ⟨m, hg, rfl, HW⟩ := hrel
    by_cases hlt : m < 3
    · have c0 : wr.cell? ⟨sb, m, none⟩ = some (.string (bdS m)) := (block_cell ((HW.out.block sb (lt_of_block HS.out)).trans HS.out) m).trans (bdS_at m hlt)
      have i1 : decide (m < 3) = true := by simp; exact hlt
      have i2 : (m : Int) < 3 := by omega
      have HEr := Lib.hid (HE.out.below HW.out)
      have HR := Lib.hid (fun w' (h : TE7 B w') => readSlot_no B (bdS m) 5 0 w' h (bdS_size m) (bdS_rd m))
      generalize bdS m = v at c0 HR
      go_wp2_with fail
      refine (HR.out _ HEr.out).mono ?_
      rintro e w8 ⟨fb, rfl, hf, hb⟩
      have HF := Lib.hid hf
      have HB8 := Lib.hid hb
      have HE8 := Lib.hid (HEr.out.below hb)
      clear hb c0 hf
      go_wp2_with fail
      have HE9 := Lib.hid (HE8.out.below (balloc (Below.refl _ _) (.cells #[.int .u64 0, .bool false, .int .u64 0, .slice none 0 0, .slice none 0 0] 44)))
      have HF9 := Lib.hid (HF.out.below (balloc (Below.refl _ _) (.cells #[.int .u64 0, .bool false, .int .u64 0, .slice none 0 0, .slice none 0 0] 44)))
      have HB9 := Lib.hid (balloc (bnext HW.out HB8.out) (.cells #[.int .u64 0, .bool false, .int .u64 0, .slice none 0 0, .slice none 0 0] 44))
      refine (told_fault fb 5 0 _ HE9.out.e HF9.out (by decide) (Nat.lt_of_lt_of_le HE9.out.g HE9.out.s)).mono ?_
      rintro e w9 ⟨rfl, hb⟩
      have HB9 := Lib.hid (bnext HB9.out hb)
      clear hb
      go_wp2
      go_roundg (2 - m)
      case rel => exact ⟨m + 1, by omega, by go_num, HB9⟩
      case measure => omega
    · obtain rfl : m = 3 := by omega
      have HB := Lib.hid (bnext HB.out HW.out)
      have HE := Lib.hid (HE.out.below HW.out)
      clear HW
      go_wp2_with fail
      refine (readSlot_no B ⟨#[128, 128]⟩ 5 1 _ HE.out (by decide) wk_rd5).mono ?_
      rintro e x1 ⟨f1, rfl, hf, hb⟩
      have HB := Lib.hid (balloc (bnext HB.out hb) (.cells #[.int .u64 0, .bool false, .int .u64 0, .slice none 0 0, .slice none 0 0] 44))
      have HE := Lib.hid (HE.out.below (balloc hb (.cells #[.int .u64 0, .bool false, .int .u64 0, .slice none 0 0, .slice none 0 0] 44)))
      have HF1 := Lib.hid (hf.below (balloc (Below.refl _ _) (.cells #[.int .u64 0, .bool false, .int .u64 0, .slice none 0 0, .slice none 0 0] 44)))
      clear hb hf
      go_wp2_with fail
      refine (readPart_no B ⟨#[128]⟩ 5 0 _ HE.out (by decide) wk_rd6).mono ?_
      rintro e x2 ⟨f2, rfl, hf, hb⟩
      have HB := Lib.hid (balloc (bnext HB.out hb) (.cells #[.string ⟨#[]⟩, .int .u64 0, .int .u64 0, .int .u64 0, .int .u64 0] 46))
      have hb' := balloc hb (.cells #[.string ⟨#[]⟩, .int .u64 0, .int .u64 0, .int .u64 0, .int .u64 0] 46)
      have HE := Lib.hid (HE.out.below hb')
      have HF1 := Lib.hid (HF1.out.below hb')
      have HF2 := Lib.hid (hf.below (balloc (Below.refl _ _) (.cells #[.string ⟨#[]⟩, .int .u64 0, .int .u64 0, .int .u64 0, .int .u64 0] 46)))
      clear hb hf hb'
      go_wp2_with fail
      refine (readPart_no B ⟨#[]⟩ 4 0 _ HE.out (by decide) wk_rd7).mono ?_
      rintro e x3 ⟨f3, rfl, hf, hb⟩
      have HB := Lib.hid (balloc (bnext HB.out hb) (.cells #[.string ⟨#[]⟩, .int .u64 0, .int .u64 0, .int .u64 0, .int .u64 0] 46))
      have hb' := balloc hb (.cells #[.string ⟨#[]⟩, .int .u64 0, .int .u64 0, .int .u64 0, .int .u64 0] 46)
      have HE := Lib.hid (HE.out.below hb')
      have HF1 := Lib.hid (HF1.out.below hb')
      have HF2 := Lib.hid (HF2.out.below hb')
      have HF3 := Lib.hid (hf.below (balloc (Below.refl _ _) (.cells #[.string ⟨#[]⟩, .int .u64 0, .int .u64 0, .int .u64 0, .int .u64 0] 46)))
      clear hb hf hb'
      go_wp2_with fail
      refine (readPart_no B ⟨#[129, 161, 119, 204, 5]⟩ 5 3 _ HE.out (by decide) wk_rd8).mono ?_
      rintro e x4 ⟨f4, rfl, hf, hb⟩
      have HB := Lib.hid (balloc (bnext HB.out hb) (.cells #[.string ⟨#[]⟩, .int .u64 0, .int .u64 0, .int .u64 0, .int .u64 0] 46))
      have hb' := balloc hb (.cells #[.string ⟨#[]⟩, .int .u64 0, .int .u64 0, .int .u64 0, .int .u64 0] 46)
      have HE := Lib.hid (HE.out.below hb')
      have HF1 := Lib.hid (HF1.out.below hb')
      have HF2 := Lib.hid (HF2.out.below hb')
      have HF3 := Lib.hid (HF3.out.below hb')
      have HF4 := Lib.hid (hf.below (balloc (Below.refl _ _) (.cells #[.string ⟨#[]⟩, .int .u64 0, .int .u64 0, .int .u64 0, .int .u64 0] 46)))
      clear hb hf hb'
      go_wp2_with fail
      refine (told_fault f1 5 1 _ HE.out.e HF1.out (by decide) (Nat.lt_of_lt_of_le HE.out.g HE.out.s)).mono ?_
      rintro e y1 ⟨rfl, hb⟩
      have HB := Lib.hid (bnext HB.out hb)
      have HE := Lib.hid (HE.out.below hb)
      have HF2 := Lib.hid (HF2.out.below hb)
      have HF3 := Lib.hid (HF3.out.below hb)
      have HF4 := Lib.hid (HF4.out.below hb)
      clear hb
      go_wp2_with fail
      refine (told_fault f2 5 0 _ HE.out.e HF2.out (by decide) (Nat.lt_of_lt_of_le HE.out.g HE.out.s)).mono ?_
      rintro e y2 ⟨rfl, hb⟩
      have HB := Lib.hid (bnext HB.out hb)
      have HE := Lib.hid (HE.out.below hb)
      have HF3 := Lib.hid (HF3.out.below hb)
      have HF4 := Lib.hid (HF4.out.below hb)
      clear hb
      go_wp2_with fail
      refine (told_fault f3 4 0 _ HE.out.e HF3.out (by decide) (Nat.lt_of_lt_of_le HE.out.g HE.out.s)).mono ?_
      rintro e y3 ⟨rfl, hb⟩
      have HB := Lib.hid (bnext HB.out hb)
      have HE := Lib.hid (HE.out.below hb)
      have HF4 := Lib.hid (HF4.out.below hb)
      clear hb
      go_wp2_with fail
      refine (told_fault f4 5 3 _ HE.out.e HF4.out (by decide) (Nat.lt_of_lt_of_le HE.out.g HE.out.s)).mono ?_
      rintro e y4 ⟨rfl, hb⟩
      have HB := Lib.hid (bnext HB.out hb)
      clear hb
      go_wp2
      go_ret
      exact ⟨rfl, HB.out⟩
end Go.Proofs.YtihiaopilnjonaaGreatDoor
namespace Go.Proofs.YtihiaopilnjonaaGreatDoor
set_option linter.unusedSimpArgs false
set_option linter.unusedVariables false
open Go.RowKit
def RefB (w : World) (b : Nat) (s : ByteArray) (a : Nat) (most : Int) : Prop := w.heap[b]? = some (.cells #[.string s, .int .i64 a, .int .i64 most] 210 (0, 0))
end Go.Proofs.YtihiaopilnjonaaGreatDoor
namespace Go.Proofs.YtihiaopilnjonaaGreatDoor
open Go.RowKit
set_option linter.unusedSimpArgs false
set_option linter.unusedVariables false
abbrev Cst := Except Flt Nat
def Cst.flt : Cst → Flt
  | .ok _ => (0, 0)
  | .error f => f
def CurB (w : World) (cb rb : Nat) (f : Flt) : Prop := w.heap[cb]? = some (.cells #[.pointer (some ⟨rb, 0, none⟩), .int .i64 f.1, .int .i64 f.2] 205 (0, 0))
structure CurIs (w : World) (cb rb : Nat) (s : ByteArray) (σ : Cst) : Prop where
  c : CurB w cb rb σ.flt
  ne : cb ≠ rb
  sz : s.size ≤ 140737488355328
  st : match σ with | .ok a => RefB w rb s a 10240 ∧ a ≤ s.size | .error f => f.1 ≠ 0 ∧ ∃ a, RefB w rb s a 10240 ∧ a ≤ s.size
theorem CurIs.below {w w' : World} {cb rb : Nat} {s : ByteArray} {σ : Cst} (h : CurIs w cb rb s σ) (hb : Below w.heap.size w w') : CurIs w' cb rb s σ := by
  refine ⟨(hb.block _ (lt_of_block h.c)).trans h.c, h.ne, h.sz, ?_⟩
  have hs := h.st
  cases σ with
  | ok a => exact ⟨(hb.block _ (lt_of_block hs.1)).trans hs.1, hs.2⟩
  | error f => obtain ⟨h1, a, h2, h3⟩ := hs; exact ⟨h1, a, (hb.block _ (lt_of_block h2)).trans h2, h3⟩
theorem CurIs.rd {w : World} {cb rb : Nat} {s : ByteArray} {σ : Cst} (h : CurIs w cb rb s σ) : ∃ a, RefB w rb s a 10240 ∧ a ≤ s.size := by
  have hs := h.st
  cases σ with
  | ok a => exact ⟨a, hs⟩
  | error f => exact hs.2
theorem CurIs.set {w : World} {cb rb : Nat} {s : ByteArray} {σ : Cst} (h : CurIs w cb rb s σ) (f : Flt) (hf : f.1 ≠ 0) : CurIs ((w.setCell ⟨cb, 1, none⟩ (.int .i64 f.1)).setCell ⟨cb, 2, none⟩ (.int .i64 f.2)) cb rb s (.error f) := by
  obtain ⟨a, h1, h2⟩ := h.rd
  exact ⟨block_setCell (block_setCell h.c _) _, h.ne, h.sz, hf, a, block_setCell_ne (block_setCell_ne h1 (by exact fun e => h.ne e.symm) _) (by exact fun e => h.ne e.symm) _, h2⟩
end Go.Proofs.YtihiaopilnjonaaGreatDoor
namespace Go.Proofs.YtihiaopilnjonaaGreatDoor
open Go.RowKit
set_option linter.unusedSimpArgs false
set_option linter.unusedVariables false
def isKey (all k : ByteArray) (n : Nat) : Bool := (List.range n).any fun i => (all.extract i (i + 1)).toList == k.toList
end Go.Proofs.YtihiaopilnjonaaGreatDoor
namespace Go.Proofs.YtihiaopilnjonaaGreatDoor
open Go.RowKit
set_option linter.unusedSimpArgs false
set_option linter.unusedVariables false
abbrev RStep := Rcd → Cst → Rcd × Cst
theorem CurIs.keep {w w' : World} {cb rb : Nat} {s : ByteArray} {σ : Cst} (h : CurIs w cb rb s σ) (h1 : w'.heap[cb]? = w.heap[cb]?) (h2 : w'.heap[rb]? = w.heap[rb]?) : CurIs w' cb rb s σ := by
  refine ⟨h1.trans h.c, h.ne, h.sz, ?_⟩
  have hst := h.st
  cases σ with
  | ok a => exact ⟨h2.trans hst.1, hst.2⟩
  | error f => obtain ⟨h3, a, h4, h5⟩ := hst; exact ⟨h3, a, h2.trans h4, h5⟩
theorem CurIs.rlt {w : World} {cb rb : Nat} {s : ByteArray} {σ : Cst} (h : CurIs w cb rb s σ) : rb < w.heap.size := by obtain ⟨a, h2, -⟩ := h.rd; exact lt_of_block h2
end Go.Proofs.YtihiaopilnjonaaGreatDoor
namespace Go.Proofs.YtihiaopilnjonaaGreatDoor
open Go.RowKit
set_option linter.unusedSimpArgs false
set_option linter.unusedVariables false
structure StepOk (x0 : Rcd) (g : GSpec) (f : RStep) : Prop where
  good : ∀ x a, fresh x0 g x → match g.read x a with
    | .error e => (f x (.ok a)).2 = .error e
    | .ok y => if g.empty y.1 = true then (f x (.ok a)).2 = .error (5, 0) else f x (.ok a) = (y.1, .ok y.2)
  bad : ∀ x e, (f x (.error e)).2 = .error e
def rth (l : List (UInt8 × RStep)) (i : Nat) : UInt8 × RStep := l.getD i (0, fun x σ => (x, σ))
structure SpecsOk (x0 : Rcd) (all : ByteArray) (specs : List (UInt8 × RStep)) (gs : List GSpec) : Prop where
  len : specs.length = gs.length
  keys : ∀ i, i < gs.length → (gth gs i).key.toList = [(rth specs i).1]
  all : ∀ k : ByteArray, isKey all k all.size = true ↔ ∃ i, i < gs.length ∧ k.toList = [(rth specs i).1]
  rise : ∀ i j, i < j → j < gs.length → (rth specs i).1 < (rth specs j).1
  steps : ∀ i, i < gs.length → StepOk x0 (gth gs i) (rth specs i).2
section
variable {x0 : Rcd} {s all : ByteArray} {specs : List (UInt8 × RStep)} {gs : List GSpec}
theorem SpecsOk.inj (h : SpecsOk x0 all specs gs) {i j : Nat} (hi : i < gs.length) (hj : j < gs.length) (e : (rth specs i).1 = (rth specs j).1) : i = j := by
  rcases Nat.lt_trichotomy i j with h1 | h1 | h1
  · have := h.rise i j h1 hj; rw [e] at this; exact absurd this (UInt8.lt_irrefl _)
  · exact h1
  · have := h.rise j i h1 hi; rw [e] at this; exact absurd this (UInt8.lt_irrefl _)
end
end Go.Proofs.YtihiaopilnjonaaGreatDoor
namespace Go.Proofs.YtihiaopilnjonaaGreatDoor
open Go.RowKit
set_option linter.unusedSimpArgs false
set_option linter.unusedVariables false
theorem Chg.low {rb cb : Nat} {w w1 w' : World} (h : Below w.heap.size w w1) (hc : Chg rb cb w1 w') (h1 : w.heap.size ≤ rb) (h2 : w.heap.size ≤ cb) : Below w.heap.size w w' :=
  ⟨hc.os.trans h.os, hc.tape.trans h.tape, hc.output.trans h.output, Nat.le_trans h.size hc.size, fun i hi => (hc.block i (Nat.lt_of_lt_of_le hi h.size) (by omega) (by omega)).trans (h.block i hi)⟩
end Go.Proofs.YtihiaopilnjonaaGreatDoor
namespace Go.Proofs.YtihiaopilnjonaaGreatDoor
open Go.RowKit
set_option linter.unusedSimpArgs false
set_option linter.unusedVariables false
def pick3 (a b c : ByteArray) : Nat → ByteArray
  | 0 => a
  | 1 => b
  | _ => c
theorem pick3_at (a b c : ByteArray) (m : Nat) (h : m < 3) : (#[Value.string a, .string b, .string c] : Array Value)[m]? = some (.string (pick3 a b c m)) := by
  match m, h with
  | 0, _ => rfl
  | 1, _ => rfl
  | 2, _ => rfl
theorem pick3_size {a b c : ByteArray} {n : Nat} (ha : a.size ≤ n) (hb : b.size ≤ n) (hc : c.size ≤ n) (m : Nat) : (pick3 a b c m).size ≤ n := by
  match m with
  | 0 => exact ha
  | 1 => exact hb
  | _ + 2 => exact hc
def TextOf (fs : List FSpec) : ByteArray := if allMay fs then layP fs else ⟨#[]⟩
def CodeOf (fs : List FSpec) : Int := if allMay fs then 0 else 2
theorem LaidIs.both {fs : List FSpec} {w w' : World} {e : Ending} (h : LaidIs fs w e w') : e = .returned (.tuple #[.string (TextOf fs), .int .i64 (CodeOf fs)]) ∧ Below w.heap.size w w' := by
  obtain ⟨h1, h2⟩ := h
  refine ⟨h1.trans ?_, h2⟩
  unfold TextOf CodeOf
  cases allMay fs <;> rfl
end Go.Proofs.YtihiaopilnjonaaGreatDoor
namespace Go.Proofs.YtihiaopilnjonaaGreatDoor
set_option linter.unusedSimpArgs false
set_option linter.unusedVariables false
open Go.RowKit Go.ChangeShapes Go.WideShapes Go.ChangeAt Go.Deep
section
variable {H : Type} {enc : TypeId × Value → H} {P : Program} {w : World}
theorem below_trodAll (hl : laidOutB P = true) {W W' : World} (hb : Below W.heap.size W W') : ∀ {ts : List TypeId} {vs : List Value} {ds : List (DataW H)} {ps : List MemPlace},
    (∀ t ∈ ts, P.readableRec t = true ∧ t < P.types.size) → DataW.TrodAll enc P W 0 (fun _ => true) true ts vs ds ps → DataW.TrodAll enc P W' 0 (fun b => decide (b < W.heap.size)) true ts vs ds ps
  | [], vs, ds, ps, _, h => by
    obtain ⟨rfl, rfl, rfl⟩ := trodAll_nil h
    exact trodAll_mk0
  | t :: ts, vs, ds, ps, ht, h => by
    obtain ⟨v, vs', d, ds', p, q, rfl, rfl, rfl, h0, r0⟩ := trodAll_cons h
    have lt0 : ∀ x ∈ p, x.block < W.heap.size := by obtain ⟨m, hm⟩ := h0; exact DataW.trod_lt m _ _ _ hm
    exact trodAll_cons_mk (Below.trod hl (ht t (List.mem_cons_self ..)).1 (ht t (List.mem_cons_self ..)).2 h0 hb lt0) (below_trodAll hl hb (fun t' h' => ht t' (List.mem_cons_of_mem _ h')) r0)
theorem list_of {α : Type} {n : Nat} {p : Nat → α → Prop} (h : ∀ i, i < n → ∃ x, p i x) : ∃ l : List α, l.length = n ∧ ∀ i (hi : i < l.length), p i l[i] := by
  induction n with
  | zero => exact ⟨[], rfl, fun i hi => by simp at hi⟩
  | succ n ih =>
    obtain ⟨l, hl, hp⟩ := ih (fun i hi => h i (by omega))
    obtain ⟨x, hx⟩ := h n (by omega)
    refine ⟨l ++ [x], by simp [hl], fun i hi => ?_⟩
    rcases Nat.lt_or_ge i l.length with h' | h'
    · rw [List.getElem_append_left h']; exact hp i h'
    · have e : i = l.length := by simp at hi; omega
      subst e
      simp only [List.getElem_append_right (Nat.le_refl _), Nat.sub_self, List.getElem_cons_zero]
      rw [hl]; exact hx
theorem cell_read {n : Nat} {e : TypeId} {k : IntKind} {v : Value} {y : DataW H × List MemPlace} (he : P.underlying e = some (.int k)) (h : DataW.trod enc P w 0 (fun _ => true) true n e [v] = some y) : ∃ x, v = .int k x ∧ (Lit.int k x).wf = true := by
  obtain ⟨x, hx, _, hw⟩ := DataW.trod_int he h
  exact ⟨x, by simpa using hx, hw⟩
end
end Go.Proofs.YtihiaopilnjonaaGreatDoor
namespace Go.Proofs.YtihiaopilnjonaaGreatDoor
set_option linter.unusedSimpArgs false
set_option linter.unusedVariables false
open Go.RowKit Go.ChangeShapes Go.WideShapes Go.ChangeAt
theorem own : ownKnob Tryz.prog.godebug = none := by kernel_rfl
theorem laidOut : laidOutB Tryz.prog = true := by kernel_rfl
end Go.Proofs.YtihiaopilnjonaaGreatDoor
namespace Go.Proofs.YtihiaopilnjonaaGreatDoor
set_option linter.unusedSimpArgs false
set_option linter.unusedVariables false
open Go.RowKit Go.ChangeShapes Go.WideShapes Go.ChangeAt Go.ChangeMaps
section
variable {P : Program} {H : Type} {enc : TypeId × Value → H} {w : World}
theorem open_str {t : TypeId} (ht : P.underlying t = some .string) {v : Value} {d : DataW H} {p : List MemPlace} {r : Reach} {base : Nat} (hv : Value.okWide P w r base t v) (h : DataW.Trod enc P w 0 (fun _ => true) true t v d p) :
    ∃ s : ByteArray, v = .string s ∧ d = .lit (.string s.data.toList) ∧ p = [] ∧ s.size ≤ 9223372036854775807 := by
  obtain ⟨s, rfl, h1, h2, h3⟩ := open_string ht hv h
  exact ⟨s, rfl, h1, h2, by unfold maxLen at h3; exact h3⟩
end
end Go.Proofs.YtihiaopilnjonaaGreatDoor
namespace Go.Proofs.YtihiaopilnjonaaGreatDoor
open Go.RowKit Go.ChangeShapes Go.WideShapes Go.ChangeAt
set_option linter.unusedSimpArgs false
set_option linter.unusedVariables false
section
variable {P : Program} {H : Type} {enc : TypeId × Value → H} {w : World}
theorem str_readw {n : Nat} {e : TypeId} {v : Value} {y : DataW H × List MemPlace} (he : P.underlying e = some .string) (h : DataW.trod enc P w 0 (fun _ => true) true n e [v] = some y) : ∃ s : ByteArray, v = .string s ∧ s.size ≤ maxLen := by
  obtain ⟨s, hx, _, hw⟩ := DataW.trod_string he h
  exact ⟨s, by simpa using hx, hw⟩
theorem wfi_u64 {n : Int} (h : (Lit.int .u64 n).wf = true) : U64i n := by simp [Lit.wf, IntKind.min, IntKind.max, IntKind.signed, IntKind.bits] at h; unfold U64i; omega
theorem wfi_u16 {n : Int} (h : (Lit.int .u16 n).wf = true) : 0 ≤ n ∧ n ≤ 65535 := by simp [Lit.wf, IntKind.min, IntKind.max, IntKind.signed, IntKind.bits] at h; omega
theorem wfi_u8 {n : Int} (h : (Lit.int .u8 n).wf = true) : 0 ≤ n ∧ n ≤ 255 := by simp [Lit.wf, IntKind.min, IntKind.max, IntKind.signed, IntKind.bits] at h; omega
end
set_option maxRecDepth 100000 in
theorem open_turn {H : Type} {enc : TypeId × Value → H} {w : World} {v : Value} {d : DataW H} {p : List MemPlace} {r : Reach} {base : Nat} (hv : Value.okWide Tryz.prog w r base 55 v) (h : DataW.Trod enc Tryz.prog w 0 (fun _ => true) true 55 v d p) :
    ∃ a y t : Int, v = .agg #[.int .u16 a, .int .u8 y, .int .i64 t] ∧ (0 ≤ a ∧ a ≤ 65535) ∧ (0 ≤ y ∧ y ≤ 255) := by
  obtain ⟨cs', rfl, hsz⟩ := okWide_struct Tryz.underlying55 hv
  have hsz' : cs'.size = 3 := hsz.trans (by kernel_rfl)
  obtain ⟨l⟩ := cs'
  match l, hsz' with
  | [v0, v1, v2], _ =>
    obtain ⟨fuel, hf⟩ := h
    obtain ⟨xs, m, _, _, _, hxl, hx⟩ := DataW.trod_struct Tryz.underlying55 hf
    have hxl' : xs.length = 3 := hxl
    simp only [Value.cells] at hx
    have h0 : DataW.trod enc Tryz.prog w 0 (fun _ => true) true m 53 (([v0, v1, v2].drop 0).take (Tryz.prog.cellsOf 53)) = xs[0]? := hx 0 _ rfl
    rw [show Tryz.prog.cellsOf 53 = 1 by kernel_rfl] at h0
    have h1 : DataW.trod enc Tryz.prog w 0 (fun _ => true) true m 5 (([v0, v1, v2].drop 1).take (Tryz.prog.cellsOf 5)) = xs[1]? := hx 1 _ rfl
    rw [show Tryz.prog.cellsOf 5 = 1 by kernel_rfl] at h1
    have h2 : DataW.trod enc Tryz.prog w 0 (fun _ => true) true m 3 (([v0, v1, v2].drop 2).take (Tryz.prog.cellsOf 3)) = xs[2]? := hx 2 _ rfl
    rw [show Tryz.prog.cellsOf 3 = 1 by kernel_rfl] at h2
    obtain ⟨x0, rfl, w0⟩ := cell_read Tryz.underlying53 (h0.trans (List.getElem?_eq_getElem (show 0 < xs.length by omega)))
    obtain ⟨x1, rfl, w1⟩ := cell_read Tryz.underlying5 (h1.trans (List.getElem?_eq_getElem (show 1 < xs.length by omega)))
    obtain ⟨x2, rfl, w2⟩ := cell_read Tryz.underlying3 (h2.trans (List.getElem?_eq_getElem (show 2 < xs.length by omega)))
    exact ⟨x0, x1, x2, rfl, wfi_u16 w0, wfi_u8 w1⟩
end Go.Proofs.YtihiaopilnjonaaGreatDoor
