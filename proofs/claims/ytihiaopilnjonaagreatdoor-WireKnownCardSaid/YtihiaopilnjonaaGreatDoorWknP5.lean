/- Parts of the proof, one behind the other. -/
import Derived.Test.YtihiaopilnjonaaGreatDoorWknP4
import Derived.Deep.QuietTactic
import Derived.BigQuiet
import Derived.StillTailTactics
import Derived.ChangeMaps5
import Derived.WideShapes
namespace Go.Proofs.YtihiaopilnjonaaGreatDoor
open Go.RowKit
set_option linter.unusedSimpArgs false
set_option linter.unusedVariables false
theorem extB_setIn {w w1 : World} {b : Nat} (h : ExtB (some b) w w1) (o : Nat) (v : Value) : ExtB (some b) w (w1.setCell ⟨b, o, none⟩ v) :=
  ⟨h.os, h.tape, h.output, by simpa using h.size, fun i hi hn => by rw [Below.heap_setCell _ _ _ _ (fun e => hn (by rw [e]))]; exact h.block i hi hn⟩
def Up (rb : Nat) (w w' : World) : Prop := ∀ b, rb < b → b < w.heap.size → w'.heap[b]? = w.heap[b]?
theorem Tx.up {rb tb : Nat} {w w' : World} {a : Option Addr} {l : List ByteArray} (h : Tx w a l) (ho : Off rb tb a) (hu : Up rb w w') : Tx w' a l := h.keep fun b off cs e h2 => hu b (ho b off e).1 (lt_of_block h2)
theorem Ux.up {rb tb : Nat} {w w' : World} {a : Option Addr} {l : List Int} (h : Ux w a l) (ho : Off rb tb a) (hu : Up rb w w') : Ux w' a l := h.keep fun b off cs e h2 => hu b (ho b off e).1 (lt_of_block h2)
theorem RevIs.up {rb tb : Nat} {w w' : World} {r : Rev} {d : RevD} (h : RevIs rb tb w r d) (hu : Up rb w w') : RevIs rb tb w' r d :=
  ⟨h.pos, h.L, h.signed, h.idx, h.wn, h.ws.up h.wo hu, h.wo, h.pn, h.ps.up h.po hu, h.po, h.root, h.wt, h.first, h.life, h.keys⟩
theorem HoldsD.up {rb tb : Nat} {w w' : World} {v : Value} {d : DV} (h : HoldsD rb tb w v d) (hu : Up rb w w') : HoldsD rb tb w' v d := by
  cases d with
  | num n => exact h
  | flag q => exact h
  | str s => exact h
  | strs l => obtain ⟨a, c, h1, h2, h3, h4⟩ := h; exact ⟨a, c, h1, h2, h3, h4.up h3 hu⟩
  | nums l => obtain ⟨a, c, h1, h2, h3, h4⟩ := h; exact ⟨a, c, h1, h2, h3, h4.up h3 hu⟩
  | revs l =>
    obtain ⟨a, c, h1, h2, h3, rs, h4, h5, h6⟩ := h
    refine ⟨a, c, h1, h2, h3, rs, h4, fun i hi => ?_, fun i hi => (h6 i hi).up hu⟩
    obtain ⟨b, off, rfl, hc⟩ := h5 i hi
    have e : ∀ q, w'.cell? ⟨b, q, none⟩ = w.cell? ⟨b, q, none⟩ := fun q => World.cell?_of_block (w := w) (hu b (h3 b off rfl).1 (lt_of_cell hc.c0))
    obtain ⟨c0, c1, c2, c3, c4, c5, c6, c7, c8, c9, c10⟩ := hc
    exact ⟨b, off, rfl, by constructor <;> (rw [e]; assumption)⟩
theorem arr5 {cs : Array Value} (h : cs.size = 5) : ∃ u0 u1 u2 u3 u4 : Value, cs = #[u0, u1, u2, u3, u4] := by
  obtain ⟨l⟩ := cs
  match l, h with
  | [a, b, c, d, e], _ => exact ⟨a, b, c, d, e, rfl⟩
theorem arr6 {cs : Array Value} (h : cs.size = 6) : ∃ u0 u1 u2 u3 u4 u5 : Value, cs = #[u0, u1, u2, u3, u4, u5] := by
  obtain ⟨l⟩ := cs
  match l, h with
  | [a, b, c, d, e, f], _ => exact ⟨a, b, c, d, e, f, rfl⟩
theorem assert_stop (f : Nat) (w : World) : (Instr.typeAssert (.iface 193 (.agg #[.iface 127 (.pointer (some ⟨f, 0, none⟩))])) 20 193 true).run Tryz.prog w = .ok (.tuple #[.agg #[.iface 127 (.pointer (some ⟨f, 0, none⟩))], .bool true]) w := by kernel_rfl
set_option maxRecDepth 100000 in
theorem read1_frame (p q x : Value) : #[p, q] ++ ((Array.replicate 18 undef).setIfInBounds 4 x).setIfInBounds 0 x = #[p, q, x, undef, undef, undef, x, undef, undef, undef, undef, undef, undef, undef, undef, undef, undef, undef, undef, undef] := by
  simp [Array.replicate, List.replicate]
abbrev cellsPart (x : Rcd) : Array Value := #[.string (x 0).s, .int .u64 (x 1).n, .int .u64 (x 2).n, .int .u64 (x 3).n, .int .u64 (x 4).n]
abbrev zeroPart : Value := .agg #[.string ⟨#[]⟩, .int .u64 0, .int .u64 0, .int .u64 0, .int .u64 0]
def LiesPart (rb tb : Nat) (w : World) (x : Rcd) : Prop := True
theorem LiesPart.below {rb tb : Nat} {w w' : World} {x : Rcd} (h : LiesPart rb tb w x) (hb : Below w.heap.size w w') : LiesPart rb tb w' x := trivial
theorem LiesPart.chg {rb tb : Nat} {w w' : World} {x : Rcd} (h : LiesPart rb tb w x) (hb : Chg rb tb w w') : LiesPart rb tb w' x := trivial
theorem LiesPart.up {rb tb : Nat} {w w' : World} {x : Rcd} (h : LiesPart rb tb w x) (hb : Up rb w w') : LiesPart rb tb w' x := trivial
theorem part_of_rec {rb tb : Nat} {w : World} {x : Rcd} (h : RecAt rb tb 46 5 w x) (hk : Kd part0 x) : ∃ (_ : Unit), w.heap[tb]? = some (.cells (cellsPart x) 46 (0, 0)) ∧ LiesPart rb tb w x := by
  obtain ⟨cs, h1, h2, h3⟩ := h
  obtain ⟨m0, e0⟩ := hk.str (show kindD (part0 0) = _ from rfl)
  obtain ⟨u0, g0, d0⟩ := h3 0 (by decide)
  rw [e0] at d0
  simp only [HoldsD] at d0
  subst d0
  obtain ⟨m1, e1⟩ := hk.num (show kindD (part0 1) = _ from rfl)
  obtain ⟨u1, g1, d1⟩ := h3 1 (by decide)
  rw [e1] at d1
  simp only [HoldsD] at d1
  subst d1
  obtain ⟨m2, e2⟩ := hk.num (show kindD (part0 2) = _ from rfl)
  obtain ⟨u2, g2, d2⟩ := h3 2 (by decide)
  rw [e2] at d2
  simp only [HoldsD] at d2
  subst d2
  obtain ⟨m3, e3⟩ := hk.num (show kindD (part0 3) = _ from rfl)
  obtain ⟨u3, g3, d3⟩ := h3 3 (by decide)
  rw [e3] at d3
  simp only [HoldsD] at d3
  subst d3
  obtain ⟨m4, e4⟩ := hk.num (show kindD (part0 4) = _ from rfl)
  obtain ⟨u4, g4, d4⟩ := h3 4 (by decide)
  rw [e4] at d4
  simp only [HoldsD] at d4
  subst d4
  refine ⟨(), ?_, ?_⟩
  · rw [h1]; congr 2; apply Array.ext_getElem?; intro i
    match i with
    | 0 => rw [g0]; simp [e0, DV.n, DV.q, DV.s, DV.l, DV.ns, DV.rs]
    | 1 => rw [g1]; simp [e1, DV.n, DV.q, DV.s, DV.l, DV.ns, DV.rs]
    | 2 => rw [g2]; simp [e2, DV.n, DV.q, DV.s, DV.l, DV.ns, DV.rs]
    | 3 => rw [g3]; simp [e3, DV.n, DV.q, DV.s, DV.l, DV.ns, DV.rs]
    | 4 => rw [g4]; simp [e4, DV.n, DV.q, DV.s, DV.l, DV.ns, DV.rs]
    | i + 5 => rw [Array.getElem?_eq_none (by omega), Array.getElem?_eq_none (by simp)]
  · trivial
set_option maxRecDepth 100000 in
theorem read1Part_idle (p q : Value) (w : World) : CallsD Tryz.prog 121 #[p, q] .returning w fun e u' w' => e = .returned (.tuple #[]) ∧ u' = .returning ∧ w' = w := by
  refine callsD_of_wpS Tryz.func121 rfl fun c₀ cs hu => ?_
  apply wpS_seq
  apply wpS_region
  simp [wpOpsS, go_sem, recoverD, hu, Tryz.ntmps121, Exit.thenS]
  refine wpS_of_wp ?_
  obtain ⟨Q, hQ⟩ : ∃ Q : Exit → Act → World → Prop, (fun e a' w' => bodyPostS Tryz.prog Tryz.f121 c₀ cs (fun e u' w' => e = Ending.returned (.tuple #[]) ∧ u' = .returning ∧ w' = w) e a' (c₀ :: cs) w') = Q := ⟨_, rfl⟩
  rw [hQ, read1_frame]
  have HQ := Lib.hid hQ
  clear hQ
  go_wp2
  rw [← HQ.out]
  simp [bodyPostS, results, Tryz.results121]
  cases c₀; simp_all
structure AfterPart (tb eb fb : Nat) (w w' : World) : Prop where
  os : w'.os = w.os
  tape : w'.tape = w.tape
  output : w'.output = w.output
  size : w.heap.size ≤ w'.heap.size
  block : ∀ i, i < w.heap.size → i ≠ tb → i ≠ eb → w'.heap[i]? = w.heap[i]?
  th : w'.heap[tb]? = some (.cells #[.string ⟨#[]⟩, .int .u64 0, .int .u64 0, .int .u64 0, .int .u64 0] 46 (0, 0))
  er : w'.heap[eb]? = some (.cells #[.iface 127 (.pointer (some ⟨fb, 0, none⟩))] 59 (0, 0))
set_option maxRecDepth 100000 in
set_option maxHeartbeats 4000000 in
theorem read1Part_some (tb eb fb : Nat) (cs : Array Value) (w : World) (ht : w.heap[tb]? = some (.cells cs 46 (0, 0))) (hcs : ∃ u0 u1 u2 u3 u4 : Value, cs = #[u0, u1, u2, u3, u4] ) (he : w.heap[eb]? = some (.cells #[.nilIface] 59 (0, 0))) (hne : tb ≠ eb) :
    CallsD Tryz.prog 121 #[.pointer (some ⟨tb, 0, none⟩), .pointer (some ⟨eb, 0, none⟩)] (.panicking (stopC fb)) w fun e u' w' =>
      e = .returned (.tuple #[]) ∧ u' = .panicking [{ v := .iface 193 (.agg #[.iface 127 (.pointer (some ⟨fb, 0, none⟩))]), recovered := true }] ∧ AfterPart tb eb fb w w' := by
  obtain ⟨u0, u1, u2, u3, u4, rfl⟩ := hcs
  refine callsD_of_wpS Tryz.func121 rfl fun c₀ cs hu => ?_
  apply wpS_seq
  apply wpS_region
  simp [wpOpsS, go_sem, recoverD, hu, stopC, Tryz.ntmps121, Exit.thenS]
  refine wpS_of_wp ?_
  obtain ⟨Q, hQ⟩ : ∃ Q : Exit → Act → World → Prop, (fun e a' w' => bodyPostS Tryz.prog Tryz.f121 c₀ cs (fun e u' w' => e = Ending.returned (.tuple #[]) ∧ u' = .panicking [{ v := .iface 193 (.agg #[.iface 127 (.pointer (some ⟨fb, 0, none⟩))]), recovered := true }] ∧ AfterPart tb eb fb w w') e a' ({ c₀ with mode := .panicking [{ v := .iface 193 (.agg #[.iface 127 (.pointer (some ⟨fb, 0, none⟩))]), recovered := true }] } :: cs) w') = Q := ⟨_, rfl⟩
  rw [hQ, read1_frame]
  have HQ := Lib.hid hQ
  have HT := Lib.hid ht
  have HE := Lib.hid he
  clear hQ hu ht he
  have ha := assert_stop fb
  go_wp2_with fail
  obtain ⟨V, hV⟩ : ∃ V, (w.alloc (.cells #[.iface 127 (.pointer (some ⟨fb, 0, none⟩))] 193)).alloc (.cells #[.string ⟨#[]⟩, .int .u64 0, .int .u64 0, .int .u64 0, .int .u64 0] 46) = V := ⟨_, rfl⟩
  obtain ⟨sb, hsb⟩ : ∃ sb, w.heap.size = sb := ⟨_, rfl⟩
  have HV : Hid (Below w.heap.size w V) := Lib.hid (by rw [← hV]; exact balloc (balloc (Below.refl _ _) _) _)
  have hbs : V.heap[sb]? = some (.cells #[.iface 127 (.pointer (some ⟨fb, 0, none⟩))] 193 (0, 0)) := by rw [← hV, ← hsb]; exact block_alloc (heap_alloc_new _ _) _
  have hbn : V.heap[sb + 1]? = some (.cells #[.string ⟨#[]⟩, .int .u64 0, .int .u64 0, .int .u64 0, .int .u64 0] 46 (0, 0)) := by rw [← hV]; exact alloc_new_at _ (by simp [hsb])
  have hbt : V.heap[tb]? = some (.cells #[u0, u1, u2, u3, u4] 46 (0, 0)) := (HV.out.block _ (lt_of_block HT.out)).trans HT.out
  have hbe : V.heap[eb]? = some (.cells #[.nilIface] 59 (0, 0)) := (HV.out.block _ (lt_of_block HE.out)).trans HE.out
  have k0 : V.cell? ⟨sb, 0, none⟩ = some (.iface 127 (.pointer (some ⟨fb, 0, none⟩))) := block_cell hbs 0
  have m0 : V.cell? ⟨sb + 1, 0, none⟩ = some (.string ⟨#[]⟩) := block_cell hbn 0
  have m1 : V.cell? ⟨sb + 1, 1, none⟩ = some (.int .u64 0) := block_cell hbn 1
  have m2 : V.cell? ⟨sb + 1, 2, none⟩ = some (.int .u64 0) := block_cell hbn 2
  have m3 : V.cell? ⟨sb + 1, 3, none⟩ = some (.int .u64 0) := block_cell hbn 3
  have m4 : V.cell? ⟨sb + 1, 4, none⟩ = some (.int .u64 0) := block_cell hbn 4
  have hts : tb < sb := by have := lt_of_block HT.out; omega
  have hnt : some (sb + 1) ≠ some tb := by simp; omega
  have hst : some sb ≠ some tb := by simp; omega
  have HBT := Lib.hid hbt
  have HBE := Lib.hid hbe
  try rw [hV]
  try simp only [hsb]
  clear hV hbs hbn hbt hbe ha
  refine wp_region_tail 4 3 ((some tb)) (phis [fun u _ => u = (.agg #[.string ⟨#[]⟩, .int .u64 0, .int .u64 0, .int .u64 0, .int .u64 0]), fun u _ => u = (.pointer (some ⟨sb, 0, none⟩)), fun u _ => u = (.iface 127 (.pointer (some ⟨fb, 0, none⟩))), fun _ w' => w'.heap[tb]? = some (.cells #[.string ⟨#[]⟩, .int .u64 0, .int .u64 0, .int .u64 0, .int .u64 0] 46 (0, 0))]) rfl (by kernel_rfl) (by kernel_rfl) (mono_of ⟨mono_eq, mono_eq, mono_eq, ?m3, trivial⟩) (steps_of 4 ⟨?s0, ?s1, ?s2, ?s3, trivial⟩) ?_
  case m3 =>
    exact ⟨fun u w1 w2 h hb => ext_block h hb, fun hn => absurd rfl hn⟩
  case s0 =>
    refine step_val (v := (.agg #[.string ⟨#[]⟩, .int .u64 0, .int .u64 0, .int .u64 0, .int .u64 0])) (fun av wv hE hS hO hD => ?_) (fun _ => rfl)
    have h5 : av.eval (.tmp 5) = (.pointer (some ⟨sb + 1, 0, none⟩)) := hO.2.2 5 rfl
    have f5 := (ev_form av 5).symm.trans h5
    have k0 := extB_cell hE hst k0
    have m0 := extB_cell hE hnt m0
    have m1 := extB_cell hE hnt m1
    have m2 := extB_cell hE hnt m2
    have m3 := extB_cell hE hnt m3
    have m4 := extB_cell hE hnt m4
    refine ⟨rfl, ?_⟩
    simp [go_sem, f5, k0, m0, m1, m2, m3, m4]
  case s1 =>
    refine step_val (v := (.pointer (some ⟨sb, 0, none⟩))) (fun av wv hE hS hO hD => ?_) (fun _ => rfl)
    have h3 : av.eval (.tmp 3) = (.pointer (some ⟨sb, 0, none⟩)) := hO.2.2 3 rfl
    have f3 := (ev_form av 3).symm.trans h3
    refine ⟨rfl, ?_⟩
    simp [go_sem, f3]
  case s2 =>
    refine step_val (v := (.iface 127 (.pointer (some ⟨fb, 0, none⟩)))) (fun av wv hE hS hO hD => ?_) (fun _ => rfl)
    have d18 : av.eval (.tmp 18) = (.pointer (some ⟨sb, 0, none⟩)) := hD.1 rfl _ rfl
    have f18 := (ev_form av 18).symm.trans d18
    have k0 := extB_cell hE hst k0
    have m0 := extB_cell hE hnt m0
    have m1 := extB_cell hE hnt m1
    have m2 := extB_cell hE hnt m2
    have m3 := extB_cell hE hnt m3
    have m4 := extB_cell hE hnt m4
    refine ⟨rfl, ?_⟩
    simp [go_sem, f18, k0, m0, m1, m2, m3, m4]
  case s3 =>
    refine step_wp (fun av wv hE hS hO hD => ?_)
    have h0 : av.eval (.tmp 0) = (.pointer (some ⟨tb, 0, none⟩)) := hO.2.2 0 rfl
    have f0 := (ev_form av 0).symm.trans h0
    have d17 : av.eval (.tmp 17) = (.agg #[.string ⟨#[]⟩, .int .u64 0, .int .u64 0, .int .u64 0, .int .u64 0]) := hD.1 rfl _ rfl
    have f17 := (ev_form av 17).symm.trans d17
    refine ⟨rfl, ?_⟩
    have hq : wv.heap[tb]? = some (.cells #[u0, u1, u2, u3, u4] 46 (0, 0)) := ext_block (w := V.drew) (hS rfl) HBT.out
    have q0 : wv.cell? ⟨tb, 0, none⟩ = some u0 := block_cell hq 0
    have q1 : wv.cell? ⟨tb, 1, none⟩ = some u1 := block_cell hq 1
    have q2 : wv.cell? ⟨tb, 2, none⟩ = some u2 := block_cell hq 2
    have q3 : wv.cell? ⟨tb, 3, none⟩ = some u3 := block_cell hq 3
    have q4 : wv.cell? ⟨tb, 4, none⟩ = some u4 := block_cell hq 4
    have hz : ∀ o, wv.frozen? ⟨tb, o, none⟩ = false := block_free hq
    unfold Oper.wp
    have l0 : tb < wv.heap.size := lt_of_block hq
    have h0 : av.eval (.tmp 0) = (.pointer (some ⟨tb, 0, none⟩)) := hO.2.2 0 rfl
    have f0 := (ev_form av 0).symm.trans h0
    simp [go_sem, f0, f17, hz, l0, q0, q1, q2, q3, q4]
    exact ⟨es_sp (extB_setIn (extB_setIn (extB_setIn (extB_setIn (extB_setIn (ExtB_refl _ _) 0 _) 1 _) 2 _) 3 _) 4 _), undef, (block_setCell (block_setCell (block_setCell (block_setCell (block_setCell hq (o := 0) _) (o := 1) _) (o := 2) _) (o := 3) _) (o := 4) _)⟩
  intro a' w' hE hO hall
  have hA := act_of_outer (ds := [17, 18, 19]) rfl hO (by kernel_rfl)
  have e17 : (fun u _ => u = (.agg #[.string ⟨#[]⟩, .int .u64 0, .int .u64 0, .int .u64 0, .int .u64 0])) (a'.eval (.tmp 17)) w' := hall.1 _ rfl
  have e18 : (fun u _ => u = (.pointer (some ⟨sb, 0, none⟩))) (a'.eval (.tmp 18)) w' := hall.2.1 _ rfl
  have e19 : (fun u _ => u = (.iface 127 (.pointer (some ⟨fb, 0, none⟩)))) (a'.eval (.tmp 19)) w' := hall.2.2.1 _ rfl
  have z3 : (fun _ w' => w'.heap[tb]? = some (.cells #[.string ⟨#[]⟩, .int .u64 0, .int .u64 0, .int .u64 0, .int .u64 0] 46 (0, 0))) undef w' := hall.2.2.2.1 _ rfl
  simp only [List.foldl_cons, List.foldl_nil, Act.put, List.setIfInBounds_toArray, List.set_cons_succ, List.set_cons_zero, e17, e18, e19] at hA
  clear hO hall e17 e18 e19
  subst hA
  have HE := Lib.hid (of_drewE hE)
  have HZ := Lib.hid z3
  have hbe : w'.heap[eb]? = some (.cells #[.nilIface] 59 (0, 0)) := extB_block HE.out (by simp; exact fun e => hne e.symm) HBE.out
  have HBE := Lib.hid hbe
  have q0 : w'.cell? ⟨eb, 0, none⟩ = some .nilIface := block_cell hbe 0
  have q1 : w'.frozen? ⟨eb, 0, none⟩ = false := block_free hbe 0
  clear hE z3 hbe
  go_wp2
  rw [← HQ.out]
  have hs1 : (w'.setCell ⟨eb, 0, none⟩ (.iface 127 (.pointer (some ⟨fb, 0, none⟩)))).heap.size = w'.heap.size := by simp
  refine ⟨rfl, _, rfl, .tuple #[], by simp [results, Tryz.results121], rfl, rfl, ?_⟩
  exact ⟨HE.out.os.trans HV.out.os, HE.out.tape.trans HV.out.tape, HE.out.output.trans HV.out.output, by rw [hs1]; exact Nat.le_trans HV.out.size HE.out.size, fun i hi h1 h2 => by
    rw [Below.heap_setCell _ _ _ _ h2]
    exact (HE.out.block i (Nat.lt_of_lt_of_le hi HV.out.size) (by simpa using h1)).trans (HV.out.block i hi), block_setCell_ne HZ.out hne _, block_setCell HBE.out _⟩
def RdPart (s : ByteArray) (w : World) (e : Ending) (w' : World) : Prop :=
  Below w.heap.size w w' ∧ match objR s (partGs s 0) part0 0 with
    | .error f => ∃ fb, e = .returned (.tuple #[zeroPart, .iface 127 (.pointer (some ⟨fb, 0, none⟩))]) ∧ FltB w' fb f.1 f.2
    | .ok y => Kd part0 y.1 ∧ y.2 ≤ s.size ∧ (∃ rb tb, w.heap.size ≤ rb ∧ LiesPart rb tb w' y.1) ∧ (if y.2 < s.size then ∃ fb, e = .returned (.tuple #[.agg (cellsPart y.1), .iface 127 (.pointer (some ⟨fb, 0, none⟩))]) ∧ FltB w' fb 5 y.2 else e = .returned (.tuple #[.agg (cellsPart y.1), .nilIface]))
set_option maxRecDepth 100000 in
set_option maxHeartbeats 8000000 in
theorem readPart_any (B : Nat) (s : ByteArray) (w : World) (hT : Tabs B w) (hET : ErrType w) (hB : B ≤ w.heap.size) (hg : 0 < B) (hs : s.size ≤ 9223372036854775807) :
    Calls Tryz.prog 67 #[.string s, .func (.func 62) #[] #[]] w (RdPart s w) := by
  have HT := Lib.hid hT
  have HET := Lib.hid hET
  have ef := enters_of Tryz.func62 (by kernel_rfl) rfl
  clear hT hET
  go_enter_defers Tryz.func67, Tryz.ntmps67
  go_wp2_with fail
  obtain ⟨tb, htb⟩ : ∃ tb, w.heap.size = tb := ⟨_, rfl⟩
  obtain ⟨W, hW⟩ : ∃ W, (w.alloc (.cells #[.string ⟨#[]⟩, .int .u64 0, .int .u64 0, .int .u64 0, .int .u64 0] 46)).alloc (.cells #[.nilIface] 59) = W := ⟨_, rfl⟩
  have WB : Hid (Below w.heap.size w W) := Lib.hid (by rw [← hW]; exact balloc (balloc (Below.refl _ _) _) _)
  have W0 : Hid (W.heap[tb]? = some (.cells #[.string ⟨#[]⟩, .int .u64 0, .int .u64 0, .int .u64 0, .int .u64 0] 46 (0, 0))) := Lib.hid (by rw [← hW, ← htb]; exact block_alloc (heap_alloc_new _ _) _)
  have W1 : Hid (W.heap[tb + 1]? = some (.cells #[.nilIface] 59 (0, 0))) := Lib.hid (by rw [← hW]; exact alloc_new_at _ (by simp [htb]))
  have hWs : W.heap.size = tb + 1 + 1 := by rw [← hW]; simp [htb]
  have HTW : Hid (w.heap.size = tb) := Lib.hid htb
  try rw [hW]
  try simp only [htb]
  clear hW htb
  refine (New_any W s 10240).mono ?_
  rintro e w1 ⟨rfl, hw1⟩
  have hm : max (10240 : Int) 0 = 10240 := by decide
  rw [hm] at hw1
  obtain ⟨rb, hrb⟩ : ∃ rb, W.heap.size = rb := ⟨_, rfl⟩
  have R1 : Hid (RdB w1 rb s 0 10240) := Lib.hid (by rw [hw1, ← hrb]; exact heap_alloc_new _ _)
  have WB1 : Hid (Below W.heap.size W w1) := Lib.hid (by rw [hw1]; exact balloc (Below.refl _ _) _)
  have hs1 : w1.heap.size = rb + 1 := by rw [hw1, ← hrb]; simp
  try rw [hrb]
  clear hw1
  go_upto_region 3 with fail
  obtain ⟨V, hV⟩ : ∃ V, w1.alloc (.cells #[.pointer (some ⟨rb, 0, none⟩)] 199) = V := ⟨_, rfl⟩
  have VB : Hid (Below w1.heap.size w1 V) := Lib.hid (by rw [← hV]; exact balloc (Below.refl _ _) _)
  have VQ : Hid (V.heap[rb + 1]? = some (.cells #[.pointer (some ⟨rb, 0, none⟩)] 199 (0, 0))) := Lib.hid (by rw [← hV]; exact alloc_new_at _ hs1)
  try rw [hV]
  try simp only [hs1]
  have hrbt : rb = tb + 1 + 1 := hrb.symm.trans hWs
  have hTW := HTW.out
  have BV : Hid (Below w.heap.size w V) := Lib.hid (bnext (bnext WB.out WB1.out) VB.out)
  have WV : Hid (Below W.heap.size W V) := Lib.hid (bnext WB1.out VB.out)
  have VT : Hid (V.heap[tb]? = some (.cells #[.string ⟨#[]⟩, .int .u64 0, .int .u64 0, .int .u64 0, .int .u64 0] 46 (0, 0))) := Lib.hid ((WV.out.block _ (lt_of_block W0.out)).trans W0.out)
  have VE : Hid (V.heap[tb + 1]? = some (.cells #[.nilIface] 59 (0, 0))) := Lib.hid ((WV.out.block _ (lt_of_block W1.out)).trans W1.out)
  have VR : Hid (RdB V rb s 0 10240) := Lib.hid (R1.out.below VB.out)
  have ENV : Hid (RdEnv B V (rb + 1) rb s 0) := Lib.hid ⟨VQ.out, VR.out, HT.out.below BV.out, by omega, by omega, by omega, Nat.zero_le _, hs⟩
  have E : TEnv B (rb + 1) rb tb 5 46 V := ⟨⟨_, VR.out⟩, ⟨_, VT.out⟩, by omega, by omega, by omega, by decide, by decide⟩
  have REC : Hid (RecAt rb tb 46 5 V part0) := Lib.hid (rec_zero VT.out rfl (fun i hi => by
    match i, hi with
    | 0, _ => exact ⟨_, rfl, rfl⟩
    | 1, _ => exact ⟨_, rfl, rfl⟩
    | 2, _ => exact ⟨_, rfl, rfl⟩
    | 3, _ => exact ⟨_, rfl, rfl⟩
    | 4, _ => exact ⟨_, rfl, rfl⟩))
  have HOF := Lib.hid (rofPart_any (x0 := part0) (s := s) E 0 (by omega) ⟨rfl, rfl, rfl, rfl, rfl⟩)
  have HE := Lib.hid E
  have G : Hid (GOk part0 (partGs s 0)) := Lib.hid (PartOk s 0 ⟨rfl, rfl, rfl, rfl, rfl⟩)
  have HRBT := Lib.hid hrbt
  clear hV E hrb hs1 hWs hrbt hTW
  go_wp2_with fail
  refine HOF.out.mono ?_
  rintro e w2 ⟨u, rfl, ⟨g, c, l, rfl, hc, hF, hS⟩, hb⟩
  have hl : (partGs s 0).length = l.length := hS.1
  have hg := (HE.out.below hb).apart hF.ex
  have H2 := Lib.hid (robject_any B (rb + 1) rb tb g 0 c part0 46 5 s w2 w2 l (partGs s 0) 0 part0 hF.flds hc (show l.length ≤ 1000 by rw [← hl]; exact Nat.le_of_ble_eq_true rfl) hS (Chg.refl _ _ _) hg HE.out.nq HE.out.le HE.out.ne G.out.keys G.out.disj G.out.frames G.out.kinds (fun i => rfl) (REC.out.below hb) (ENV.out.below hb) (fun i hi o ho => rfl))
  have HB := Lib.hid hb
  clear hF hS hb hl hc hg HOF ef
  go_wp2_with fail
  refine H2.out.mono ?_
  intro e w3 hh
  cases hr : objR s (partGs s 0) part0 0 with
  | error f =>
    rw [hr] at hh
    have HTH := Lib.hid (getIs_th hh)
    obtain ⟨fb, rfl, hf, hc3⟩ := getIs_err hh
    have HF := Lib.hid hf
    have HC := Lib.hid hc3
    have HR := Lib.hid hr
    clear hh hf hc3 hr H2
    go_wp2
    obtain ⟨cs, hcs, hcn⟩ := HTH.out
    have hce : w3.heap[tb + 1]? = some (.cells #[.nilIface] 59 (0, 0)) := (HC.out.block _ (Nat.lt_of_lt_of_le (lt_of_block VE.out) HB.out.size) (by have := HRBT.out; omega) (by omega)).trans ((HB.out.block _ (lt_of_block VE.out)).trans VE.out)
    refine leaves_cons (f := 121) (args := #[.pointer (some ⟨tb, 0, none⟩), .pointer (some ⟨tb + 1, 0, none⟩)]) (by simp) (by simp [go_sem]) ?_
    refine (read1Part_some tb (tb + 1) fb cs w3 hcs (arr5 hcn) hce (by omega)).mono ?_
    rintro e u' w4 ⟨rfl, rfl, HA⟩
    have y0 : ∀ o, w4.cell? ⟨tb, o, none⟩ = _ := block_cell HA.th
    have y1 : w4.cell? ⟨tb + 1, 0, none⟩ = some (.iface 127 (.pointer (some ⟨fb, 0, none⟩))) := block_cell HA.er 0
    refine ⟨_, by simp [results, Tryz.results67, go_sem, y0, y1]; rfl, ?_⟩
    refine ⟨?_, by
      rw [HR.out]
      refine ⟨fb, rfl, (HA.block fb (lt_of_block HF.out) (fun e => ?_) (fun e => ?_)).trans HF.out⟩
      · subst e; have h9 := hcs.symm.trans HF.out; cases h9
      · subst e; have h9 := hce.symm.trans HF.out; cases h9⟩
    have hsz := HTW.out
    have hb9 := HRBT.out
    refine ⟨HA.os.trans (HC.out.os.trans (HB.out.os.trans BV.out.os)), HA.tape.trans (HC.out.tape.trans (HB.out.tape.trans BV.out.tape)), HA.output.trans (HC.out.output.trans (HB.out.output.trans BV.out.output)), Nat.le_trans BV.out.size (Nat.le_trans HB.out.size (Nat.le_trans HC.out.size HA.size)), fun i hi => ?_⟩
    have l1 := Nat.lt_of_lt_of_le hi BV.out.size
    have l2 := Nat.lt_of_lt_of_le l1 HB.out.size
    exact (HA.block i (Nat.lt_of_lt_of_le l2 HC.out.size) (by omega) (by omega)).trans ((HC.out.block i l2 (by omega) (by omega)).trans ((HB.out.block i l1).trans (BV.out.block i hi)))
  | ok q =>
    rw [hr] at hh
    obtain ⟨rfl, hrd, hle, hx3, hc3⟩ := getIs_ok hh
    have HRD := Lib.hid hrd
    have HC := Lib.hid hc3
    have HR := Lib.hid hr
    have HKD : Hid (Kd part0 q.1) := Lib.hid (objR_kinds G.out.kinds hr (fun i => rfl))
    obtain ⟨_, hth, hlies⟩ := part_of_rec hx3 HKD.out
    have HTH := Lib.hid hth
    have HLI := Lib.hid hlies
    clear hh hrd hx3 hc3 hr H2 hth hlies
    obtain ⟨x, a⟩ := q
    have hts : tb < w3.heap.size := lt_of_block HTH.out
    have HQ3 : Hid (w3.heap[rb + 1]? = some (.cells #[.pointer (some ⟨rb, 0, none⟩)] 199 (0, 0))) := Lib.hid ((HC.out.block _ (Nat.lt_of_lt_of_le (lt_of_block VQ.out) HB.out.size) (by omega) (by have := HRBT.out; omega)).trans ((HB.out.block _ (lt_of_block VQ.out)).trans VQ.out))
    have HE3 : Hid (w3.heap[tb + 1]? = some (.cells #[.nilIface] 59 (0, 0))) := Lib.hid ((HC.out.block _ (Nat.lt_of_lt_of_le (lt_of_block VE.out) HB.out.size) (by have := HRBT.out; omega) (by omega)).trans ((HB.out.block _ (lt_of_block VE.out)).trans VE.out))
    have HET3 : Hid (ErrType w3) := Lib.hid (by
      have h1 := HET.out.below BV.out
      have h2 := h1.below HB.out
      unfold ErrType at h2 ⊢
      rw [World.cell?_of_block (w := w2) (HC.out.block _ (lt_of_cell h2) (show 0 ≠ rb by have := HRBT.out; have := HTW.out; omega) (show 0 ≠ tb by have := HTW.out; omega))]
      exact h2)
    go_upto_region 4 with fail
    obtain ⟨VO, hVO⟩ : ∃ VO : Nat → Option Nat, VO = fun j => if j = 6 then some tb else none := ⟨_, rfl⟩
    have vo6 : VO 6 = some tb := by rw [hVO]; rfl
    have von : ∀ j, j ≠ 6 → VO j = none := fun j h1 => by rw [hVO]; simp [h1]
    have vob : ∀ j b, b ≠ tb → VO j ≠ some b := fun j b hb => by
      by_cases h : j = 6
      · subst h; rw [vo6]; simp; exact fun e => hb e.symm
      · rw [von j h]; simp
    clear hVO
    refine wp_region_tailV 7 VO (fun i j b h1 h2 => by
        by_cases e1 : i = 6
        · by_cases e2 : j = 6
          · rw [e1, e2]
          · rw [von j e2] at h2; cases h2
        · rw [von i e1] at h1; cases h1) (fun _ _ _ => True) (fun _ => True) (fun _ _ _ _ _ => True) (fun _ _ => trivial) trivial
      (phis [fun u _ => u = .agg (cellsPart x), fun u _ => u = .pointer (some ⟨rb + 1, 0, none⟩), fun u _ => u = .pointer (some ⟨rb + 1, 0, none⟩), fun u _ => u = .pointer (some ⟨rb + 1, 0, none⟩), fun u _ => u = .pointer (some ⟨rb, 0, none⟩), fun u w' => if a < s.size then ∃ fb, u = .iface 127 (.pointer (some ⟨fb, 0, none⟩)) ∧ FltB w' fb 5 a ∧ fb ≠ tb else u = .nilIface, fun _ w' => w'.heap[tb]? = some (.cells (cellsPart x) 46 (0, 0))]) rfl (by kernel_rfl) (by kernel_rfl)
      (monoV_of ⟨monoV_eq, monoV_eq, monoV_eq, monoV_eq, monoV_eq, ?m5, ?m6, trivial⟩) (fun _ _ _ _ _ => trivial) (fun _ _ _ _ _ _ _ _ _ _ _ => trivial) (stepsV_of 7 ⟨?s0, ?s1, ?s2, ?s3, ?s4, ?s5, ?s6, trivial⟩) ?_
    case m5 =>
      intro j hj u w1 w2 he hp
      by_cases hlt : a < s.size
      · simp only [hlt, if_true] at hp ⊢
        obtain ⟨fb, h1, h2, h3⟩ := hp
        refine ⟨fb, h1, (he.1.block fb (lt_of_block h2) ?_).trans h2, h3⟩
        exact fun e => vob j fb h3 e.symm
      · simp only [hlt, if_false] at hp ⊢; exact hp
    case m6 =>
      intro j hj u w1 w2 he hp
      refine (he.1.block tb (lt_of_block hp) ?_).trans hp
      rw [von j hj]; simp
    case s0 =>
      refine stepV_val (v := .agg (cellsPart x)) (fun _ _ => trivial) (fun _ _ _ _ => ⟨trivial, trivial⟩) (fun D av wv hE hO hD => ?_) (fun _ => rfl)
      have h6 : ¬ D 6 := hE.notyet 6 _ rfl { on := 0, ground := .data } (by simp) rfl hE.me
      have hb0 : wv.heap[tb]? = some (.cells (cellsPart x) 46 (0, 0)) := (hE.late 6 h6 tb vo6 hts).trans HTH.out
      have k0 : wv.cell? ⟨tb, 0, none⟩ = some (.string (x 0).s) := block_cell hb0 0
      have k1 : wv.cell? ⟨tb, 1, none⟩ = some (.int .u64 (x 1).n) := block_cell hb0 1
      have k2 : wv.cell? ⟨tb, 2, none⟩ = some (.int .u64 (x 2).n) := block_cell hb0 2
      have k3 : wv.cell? ⟨tb, 3, none⟩ = some (.int .u64 (x 3).n) := block_cell hb0 3
      have k4 : wv.cell? ⟨tb, 4, none⟩ = some (.int .u64 (x 4).n) := block_cell hb0 4
      have h4 : av.eval (.tmp 4) = .pointer (some ⟨tb, 0, none⟩) := hO.2.2 4 rfl
      have f4 := (ev_form av 4).symm.trans h4
      refine ⟨rfl, ?_⟩
      simp [go_sem, f4, k0, k1, k2, k3, k4]
    case s1 =>
      refine stepV_val (v := .pointer (some ⟨rb + 1, 0, none⟩)) (fun _ _ => trivial) (fun _ _ _ _ => ⟨trivial, trivial⟩) (fun D av wv hE hO hD => ?_) (fun _ => rfl)
      have h6 : av.eval (.tmp 6) = .pointer (some ⟨rb + 1, 0, none⟩) := hO.2.2 6 rfl
      have f6 := (ev_form av 6).symm.trans h6
      refine ⟨rfl, ?_⟩
      simp [go_sem, f6]
    case s2 =>
      refine stepV_val (v := .pointer (some ⟨rb + 1, 0, none⟩)) (fun _ _ => trivial) (fun _ _ _ _ => ⟨trivial, trivial⟩) (fun D av wv hE hO hD => ?_) (fun _ => rfl)
      have d17 : av.eval (.tmp 17) = .pointer (some ⟨rb + 1, 0, none⟩) := hD.1 rfl _ rfl
      have f17 := (ev_form av 17).symm.trans d17
      refine ⟨rfl, ?_⟩
      simp [go_sem, f17]
    case s3 =>
      refine stepV_val (v := .pointer (some ⟨rb + 1, 0, none⟩)) (fun _ _ => trivial) (fun _ _ _ _ => ⟨trivial, trivial⟩) (fun D av wv hE hO hD => ?_) (fun _ => rfl)
      have d18 : av.eval (.tmp 18) = .pointer (some ⟨rb + 1, 0, none⟩) := hD.1 rfl _ rfl
      have f18 := (ev_form av 18).symm.trans d18
      refine ⟨rfl, ?_⟩
      simp [go_sem, f18]
    case s4 =>
      refine stepV_val (v := .pointer (some ⟨rb, 0, none⟩)) (fun _ _ => trivial) (fun _ _ _ _ => ⟨trivial, trivial⟩) (fun D av wv hE hO hD => ?_) (fun _ => rfl)
      have d19 : av.eval (.tmp 19) = .pointer (some ⟨rb + 1, 0, none⟩) := hD.1 rfl _ rfl
      have f19 := (ev_form av 19).symm.trans d19
      have k0 : wv.cell? ⟨rb + 1, 0, none⟩ = some (.pointer (some ⟨rb, 0, none⟩)) := block_cell ((hE.ext.block (rb + 1) (lt_of_block HQ3.out) (fun j => vob j _ (by have := HRBT.out; omega))).trans HQ3.out) 0
      refine ⟨rfl, ?_⟩
      simp [go_sem, f19, k0]
    case s5 =>
      refine stepV_wp (fun D av wv hPP hE hO hD => ?_)
      have d20 : av.eval (.tmp 20) = .pointer (some ⟨rb, 0, none⟩) := hD.1 rfl _ rfl
      have f20 := (ev_form av 20).symm.trans d20
      have hrd : RdB wv rb s a 10240 := (hE.ext.block rb (lt_of_block HRD.out) (fun j => vob j _ (by have := HRBT.out; omega))).trans HRD.out
      have het : ErrType wv := by
        have h2 : ErrType w3.drew := HET3.out
        unfold ErrType at h2 ⊢
        rw [World.cell?_of_block (w := w3.drew) (hE.ext.block _ (lt_of_cell h2) (fun j => vob j _ (show 0 ≠ tb by have := HTW.out; omega)))]
        exact h2
      have hvs : w3.heap.size ≤ wv.heap.size := hE.ext.size
      refine ⟨rfl, wp_of_callR (f := 124) (args := #[.pointer (some ⟨rb, 0, none⟩)]) (R := fun u w2 => Below wv.heap.size wv w2 ∧ (if a < s.size then ∃ fb, u = .iface 127 (.pointer (some ⟨fb, 0, none⟩)) ∧ FltB w2 fb 5 a ∧ fb ≠ tb else u = .nilIface)) (by simp [go_sem, f20]) ((End_any wv rb s a 10240 het hrd hle hs).mono fun e w2 hh => ?_) (fun u w2 ⟨h1, h2⟩ => ⟨u, rfl, esV_of_ext h1 trivial, h2, fun _ _ _ _ _ => ⟨trivial, trivial⟩⟩)⟩
      obtain ⟨h1, h2⟩ := hh
      unfold leftOf at h2
      by_cases hlt : a < s.size
      · simp only [hlt, if_true] at h2 ⊢
        obtain ⟨fb, h3, h4, h5⟩ := h2
        exact ⟨_, h3, h1, fb, rfl, h5, by omega⟩
      · simp only [hlt, if_false] at h2 ⊢
        exact ⟨_, h2, h1, rfl⟩
    case s6 =>
      refine stepV_wp (fun D av wv hPP hE hO hD => ?_)
      have d16 : av.eval (.tmp 16) = .agg (cellsPart x) := hD.1 rfl _ rfl
      have f16 := (ev_form av 16).symm.trans d16
      have h4 : av.eval (.tmp 4) = .pointer (some ⟨tb, 0, none⟩) := hO.2.2 4 rfl
      have f4 := (ev_form av 4).symm.trans h4
      have hq : wv.heap[tb]? = some (.cells (cellsPart x) 46 (0, 0)) := (hE.own tb vo6 hts).trans HTH.out
      have k0 : wv.cell? ⟨tb, 0, none⟩ = some (.string (x 0).s) := block_cell hq 0
      have k1 : wv.cell? ⟨tb, 1, none⟩ = some (.int .u64 (x 1).n) := block_cell hq 1
      have k2 : wv.cell? ⟨tb, 2, none⟩ = some (.int .u64 (x 2).n) := block_cell hq 2
      have k3 : wv.cell? ⟨tb, 3, none⟩ = some (.int .u64 (x 3).n) := block_cell hq 3
      have k4 : wv.cell? ⟨tb, 4, none⟩ = some (.int .u64 (x 4).n) := block_cell hq 4
      have hz : ∀ o, wv.frozen? ⟨tb, o, none⟩ = false := block_free hq
      have l0 : tb < wv.heap.size := lt_of_block hq
      refine ⟨rfl, ?_⟩
      unfold Oper.wp
      simp [go_sem, f4, f16, hz, l0, k0, k1, k2, k3, k4]
      exact ⟨⟨by rw [vo6]; exact (extB_setIn (extB_setIn (extB_setIn (extB_setIn (extB_setIn (ExtB_refl _ _) 0 _) 1 _) 2 _) 3 _) 4 _), trivial⟩, undef, (block_setCell (block_setCell (block_setCell (block_setCell (block_setCell hq (o := 0) _) (o := 1) _) (o := 2) _) (o := 3) _) (o := 4) _), fun _ _ _ _ _ => ⟨trivial, trivial⟩⟩
    intro a' w' hE _ hO hall _
    have hA := act_of_outer (ds := [16, 17, 18, 19, 20, 21]) rfl hO (by kernel_rfl)
    have e16 : (fun u (_ : World) => u = .agg (cellsPart x)) (a'.eval (.tmp 16)) w' := hall.1 _ rfl
    have e17 : (fun u (_ : World) => u = .pointer (some ⟨rb + 1, 0, none⟩)) (a'.eval (.tmp 17)) w' := hall.2.1 _ rfl
    have e18 : (fun u (_ : World) => u = .pointer (some ⟨rb + 1, 0, none⟩)) (a'.eval (.tmp 18)) w' := hall.2.2.1 _ rfl
    have e19 : (fun u (_ : World) => u = .pointer (some ⟨rb + 1, 0, none⟩)) (a'.eval (.tmp 19)) w' := hall.2.2.2.1 _ rfl
    have e20 : (fun u (_ : World) => u = .pointer (some ⟨rb, 0, none⟩)) (a'.eval (.tmp 20)) w' := hall.2.2.2.2.1 _ rfl
    have e21 : (fun u w' => if a < s.size then ∃ fb, u = .iface 127 (.pointer (some ⟨fb, 0, none⟩)) ∧ FltB w' fb 5 a ∧ fb ≠ tb else u = .nilIface) (a'.eval (.tmp 21)) w' := hall.2.2.2.2.2.1 _ rfl
    have z6 : w'.heap[tb]? = some (.cells (cellsPart x) 46 (0, 0)) := hall.2.2.2.2.2.2.1 _ rfl
    obtain ⟨v21, hv21⟩ : ∃ v, a'.eval (.tmp 21) = v := ⟨_, rfl⟩
    rw [hv21] at e21
    simp only [List.foldl_cons, List.foldl_nil, Act.put, List.setIfInBounds_toArray, List.set_cons_succ, List.set_cons_zero, e16, e17, e18, e19, e20, hv21] at hA
    clear hO hall e16 e17 e18 e19 e20 hv21
    subst hA
    have HX4 : Hid (ExtS VO w3 w') := Lib.hid ⟨hE.os, hE.tape, hE.output, hE.size, hE.block⟩
    have HZ6 := Lib.hid z6
    have hbe : w'.heap[tb + 1]? = some (.cells #[.nilIface] 59 (0, 0)) := (HX4.out.block _ (lt_of_block HE3.out) (fun j => vob j _ (by omega))).trans HE3.out
    have HBE := Lib.hid hbe
    have g0 : w'.cell? ⟨tb + 1, 0, none⟩ = some .nilIface := block_cell hbe 0
    have g1 : w'.frozen? ⟨tb + 1, 0, none⟩ = false := block_free hbe 0
    have HVO : Hid (∀ j b, b ≠ tb → VO j ≠ some b) := Lib.hid vob
    have HFIN : ∀ v, Hid (Below w.heap.size w (w'.setCell ⟨tb + 1, 0, none⟩ v)) := fun v => Lib.hid (by
      have hsz := HTW.out
      have hb9 := HRBT.out
      refine ⟨HX4.out.os.trans (HC.out.os.trans (HB.out.os.trans BV.out.os)), HX4.out.tape.trans (HC.out.tape.trans (HB.out.tape.trans BV.out.tape)), HX4.out.output.trans (HC.out.output.trans (HB.out.output.trans BV.out.output)), by simpa using Nat.le_trans BV.out.size (Nat.le_trans HB.out.size (Nat.le_trans HC.out.size HX4.out.size)), fun i hi => ?_⟩
      have l1 := Nat.lt_of_lt_of_le hi BV.out.size
      have l2 := Nat.lt_of_lt_of_le l1 HB.out.size
      rw [Below.heap_setCell _ _ _ _ (show i ≠ tb + 1 by omega)]
      exact (HX4.out.block i (Nat.lt_of_lt_of_le l2 HC.out.size) (fun j => HVO.out j i (by omega))).trans ((HC.out.block i l2 (by omega) (by omega)).trans ((HB.out.block i l1).trans (BV.out.block i hi))))
    have HLF : ∀ v, Hid (LiesPart rb tb (w'.setCell ⟨tb + 1, 0, none⟩ v) x) := fun v => Lib.hid (HLI.out.up (fun b h1 h2 => by
      have hb9 := HRBT.out
      rw [Below.heap_setCell _ _ _ _ (show b ≠ tb + 1 by omega)]
      exact HX4.out.block b h2 (fun j => HVO.out j b (by omega))))
    have HTF : ∀ v o, (w'.setCell ⟨tb + 1, 0, none⟩ v).cell? ⟨tb, o, none⟩ = (cellsPart x)[o]? := fun v o => block_cell (block_setCell_ne HZ6.out (by show tb ≠ tb + 1; omega) v) o
    have HEF : ∀ v, (w'.setCell ⟨tb + 1, 0, none⟩ v).cell? ⟨tb + 1, 0, none⟩ = some v := fun v => block_cell (block_setCell HBE.out v) 0
    have HTFH := Lib.hid HTF
    have HEFH := Lib.hid HEF
    clear hE z6 hbe vo6 von vob HTF HEF
    by_cases hlt : a < s.size
    · simp only [hlt, if_true] at e21
      obtain ⟨fb, rfl, hf, hft⟩ := e21
      have HF := Lib.hid hf
      have HLT := Lib.hid hlt
      clear hf hlt
      go_wp2
      refine leaves_cons (f := 121) (args := #[.pointer (some ⟨tb, 0, none⟩), .pointer (some ⟨tb + 1, 0, none⟩)]) (by simp) (by simp [go_sem]) ?_
      refine (read1Part_idle _ _ _).mono ?_
      rintro e u' w'' ⟨rfl, rfl, rfl⟩
      have y0 := HTFH.out (.iface 127 (.pointer (some ⟨fb, 0, none⟩)))
      have y1 := HEFH.out (.iface 127 (.pointer (some ⟨fb, 0, none⟩)))
      refine ⟨_, by simp [results, Tryz.results67, go_sem, y0, y1]; rfl, ?_⟩
      refine ⟨(HFIN _).out, ?_⟩
      rw [HR.out]
      refine ⟨HKD.out, hle, ⟨rb, tb, by have := HRBT.out; have := HTW.out; omega, (HLF _).out⟩, ?_⟩
      rw [if_pos HLT.out]
      exact ⟨fb, rfl, block_setCell_ne HF.out (by intro e; subst e; have h9 := HBE.out.symm.trans HF.out; cases h9) _⟩
    · simp only [hlt, if_false] at e21
      subst e21
      have HLT := Lib.hid hlt
      clear hlt
      go_wp2
      refine leaves_cons (f := 121) (args := #[.pointer (some ⟨tb, 0, none⟩), .pointer (some ⟨tb + 1, 0, none⟩)]) (by simp) (by simp [go_sem]) ?_
      refine (read1Part_idle _ _ _).mono ?_
      rintro e u' w'' ⟨rfl, rfl, rfl⟩
      have y0 := HTFH.out .nilIface
      have y1 := HEFH.out .nilIface
      refine ⟨_, by simp [results, Tryz.results67, go_sem, y0, y1]; rfl, ?_⟩
      refine ⟨(HFIN _).out, ?_⟩
      rw [HR.out]
      refine ⟨HKD.out, hle, ⟨rb, tb, by have := HRBT.out; have := HTW.out; omega, (HLF _).out⟩, ?_⟩
      rw [if_neg HLT.out]
abbrev cellsSlot (x : Rcd) (a3 : Option Addr) (c3 : Nat) (a4 : Option Addr) (c4 : Nat) : Array Value := #[.int .u64 (x 0).n, .bool (x 1).q, .int .u64 (x 2).n, .slice a3 (len (x 3).l) c3, .slice a4 (len (x 4).l) c4]
abbrev zeroSlot : Value := .agg #[.int .u64 0, .bool false, .int .u64 0, .slice none 0 0, .slice none 0 0]
def LiesSlot (rb tb : Nat) (w : World) (x : Rcd) (a3 : Option Addr) (c3 : Nat) (a4 : Option Addr) (c4 : Nat) : Prop := HoldsD rb tb w (.slice a3 (len (x 3).l) c3) (x 3) ∧ HoldsD rb tb w (.slice a4 (len (x 4).l) c4) (x 4)
theorem LiesSlot.below {rb tb : Nat} {w w' : World} {x : Rcd} {a3 : Option Addr} {c3 : Nat} {a4 : Option Addr} {c4 : Nat} (h : LiesSlot rb tb w x a3 c3 a4 c4) (hb : Below w.heap.size w w') : LiesSlot rb tb w' x a3 c3 a4 c4 := ⟨h.1.chg (Chg.of_below hb), h.2.chg (Chg.of_below hb)⟩
theorem LiesSlot.chg {rb tb : Nat} {w w' : World} {x : Rcd} {a3 : Option Addr} {c3 : Nat} {a4 : Option Addr} {c4 : Nat} (h : LiesSlot rb tb w x a3 c3 a4 c4) (hb : Chg rb tb w w') : LiesSlot rb tb w' x a3 c3 a4 c4 := ⟨h.1.chg hb, h.2.chg hb⟩
theorem LiesSlot.up {rb tb : Nat} {w w' : World} {x : Rcd} {a3 : Option Addr} {c3 : Nat} {a4 : Option Addr} {c4 : Nat} (h : LiesSlot rb tb w x a3 c3 a4 c4) (hb : Up rb w w') : LiesSlot rb tb w' x a3 c3 a4 c4 := ⟨h.1.up hb, h.2.up hb⟩
theorem slot_of_rec {rb tb : Nat} {w : World} {x : Rcd} (h : RecAt rb tb 44 5 w x) (hk : Kd slot0 x) : ∃ (a3 : Option Addr) (c3 : Nat) (a4 : Option Addr) (c4 : Nat), w.heap[tb]? = some (.cells (cellsSlot x a3 c3 a4 c4) 44 (0, 0)) ∧ LiesSlot rb tb w x a3 c3 a4 c4 := by
  obtain ⟨cs, h1, h2, h3⟩ := h
  obtain ⟨m0, e0⟩ := hk.num (show kindD (slot0 0) = _ from rfl)
  obtain ⟨u0, g0, d0⟩ := h3 0 (by decide)
  rw [e0] at d0
  simp only [HoldsD] at d0
  subst d0
  obtain ⟨m1, e1⟩ := hk.flag (show kindD (slot0 1) = _ from rfl)
  obtain ⟨u1, g1, d1⟩ := h3 1 (by decide)
  rw [e1] at d1
  simp only [HoldsD] at d1
  subst d1
  obtain ⟨m2, e2⟩ := hk.num (show kindD (slot0 2) = _ from rfl)
  obtain ⟨u2, g2, d2⟩ := h3 2 (by decide)
  rw [e2] at d2
  simp only [HoldsD] at d2
  subst d2
  obtain ⟨m3, e3⟩ := hk.strs (show kindD (slot0 3) = _ from rfl)
  obtain ⟨u3, g3, d3⟩ := h3 3 (by decide)
  have D3 := d3
  rw [e3] at d3
  obtain ⟨a3, c3, q3, -⟩ := d3
  subst q3
  obtain ⟨m4, e4⟩ := hk.strs (show kindD (slot0 4) = _ from rfl)
  obtain ⟨u4, g4, d4⟩ := h3 4 (by decide)
  have D4 := d4
  rw [e4] at d4
  obtain ⟨a4, c4, q4, -⟩ := d4
  subst q4
  refine ⟨a3, c3, a4, c4, ?_, ?_⟩
  · rw [h1]; congr 2; apply Array.ext_getElem?; intro i
    match i with
    | 0 => rw [g0]; simp [e0, DV.n, DV.q, DV.s, DV.l, DV.ns, DV.rs]
    | 1 => rw [g1]; simp [e1, DV.n, DV.q, DV.s, DV.l, DV.ns, DV.rs]
    | 2 => rw [g2]; simp [e2, DV.n, DV.q, DV.s, DV.l, DV.ns, DV.rs]
    | 3 => rw [g3]; simp [e3, DV.n, DV.q, DV.s, DV.l, DV.ns, DV.rs]
    | 4 => rw [g4]; simp [e4, DV.n, DV.q, DV.s, DV.l, DV.ns, DV.rs]
    | i + 5 => rw [Array.getElem?_eq_none (by omega), Array.getElem?_eq_none (by simp)]
  · exact ⟨(by rw [e3] at D3 ⊢; exact D3), (by rw [e4] at D4 ⊢; exact D4)⟩
set_option maxRecDepth 100000 in
theorem read1Slot_idle (p q : Value) (w : World) : CallsD Tryz.prog 140 #[p, q] .returning w fun e u' w' => e = .returned (.tuple #[]) ∧ u' = .returning ∧ w' = w := by
  refine callsD_of_wpS Tryz.func140 rfl fun c₀ cs hu => ?_
  apply wpS_seq
  apply wpS_region
  simp [wpOpsS, go_sem, recoverD, hu, Tryz.ntmps140, Exit.thenS]
  refine wpS_of_wp ?_
  obtain ⟨Q, hQ⟩ : ∃ Q : Exit → Act → World → Prop, (fun e a' w' => bodyPostS Tryz.prog Tryz.f140 c₀ cs (fun e u' w' => e = Ending.returned (.tuple #[]) ∧ u' = .returning ∧ w' = w) e a' (c₀ :: cs) w') = Q := ⟨_, rfl⟩
  rw [hQ, read1_frame]
  have HQ := Lib.hid hQ
  clear hQ
  go_wp2
  rw [← HQ.out]
  simp [bodyPostS, results, Tryz.results140]
  cases c₀; simp_all
structure AfterSlot (tb eb fb : Nat) (w w' : World) : Prop where
  os : w'.os = w.os
  tape : w'.tape = w.tape
  output : w'.output = w.output
  size : w.heap.size ≤ w'.heap.size
  block : ∀ i, i < w.heap.size → i ≠ tb → i ≠ eb → w'.heap[i]? = w.heap[i]?
  th : w'.heap[tb]? = some (.cells #[.int .u64 0, .bool false, .int .u64 0, .slice none 0 0, .slice none 0 0] 44 (0, 0))
  er : w'.heap[eb]? = some (.cells #[.iface 127 (.pointer (some ⟨fb, 0, none⟩))] 59 (0, 0))
set_option maxRecDepth 100000 in
set_option maxHeartbeats 4000000 in
theorem read1Slot_some (tb eb fb : Nat) (cs : Array Value) (w : World) (ht : w.heap[tb]? = some (.cells cs 44 (0, 0))) (hcs : ∃ u0 u1 u2 u3 u4 : Value, cs = #[u0, u1, u2, u3, u4] ) (he : w.heap[eb]? = some (.cells #[.nilIface] 59 (0, 0))) (hne : tb ≠ eb) :
    CallsD Tryz.prog 140 #[.pointer (some ⟨tb, 0, none⟩), .pointer (some ⟨eb, 0, none⟩)] (.panicking (stopC fb)) w fun e u' w' =>
      e = .returned (.tuple #[]) ∧ u' = .panicking [{ v := .iface 193 (.agg #[.iface 127 (.pointer (some ⟨fb, 0, none⟩))]), recovered := true }] ∧ AfterSlot tb eb fb w w' := by
  obtain ⟨u0, u1, u2, u3, u4, rfl⟩ := hcs
  refine callsD_of_wpS Tryz.func140 rfl fun c₀ cs hu => ?_
  apply wpS_seq
  apply wpS_region
  simp [wpOpsS, go_sem, recoverD, hu, stopC, Tryz.ntmps140, Exit.thenS]
  refine wpS_of_wp ?_
  obtain ⟨Q, hQ⟩ : ∃ Q : Exit → Act → World → Prop, (fun e a' w' => bodyPostS Tryz.prog Tryz.f140 c₀ cs (fun e u' w' => e = Ending.returned (.tuple #[]) ∧ u' = .panicking [{ v := .iface 193 (.agg #[.iface 127 (.pointer (some ⟨fb, 0, none⟩))]), recovered := true }] ∧ AfterSlot tb eb fb w w') e a' ({ c₀ with mode := .panicking [{ v := .iface 193 (.agg #[.iface 127 (.pointer (some ⟨fb, 0, none⟩))]), recovered := true }] } :: cs) w') = Q := ⟨_, rfl⟩
  rw [hQ, read1_frame]
  have HQ := Lib.hid hQ
  have HT := Lib.hid ht
  have HE := Lib.hid he
  clear hQ hu ht he
  have ha := assert_stop fb
  go_wp2_with fail
  obtain ⟨V, hV⟩ : ∃ V, (w.alloc (.cells #[.iface 127 (.pointer (some ⟨fb, 0, none⟩))] 193)).alloc (.cells #[.int .u64 0, .bool false, .int .u64 0, .slice none 0 0, .slice none 0 0] 44) = V := ⟨_, rfl⟩
  obtain ⟨sb, hsb⟩ : ∃ sb, w.heap.size = sb := ⟨_, rfl⟩
  have HV : Hid (Below w.heap.size w V) := Lib.hid (by rw [← hV]; exact balloc (balloc (Below.refl _ _) _) _)
  have hbs : V.heap[sb]? = some (.cells #[.iface 127 (.pointer (some ⟨fb, 0, none⟩))] 193 (0, 0)) := by rw [← hV, ← hsb]; exact block_alloc (heap_alloc_new _ _) _
  have hbn : V.heap[sb + 1]? = some (.cells #[.int .u64 0, .bool false, .int .u64 0, .slice none 0 0, .slice none 0 0] 44 (0, 0)) := by rw [← hV]; exact alloc_new_at _ (by simp [hsb])
  have hbt : V.heap[tb]? = some (.cells #[u0, u1, u2, u3, u4] 44 (0, 0)) := (HV.out.block _ (lt_of_block HT.out)).trans HT.out
  have hbe : V.heap[eb]? = some (.cells #[.nilIface] 59 (0, 0)) := (HV.out.block _ (lt_of_block HE.out)).trans HE.out
  have k0 : V.cell? ⟨sb, 0, none⟩ = some (.iface 127 (.pointer (some ⟨fb, 0, none⟩))) := block_cell hbs 0
  have m0 : V.cell? ⟨sb + 1, 0, none⟩ = some (.int .u64 0) := block_cell hbn 0
  have m1 : V.cell? ⟨sb + 1, 1, none⟩ = some (.bool false) := block_cell hbn 1
  have m2 : V.cell? ⟨sb + 1, 2, none⟩ = some (.int .u64 0) := block_cell hbn 2
  have m3 : V.cell? ⟨sb + 1, 3, none⟩ = some (.slice none 0 0) := block_cell hbn 3
  have m4 : V.cell? ⟨sb + 1, 4, none⟩ = some (.slice none 0 0) := block_cell hbn 4
  have hts : tb < sb := by have := lt_of_block HT.out; omega
  have hnt : some (sb + 1) ≠ some tb := by simp; omega
  have hst : some sb ≠ some tb := by simp; omega
  have HBT := Lib.hid hbt
  have HBE := Lib.hid hbe
  try rw [hV]
  try simp only [hsb]
  clear hV hbs hbn hbt hbe ha
  refine wp_region_tail 4 3 ((some tb)) (phis [fun u _ => u = (.agg #[.int .u64 0, .bool false, .int .u64 0, .slice none 0 0, .slice none 0 0]), fun u _ => u = (.pointer (some ⟨sb, 0, none⟩)), fun u _ => u = (.iface 127 (.pointer (some ⟨fb, 0, none⟩))), fun _ w' => w'.heap[tb]? = some (.cells #[.int .u64 0, .bool false, .int .u64 0, .slice none 0 0, .slice none 0 0] 44 (0, 0))]) rfl (by kernel_rfl) (by kernel_rfl) (mono_of ⟨mono_eq, mono_eq, mono_eq, ?m3, trivial⟩) (steps_of 4 ⟨?s0, ?s1, ?s2, ?s3, trivial⟩) ?_
  case m3 =>
    exact ⟨fun u w1 w2 h hb => ext_block h hb, fun hn => absurd rfl hn⟩
  case s0 =>
    refine step_val (v := (.agg #[.int .u64 0, .bool false, .int .u64 0, .slice none 0 0, .slice none 0 0])) (fun av wv hE hS hO hD => ?_) (fun _ => rfl)
    have h5 : av.eval (.tmp 5) = (.pointer (some ⟨sb + 1, 0, none⟩)) := hO.2.2 5 rfl
    have f5 := (ev_form av 5).symm.trans h5
    have k0 := extB_cell hE hst k0
    have m0 := extB_cell hE hnt m0
    have m1 := extB_cell hE hnt m1
    have m2 := extB_cell hE hnt m2
    have m3 := extB_cell hE hnt m3
    have m4 := extB_cell hE hnt m4
    refine ⟨rfl, ?_⟩
    simp [go_sem, f5, k0, m0, m1, m2, m3, m4]
  case s1 =>
    refine step_val (v := (.pointer (some ⟨sb, 0, none⟩))) (fun av wv hE hS hO hD => ?_) (fun _ => rfl)
    have h3 : av.eval (.tmp 3) = (.pointer (some ⟨sb, 0, none⟩)) := hO.2.2 3 rfl
    have f3 := (ev_form av 3).symm.trans h3
    refine ⟨rfl, ?_⟩
    simp [go_sem, f3]
  case s2 =>
    refine step_val (v := (.iface 127 (.pointer (some ⟨fb, 0, none⟩)))) (fun av wv hE hS hO hD => ?_) (fun _ => rfl)
    have d18 : av.eval (.tmp 18) = (.pointer (some ⟨sb, 0, none⟩)) := hD.1 rfl _ rfl
    have f18 := (ev_form av 18).symm.trans d18
    have k0 := extB_cell hE hst k0
    have m0 := extB_cell hE hnt m0
    have m1 := extB_cell hE hnt m1
    have m2 := extB_cell hE hnt m2
    have m3 := extB_cell hE hnt m3
    have m4 := extB_cell hE hnt m4
    refine ⟨rfl, ?_⟩
    simp [go_sem, f18, k0, m0, m1, m2, m3, m4]
  case s3 =>
    refine step_wp (fun av wv hE hS hO hD => ?_)
    have h0 : av.eval (.tmp 0) = (.pointer (some ⟨tb, 0, none⟩)) := hO.2.2 0 rfl
    have f0 := (ev_form av 0).symm.trans h0
    have d17 : av.eval (.tmp 17) = (.agg #[.int .u64 0, .bool false, .int .u64 0, .slice none 0 0, .slice none 0 0]) := hD.1 rfl _ rfl
    have f17 := (ev_form av 17).symm.trans d17
    refine ⟨rfl, ?_⟩
    have hq : wv.heap[tb]? = some (.cells #[u0, u1, u2, u3, u4] 44 (0, 0)) := ext_block (w := V.drew) (hS rfl) HBT.out
    have q0 : wv.cell? ⟨tb, 0, none⟩ = some u0 := block_cell hq 0
    have q1 : wv.cell? ⟨tb, 1, none⟩ = some u1 := block_cell hq 1
    have q2 : wv.cell? ⟨tb, 2, none⟩ = some u2 := block_cell hq 2
    have q3 : wv.cell? ⟨tb, 3, none⟩ = some u3 := block_cell hq 3
    have q4 : wv.cell? ⟨tb, 4, none⟩ = some u4 := block_cell hq 4
    have hz : ∀ o, wv.frozen? ⟨tb, o, none⟩ = false := block_free hq
    unfold Oper.wp
    have l0 : tb < wv.heap.size := lt_of_block hq
    have h0 : av.eval (.tmp 0) = (.pointer (some ⟨tb, 0, none⟩)) := hO.2.2 0 rfl
    have f0 := (ev_form av 0).symm.trans h0
    simp [go_sem, f0, f17, hz, l0, q0, q1, q2, q3, q4]
    exact ⟨es_sp (extB_setIn (extB_setIn (extB_setIn (extB_setIn (extB_setIn (ExtB_refl _ _) 0 _) 1 _) 2 _) 3 _) 4 _), undef, (block_setCell (block_setCell (block_setCell (block_setCell (block_setCell hq (o := 0) _) (o := 1) _) (o := 2) _) (o := 3) _) (o := 4) _)⟩
  intro a' w' hE hO hall
  have hA := act_of_outer (ds := [17, 18, 19]) rfl hO (by kernel_rfl)
  have e17 : (fun u _ => u = (.agg #[.int .u64 0, .bool false, .int .u64 0, .slice none 0 0, .slice none 0 0])) (a'.eval (.tmp 17)) w' := hall.1 _ rfl
  have e18 : (fun u _ => u = (.pointer (some ⟨sb, 0, none⟩))) (a'.eval (.tmp 18)) w' := hall.2.1 _ rfl
  have e19 : (fun u _ => u = (.iface 127 (.pointer (some ⟨fb, 0, none⟩)))) (a'.eval (.tmp 19)) w' := hall.2.2.1 _ rfl
  have z3 : (fun _ w' => w'.heap[tb]? = some (.cells #[.int .u64 0, .bool false, .int .u64 0, .slice none 0 0, .slice none 0 0] 44 (0, 0))) undef w' := hall.2.2.2.1 _ rfl
  simp only [List.foldl_cons, List.foldl_nil, Act.put, List.setIfInBounds_toArray, List.set_cons_succ, List.set_cons_zero, e17, e18, e19] at hA
  clear hO hall e17 e18 e19
  subst hA
  have HE := Lib.hid (of_drewE hE)
  have HZ := Lib.hid z3
  have hbe : w'.heap[eb]? = some (.cells #[.nilIface] 59 (0, 0)) := extB_block HE.out (by simp; exact fun e => hne e.symm) HBE.out
  have HBE := Lib.hid hbe
  have q0 : w'.cell? ⟨eb, 0, none⟩ = some .nilIface := block_cell hbe 0
  have q1 : w'.frozen? ⟨eb, 0, none⟩ = false := block_free hbe 0
  clear hE z3 hbe
  go_wp2
  rw [← HQ.out]
  have hs1 : (w'.setCell ⟨eb, 0, none⟩ (.iface 127 (.pointer (some ⟨fb, 0, none⟩)))).heap.size = w'.heap.size := by simp
  refine ⟨rfl, _, rfl, .tuple #[], by simp [results, Tryz.results140], rfl, rfl, ?_⟩
  exact ⟨HE.out.os.trans HV.out.os, HE.out.tape.trans HV.out.tape, HE.out.output.trans HV.out.output, by rw [hs1]; exact Nat.le_trans HV.out.size HE.out.size, fun i hi h1 h2 => by
    rw [Below.heap_setCell _ _ _ _ h2]
    exact (HE.out.block i (Nat.lt_of_lt_of_le hi HV.out.size) (by simpa using h1)).trans (HV.out.block i hi), block_setCell_ne HZ.out hne _, block_setCell HBE.out _⟩
def RdSlot (s : ByteArray) (w : World) (e : Ending) (w' : World) : Prop :=
  Below w.heap.size w w' ∧ match objR s (slotGs s 0) slot0 0 with
    | .error f => ∃ fb, e = .returned (.tuple #[zeroSlot, .iface 127 (.pointer (some ⟨fb, 0, none⟩))]) ∧ FltB w' fb f.1 f.2
    | .ok y => Kd slot0 y.1 ∧ y.2 ≤ s.size ∧ ∃ (a3 : Option Addr) (c3 : Nat) (a4 : Option Addr) (c4 : Nat), (∃ rb tb, w.heap.size ≤ rb ∧ LiesSlot rb tb w' y.1 a3 c3 a4 c4) ∧ (if y.2 < s.size then ∃ fb, e = .returned (.tuple #[.agg (cellsSlot y.1 a3 c3 a4 c4), .iface 127 (.pointer (some ⟨fb, 0, none⟩))]) ∧ FltB w' fb 5 y.2 else e = .returned (.tuple #[.agg (cellsSlot y.1 a3 c3 a4 c4), .nilIface]))
set_option maxRecDepth 100000 in
set_option maxHeartbeats 8000000 in
theorem readSlot_any (B : Nat) (s : ByteArray) (w : World) (hT : Tabs B w) (hET : ErrType w) (hB : B ≤ w.heap.size) (hg : 0 < B) (hs : s.size ≤ 9223372036854775807) :
    Calls Tryz.prog 77 #[.string s, .func (.func 61) #[] #[]] w (RdSlot s w) := by
  have HT := Lib.hid hT
  have HET := Lib.hid hET
  have ef := enters_of Tryz.func61 (by kernel_rfl) rfl
  clear hT hET
  go_enter_defers Tryz.func77, Tryz.ntmps77
  go_wp2_with fail
  obtain ⟨tb, htb⟩ : ∃ tb, w.heap.size = tb := ⟨_, rfl⟩
  obtain ⟨W, hW⟩ : ∃ W, (w.alloc (.cells #[.int .u64 0, .bool false, .int .u64 0, .slice none 0 0, .slice none 0 0] 44)).alloc (.cells #[.nilIface] 59) = W := ⟨_, rfl⟩
  have WB : Hid (Below w.heap.size w W) := Lib.hid (by rw [← hW]; exact balloc (balloc (Below.refl _ _) _) _)
  have W0 : Hid (W.heap[tb]? = some (.cells #[.int .u64 0, .bool false, .int .u64 0, .slice none 0 0, .slice none 0 0] 44 (0, 0))) := Lib.hid (by rw [← hW, ← htb]; exact block_alloc (heap_alloc_new _ _) _)
  have W1 : Hid (W.heap[tb + 1]? = some (.cells #[.nilIface] 59 (0, 0))) := Lib.hid (by rw [← hW]; exact alloc_new_at _ (by simp [htb]))
  have hWs : W.heap.size = tb + 1 + 1 := by rw [← hW]; simp [htb]
  have HTW : Hid (w.heap.size = tb) := Lib.hid htb
  try rw [hW]
  try simp only [htb]
  clear hW htb
  refine (New_any W s 10240).mono ?_
  rintro e w1 ⟨rfl, hw1⟩
  have hm : max (10240 : Int) 0 = 10240 := by decide
  rw [hm] at hw1
  obtain ⟨rb, hrb⟩ : ∃ rb, W.heap.size = rb := ⟨_, rfl⟩
  have R1 : Hid (RdB w1 rb s 0 10240) := Lib.hid (by rw [hw1, ← hrb]; exact heap_alloc_new _ _)
  have WB1 : Hid (Below W.heap.size W w1) := Lib.hid (by rw [hw1]; exact balloc (Below.refl _ _) _)
  have hs1 : w1.heap.size = rb + 1 := by rw [hw1, ← hrb]; simp
  try rw [hrb]
  clear hw1
  go_upto_region 3 with fail
  obtain ⟨V, hV⟩ : ∃ V, w1.alloc (.cells #[.pointer (some ⟨rb, 0, none⟩)] 199) = V := ⟨_, rfl⟩
  have VB : Hid (Below w1.heap.size w1 V) := Lib.hid (by rw [← hV]; exact balloc (Below.refl _ _) _)
  have VQ : Hid (V.heap[rb + 1]? = some (.cells #[.pointer (some ⟨rb, 0, none⟩)] 199 (0, 0))) := Lib.hid (by rw [← hV]; exact alloc_new_at _ hs1)
  try rw [hV]
  try simp only [hs1]
  have hrbt : rb = tb + 1 + 1 := hrb.symm.trans hWs
  have hTW := HTW.out
  have BV : Hid (Below w.heap.size w V) := Lib.hid (bnext (bnext WB.out WB1.out) VB.out)
  have WV : Hid (Below W.heap.size W V) := Lib.hid (bnext WB1.out VB.out)
  have VT : Hid (V.heap[tb]? = some (.cells #[.int .u64 0, .bool false, .int .u64 0, .slice none 0 0, .slice none 0 0] 44 (0, 0))) := Lib.hid ((WV.out.block _ (lt_of_block W0.out)).trans W0.out)
  have VE : Hid (V.heap[tb + 1]? = some (.cells #[.nilIface] 59 (0, 0))) := Lib.hid ((WV.out.block _ (lt_of_block W1.out)).trans W1.out)
  have VR : Hid (RdB V rb s 0 10240) := Lib.hid (R1.out.below VB.out)
  have ENV : Hid (RdEnv B V (rb + 1) rb s 0) := Lib.hid ⟨VQ.out, VR.out, HT.out.below BV.out, by omega, by omega, by omega, Nat.zero_le _, hs⟩
  have E : TEnv B (rb + 1) rb tb 5 44 V := ⟨⟨_, VR.out⟩, ⟨_, VT.out⟩, by omega, by omega, by omega, by decide, by decide⟩
  have REC : Hid (RecAt rb tb 44 5 V slot0) := Lib.hid (rec_zero VT.out rfl (fun i hi => by
    match i, hi with
    | 0, _ => exact ⟨_, rfl, rfl⟩
    | 1, _ => exact ⟨_, rfl, rfl⟩
    | 2, _ => exact ⟨_, rfl, rfl⟩
    | 3, _ => exact ⟨_, rfl, rfl, rfl⟩
    | 4, _ => exact ⟨_, rfl, rfl, rfl⟩))
  have HOF := Lib.hid (rofSlot_any (x0 := slot0) (s := s) E 0 (by omega) ⟨rfl, rfl, ⟨rfl, rfl, rfl⟩⟩)
  have HE := Lib.hid E
  have G : Hid (GOk slot0 (slotGs s 0)) := Lib.hid (SlotOk s 0 ⟨rfl, rfl, ⟨rfl, rfl, rfl⟩⟩)
  have HRBT := Lib.hid hrbt
  clear hV E hrb hs1 hWs hrbt hTW
  go_wp2_with fail
  refine HOF.out.mono ?_
  rintro e w2 ⟨u, rfl, ⟨g, c, l, rfl, hc, hF, hS⟩, hb⟩
  have hl : (slotGs s 0).length = l.length := hS.1
  have hg := (HE.out.below hb).apart hF.ex
  have H2 := Lib.hid (robject_any B (rb + 1) rb tb g 0 c slot0 44 5 s w2 w2 l (slotGs s 0) 0 slot0 hF.flds hc (show l.length ≤ 1000 by rw [← hl]; exact Nat.le_of_ble_eq_true rfl) hS (Chg.refl _ _ _) hg HE.out.nq HE.out.le HE.out.ne G.out.keys G.out.disj G.out.frames G.out.kinds (fun i => rfl) (REC.out.below hb) (ENV.out.below hb) (fun i hi o ho => rfl))
  have HB := Lib.hid hb
  clear hF hS hb hl hc hg HOF ef
  go_wp2_with fail
  refine H2.out.mono ?_
  intro e w3 hh
  cases hr : objR s (slotGs s 0) slot0 0 with
  | error f =>
    rw [hr] at hh
    have HTH := Lib.hid (getIs_th hh)
    obtain ⟨fb, rfl, hf, hc3⟩ := getIs_err hh
    have HF := Lib.hid hf
    have HC := Lib.hid hc3
    have HR := Lib.hid hr
    clear hh hf hc3 hr H2
    go_wp2
    obtain ⟨cs, hcs, hcn⟩ := HTH.out
    have hce : w3.heap[tb + 1]? = some (.cells #[.nilIface] 59 (0, 0)) := (HC.out.block _ (Nat.lt_of_lt_of_le (lt_of_block VE.out) HB.out.size) (by have := HRBT.out; omega) (by omega)).trans ((HB.out.block _ (lt_of_block VE.out)).trans VE.out)
    refine leaves_cons (f := 140) (args := #[.pointer (some ⟨tb, 0, none⟩), .pointer (some ⟨tb + 1, 0, none⟩)]) (by simp) (by simp [go_sem]) ?_
    refine (read1Slot_some tb (tb + 1) fb cs w3 hcs (arr5 hcn) hce (by omega)).mono ?_
    rintro e u' w4 ⟨rfl, rfl, HA⟩
    have y0 : ∀ o, w4.cell? ⟨tb, o, none⟩ = _ := block_cell HA.th
    have y1 : w4.cell? ⟨tb + 1, 0, none⟩ = some (.iface 127 (.pointer (some ⟨fb, 0, none⟩))) := block_cell HA.er 0
    refine ⟨_, by simp [results, Tryz.results77, go_sem, y0, y1]; rfl, ?_⟩
    refine ⟨?_, by
      rw [HR.out]
      refine ⟨fb, rfl, (HA.block fb (lt_of_block HF.out) (fun e => ?_) (fun e => ?_)).trans HF.out⟩
      · subst e; have h9 := hcs.symm.trans HF.out; cases h9
      · subst e; have h9 := hce.symm.trans HF.out; cases h9⟩
    have hsz := HTW.out
    have hb9 := HRBT.out
    refine ⟨HA.os.trans (HC.out.os.trans (HB.out.os.trans BV.out.os)), HA.tape.trans (HC.out.tape.trans (HB.out.tape.trans BV.out.tape)), HA.output.trans (HC.out.output.trans (HB.out.output.trans BV.out.output)), Nat.le_trans BV.out.size (Nat.le_trans HB.out.size (Nat.le_trans HC.out.size HA.size)), fun i hi => ?_⟩
    have l1 := Nat.lt_of_lt_of_le hi BV.out.size
    have l2 := Nat.lt_of_lt_of_le l1 HB.out.size
    exact (HA.block i (Nat.lt_of_lt_of_le l2 HC.out.size) (by omega) (by omega)).trans ((HC.out.block i l2 (by omega) (by omega)).trans ((HB.out.block i l1).trans (BV.out.block i hi)))
  | ok q =>
    rw [hr] at hh
    obtain ⟨rfl, hrd, hle, hx3, hc3⟩ := getIs_ok hh
    have HRD := Lib.hid hrd
    have HC := Lib.hid hc3
    have HR := Lib.hid hr
    have HKD : Hid (Kd slot0 q.1) := Lib.hid (objR_kinds G.out.kinds hr (fun i => rfl))
    obtain ⟨a3, c3, a4, c4, hth, hlies⟩ := slot_of_rec hx3 HKD.out
    have HTH := Lib.hid hth
    have HLI := Lib.hid hlies
    clear hh hrd hx3 hc3 hr H2 hth hlies
    obtain ⟨x, a⟩ := q
    have hts : tb < w3.heap.size := lt_of_block HTH.out
    have HQ3 : Hid (w3.heap[rb + 1]? = some (.cells #[.pointer (some ⟨rb, 0, none⟩)] 199 (0, 0))) := Lib.hid ((HC.out.block _ (Nat.lt_of_lt_of_le (lt_of_block VQ.out) HB.out.size) (by omega) (by have := HRBT.out; omega)).trans ((HB.out.block _ (lt_of_block VQ.out)).trans VQ.out))
    have HE3 : Hid (w3.heap[tb + 1]? = some (.cells #[.nilIface] 59 (0, 0))) := Lib.hid ((HC.out.block _ (Nat.lt_of_lt_of_le (lt_of_block VE.out) HB.out.size) (by have := HRBT.out; omega) (by omega)).trans ((HB.out.block _ (lt_of_block VE.out)).trans VE.out))
    have HET3 : Hid (ErrType w3) := Lib.hid (by
      have h1 := HET.out.below BV.out
      have h2 := h1.below HB.out
      unfold ErrType at h2 ⊢
      rw [World.cell?_of_block (w := w2) (HC.out.block _ (lt_of_cell h2) (show 0 ≠ rb by have := HRBT.out; have := HTW.out; omega) (show 0 ≠ tb by have := HTW.out; omega))]
      exact h2)
    go_upto_region 4 with fail
    obtain ⟨VO, hVO⟩ : ∃ VO : Nat → Option Nat, VO = fun j => if j = 6 then some tb else none := ⟨_, rfl⟩
    have vo6 : VO 6 = some tb := by rw [hVO]; rfl
    have von : ∀ j, j ≠ 6 → VO j = none := fun j h1 => by rw [hVO]; simp [h1]
    have vob : ∀ j b, b ≠ tb → VO j ≠ some b := fun j b hb => by
      by_cases h : j = 6
      · subst h; rw [vo6]; simp; exact fun e => hb e.symm
      · rw [von j h]; simp
    clear hVO
    refine wp_region_tailV 7 VO (fun i j b h1 h2 => by
        by_cases e1 : i = 6
        · by_cases e2 : j = 6
          · rw [e1, e2]
          · rw [von j e2] at h2; cases h2
        · rw [von i e1] at h1; cases h1) (fun _ _ _ => True) (fun _ => True) (fun _ _ _ _ _ => True) (fun _ _ => trivial) trivial
      (phis [fun u _ => u = .agg (cellsSlot x a3 c3 a4 c4), fun u _ => u = .pointer (some ⟨rb + 1, 0, none⟩), fun u _ => u = .pointer (some ⟨rb + 1, 0, none⟩), fun u _ => u = .pointer (some ⟨rb + 1, 0, none⟩), fun u _ => u = .pointer (some ⟨rb, 0, none⟩), fun u w' => if a < s.size then ∃ fb, u = .iface 127 (.pointer (some ⟨fb, 0, none⟩)) ∧ FltB w' fb 5 a ∧ fb ≠ tb else u = .nilIface, fun _ w' => w'.heap[tb]? = some (.cells (cellsSlot x a3 c3 a4 c4) 44 (0, 0))]) rfl (by kernel_rfl) (by kernel_rfl)
      (monoV_of ⟨monoV_eq, monoV_eq, monoV_eq, monoV_eq, monoV_eq, ?m5, ?m6, trivial⟩) (fun _ _ _ _ _ => trivial) (fun _ _ _ _ _ _ _ _ _ _ _ => trivial) (stepsV_of 7 ⟨?s0, ?s1, ?s2, ?s3, ?s4, ?s5, ?s6, trivial⟩) ?_
    case m5 =>
      intro j hj u w1 w2 he hp
      by_cases hlt : a < s.size
      · simp only [hlt, if_true] at hp ⊢
        obtain ⟨fb, h1, h2, h3⟩ := hp
        refine ⟨fb, h1, (he.1.block fb (lt_of_block h2) ?_).trans h2, h3⟩
        exact fun e => vob j fb h3 e.symm
      · simp only [hlt, if_false] at hp ⊢; exact hp
    case m6 =>
      intro j hj u w1 w2 he hp
      refine (he.1.block tb (lt_of_block hp) ?_).trans hp
      rw [von j hj]; simp
    case s0 =>
      refine stepV_val (v := .agg (cellsSlot x a3 c3 a4 c4)) (fun _ _ => trivial) (fun _ _ _ _ => ⟨trivial, trivial⟩) (fun D av wv hE hO hD => ?_) (fun _ => rfl)
      have h6 : ¬ D 6 := hE.notyet 6 _ rfl { on := 0, ground := .data } (by simp) rfl hE.me
      have hb0 : wv.heap[tb]? = some (.cells (cellsSlot x a3 c3 a4 c4) 44 (0, 0)) := (hE.late 6 h6 tb vo6 hts).trans HTH.out
      have k0 : wv.cell? ⟨tb, 0, none⟩ = some (.int .u64 (x 0).n) := block_cell hb0 0
      have k1 : wv.cell? ⟨tb, 1, none⟩ = some (.bool (x 1).q) := block_cell hb0 1
      have k2 : wv.cell? ⟨tb, 2, none⟩ = some (.int .u64 (x 2).n) := block_cell hb0 2
      have k3 : wv.cell? ⟨tb, 3, none⟩ = some (.slice a3 (len (x 3).l) c3) := block_cell hb0 3
      have k4 : wv.cell? ⟨tb, 4, none⟩ = some (.slice a4 (len (x 4).l) c4) := block_cell hb0 4
      have h4 : av.eval (.tmp 4) = .pointer (some ⟨tb, 0, none⟩) := hO.2.2 4 rfl
      have f4 := (ev_form av 4).symm.trans h4
      refine ⟨rfl, ?_⟩
      simp [go_sem, f4, k0, k1, k2, k3, k4]
    case s1 =>
      refine stepV_val (v := .pointer (some ⟨rb + 1, 0, none⟩)) (fun _ _ => trivial) (fun _ _ _ _ => ⟨trivial, trivial⟩) (fun D av wv hE hO hD => ?_) (fun _ => rfl)
      have h6 : av.eval (.tmp 6) = .pointer (some ⟨rb + 1, 0, none⟩) := hO.2.2 6 rfl
      have f6 := (ev_form av 6).symm.trans h6
      refine ⟨rfl, ?_⟩
      simp [go_sem, f6]
    case s2 =>
      refine stepV_val (v := .pointer (some ⟨rb + 1, 0, none⟩)) (fun _ _ => trivial) (fun _ _ _ _ => ⟨trivial, trivial⟩) (fun D av wv hE hO hD => ?_) (fun _ => rfl)
      have d17 : av.eval (.tmp 17) = .pointer (some ⟨rb + 1, 0, none⟩) := hD.1 rfl _ rfl
      have f17 := (ev_form av 17).symm.trans d17
      refine ⟨rfl, ?_⟩
      simp [go_sem, f17]
    case s3 =>
      refine stepV_val (v := .pointer (some ⟨rb + 1, 0, none⟩)) (fun _ _ => trivial) (fun _ _ _ _ => ⟨trivial, trivial⟩) (fun D av wv hE hO hD => ?_) (fun _ => rfl)
      have d18 : av.eval (.tmp 18) = .pointer (some ⟨rb + 1, 0, none⟩) := hD.1 rfl _ rfl
      have f18 := (ev_form av 18).symm.trans d18
      refine ⟨rfl, ?_⟩
      simp [go_sem, f18]
    case s4 =>
      refine stepV_val (v := .pointer (some ⟨rb, 0, none⟩)) (fun _ _ => trivial) (fun _ _ _ _ => ⟨trivial, trivial⟩) (fun D av wv hE hO hD => ?_) (fun _ => rfl)
      have d19 : av.eval (.tmp 19) = .pointer (some ⟨rb + 1, 0, none⟩) := hD.1 rfl _ rfl
      have f19 := (ev_form av 19).symm.trans d19
      have k0 : wv.cell? ⟨rb + 1, 0, none⟩ = some (.pointer (some ⟨rb, 0, none⟩)) := block_cell ((hE.ext.block (rb + 1) (lt_of_block HQ3.out) (fun j => vob j _ (by have := HRBT.out; omega))).trans HQ3.out) 0
      refine ⟨rfl, ?_⟩
      simp [go_sem, f19, k0]
    case s5 =>
      refine stepV_wp (fun D av wv hPP hE hO hD => ?_)
      have d20 : av.eval (.tmp 20) = .pointer (some ⟨rb, 0, none⟩) := hD.1 rfl _ rfl
      have f20 := (ev_form av 20).symm.trans d20
      have hrd : RdB wv rb s a 10240 := (hE.ext.block rb (lt_of_block HRD.out) (fun j => vob j _ (by have := HRBT.out; omega))).trans HRD.out
      have het : ErrType wv := by
        have h2 : ErrType w3.drew := HET3.out
        unfold ErrType at h2 ⊢
        rw [World.cell?_of_block (w := w3.drew) (hE.ext.block _ (lt_of_cell h2) (fun j => vob j _ (show 0 ≠ tb by have := HTW.out; omega)))]
        exact h2
      have hvs : w3.heap.size ≤ wv.heap.size := hE.ext.size
      refine ⟨rfl, wp_of_callR (f := 124) (args := #[.pointer (some ⟨rb, 0, none⟩)]) (R := fun u w2 => Below wv.heap.size wv w2 ∧ (if a < s.size then ∃ fb, u = .iface 127 (.pointer (some ⟨fb, 0, none⟩)) ∧ FltB w2 fb 5 a ∧ fb ≠ tb else u = .nilIface)) (by simp [go_sem, f20]) ((End_any wv rb s a 10240 het hrd hle hs).mono fun e w2 hh => ?_) (fun u w2 ⟨h1, h2⟩ => ⟨u, rfl, esV_of_ext h1 trivial, h2, fun _ _ _ _ _ => ⟨trivial, trivial⟩⟩)⟩
      obtain ⟨h1, h2⟩ := hh
      unfold leftOf at h2
      by_cases hlt : a < s.size
      · simp only [hlt, if_true] at h2 ⊢
        obtain ⟨fb, h3, h4, h5⟩ := h2
        exact ⟨_, h3, h1, fb, rfl, h5, by omega⟩
      · simp only [hlt, if_false] at h2 ⊢
        exact ⟨_, h2, h1, rfl⟩
    case s6 =>
      refine stepV_wp (fun D av wv hPP hE hO hD => ?_)
      have d16 : av.eval (.tmp 16) = .agg (cellsSlot x a3 c3 a4 c4) := hD.1 rfl _ rfl
      have f16 := (ev_form av 16).symm.trans d16
      have h4 : av.eval (.tmp 4) = .pointer (some ⟨tb, 0, none⟩) := hO.2.2 4 rfl
      have f4 := (ev_form av 4).symm.trans h4
      have hq : wv.heap[tb]? = some (.cells (cellsSlot x a3 c3 a4 c4) 44 (0, 0)) := (hE.own tb vo6 hts).trans HTH.out
      have k0 : wv.cell? ⟨tb, 0, none⟩ = some (.int .u64 (x 0).n) := block_cell hq 0
      have k1 : wv.cell? ⟨tb, 1, none⟩ = some (.bool (x 1).q) := block_cell hq 1
      have k2 : wv.cell? ⟨tb, 2, none⟩ = some (.int .u64 (x 2).n) := block_cell hq 2
      have k3 : wv.cell? ⟨tb, 3, none⟩ = some (.slice a3 (len (x 3).l) c3) := block_cell hq 3
      have k4 : wv.cell? ⟨tb, 4, none⟩ = some (.slice a4 (len (x 4).l) c4) := block_cell hq 4
      have hz : ∀ o, wv.frozen? ⟨tb, o, none⟩ = false := block_free hq
      have l0 : tb < wv.heap.size := lt_of_block hq
      refine ⟨rfl, ?_⟩
      unfold Oper.wp
      simp [go_sem, f4, f16, hz, l0, k0, k1, k2, k3, k4]
      exact ⟨⟨by rw [vo6]; exact (extB_setIn (extB_setIn (extB_setIn (extB_setIn (extB_setIn (ExtB_refl _ _) 0 _) 1 _) 2 _) 3 _) 4 _), trivial⟩, undef, (block_setCell (block_setCell (block_setCell (block_setCell (block_setCell hq (o := 0) _) (o := 1) _) (o := 2) _) (o := 3) _) (o := 4) _), fun _ _ _ _ _ => ⟨trivial, trivial⟩⟩
    intro a' w' hE _ hO hall _
    have hA := act_of_outer (ds := [16, 17, 18, 19, 20, 21]) rfl hO (by kernel_rfl)
    have e16 : (fun u (_ : World) => u = .agg (cellsSlot x a3 c3 a4 c4)) (a'.eval (.tmp 16)) w' := hall.1 _ rfl
    have e17 : (fun u (_ : World) => u = .pointer (some ⟨rb + 1, 0, none⟩)) (a'.eval (.tmp 17)) w' := hall.2.1 _ rfl
    have e18 : (fun u (_ : World) => u = .pointer (some ⟨rb + 1, 0, none⟩)) (a'.eval (.tmp 18)) w' := hall.2.2.1 _ rfl
    have e19 : (fun u (_ : World) => u = .pointer (some ⟨rb + 1, 0, none⟩)) (a'.eval (.tmp 19)) w' := hall.2.2.2.1 _ rfl
    have e20 : (fun u (_ : World) => u = .pointer (some ⟨rb, 0, none⟩)) (a'.eval (.tmp 20)) w' := hall.2.2.2.2.1 _ rfl
    have e21 : (fun u w' => if a < s.size then ∃ fb, u = .iface 127 (.pointer (some ⟨fb, 0, none⟩)) ∧ FltB w' fb 5 a ∧ fb ≠ tb else u = .nilIface) (a'.eval (.tmp 21)) w' := hall.2.2.2.2.2.1 _ rfl
    have z6 : w'.heap[tb]? = some (.cells (cellsSlot x a3 c3 a4 c4) 44 (0, 0)) := hall.2.2.2.2.2.2.1 _ rfl
    obtain ⟨v21, hv21⟩ : ∃ v, a'.eval (.tmp 21) = v := ⟨_, rfl⟩
    rw [hv21] at e21
    simp only [List.foldl_cons, List.foldl_nil, Act.put, List.setIfInBounds_toArray, List.set_cons_succ, List.set_cons_zero, e16, e17, e18, e19, e20, hv21] at hA
    clear hO hall e16 e17 e18 e19 e20 hv21
    subst hA
    have HX4 : Hid (ExtS VO w3 w') := Lib.hid ⟨hE.os, hE.tape, hE.output, hE.size, hE.block⟩
    have HZ6 := Lib.hid z6
    have hbe : w'.heap[tb + 1]? = some (.cells #[.nilIface] 59 (0, 0)) := (HX4.out.block _ (lt_of_block HE3.out) (fun j => vob j _ (by omega))).trans HE3.out
    have HBE := Lib.hid hbe
    have g0 : w'.cell? ⟨tb + 1, 0, none⟩ = some .nilIface := block_cell hbe 0
    have g1 : w'.frozen? ⟨tb + 1, 0, none⟩ = false := block_free hbe 0
    have HVO : Hid (∀ j b, b ≠ tb → VO j ≠ some b) := Lib.hid vob
    have HFIN : ∀ v, Hid (Below w.heap.size w (w'.setCell ⟨tb + 1, 0, none⟩ v)) := fun v => Lib.hid (by
      have hsz := HTW.out
      have hb9 := HRBT.out
      refine ⟨HX4.out.os.trans (HC.out.os.trans (HB.out.os.trans BV.out.os)), HX4.out.tape.trans (HC.out.tape.trans (HB.out.tape.trans BV.out.tape)), HX4.out.output.trans (HC.out.output.trans (HB.out.output.trans BV.out.output)), by simpa using Nat.le_trans BV.out.size (Nat.le_trans HB.out.size (Nat.le_trans HC.out.size HX4.out.size)), fun i hi => ?_⟩
      have l1 := Nat.lt_of_lt_of_le hi BV.out.size
      have l2 := Nat.lt_of_lt_of_le l1 HB.out.size
      rw [Below.heap_setCell _ _ _ _ (show i ≠ tb + 1 by omega)]
      exact (HX4.out.block i (Nat.lt_of_lt_of_le l2 HC.out.size) (fun j => HVO.out j i (by omega))).trans ((HC.out.block i l2 (by omega) (by omega)).trans ((HB.out.block i l1).trans (BV.out.block i hi))))
    have HLF : ∀ v, Hid (LiesSlot rb tb (w'.setCell ⟨tb + 1, 0, none⟩ v) x a3 c3 a4 c4) := fun v => Lib.hid (HLI.out.up (fun b h1 h2 => by
      have hb9 := HRBT.out
      rw [Below.heap_setCell _ _ _ _ (show b ≠ tb + 1 by omega)]
      exact HX4.out.block b h2 (fun j => HVO.out j b (by omega))))
    have HTF : ∀ v o, (w'.setCell ⟨tb + 1, 0, none⟩ v).cell? ⟨tb, o, none⟩ = (cellsSlot x a3 c3 a4 c4)[o]? := fun v o => block_cell (block_setCell_ne HZ6.out (by show tb ≠ tb + 1; omega) v) o
    have HEF : ∀ v, (w'.setCell ⟨tb + 1, 0, none⟩ v).cell? ⟨tb + 1, 0, none⟩ = some v := fun v => block_cell (block_setCell HBE.out v) 0
    have HTFH := Lib.hid HTF
    have HEFH := Lib.hid HEF
    clear hE z6 hbe vo6 von vob HTF HEF
    by_cases hlt : a < s.size
    · simp only [hlt, if_true] at e21
      obtain ⟨fb, rfl, hf, hft⟩ := e21
      have HF := Lib.hid hf
      have HLT := Lib.hid hlt
      clear hf hlt
      go_wp2
      refine leaves_cons (f := 140) (args := #[.pointer (some ⟨tb, 0, none⟩), .pointer (some ⟨tb + 1, 0, none⟩)]) (by simp) (by simp [go_sem]) ?_
      refine (read1Slot_idle _ _ _).mono ?_
      rintro e u' w'' ⟨rfl, rfl, rfl⟩
      have y0 := HTFH.out (.iface 127 (.pointer (some ⟨fb, 0, none⟩)))
      have y1 := HEFH.out (.iface 127 (.pointer (some ⟨fb, 0, none⟩)))
      refine ⟨_, by simp [results, Tryz.results77, go_sem, y0, y1]; rfl, ?_⟩
      refine ⟨(HFIN _).out, ?_⟩
      rw [HR.out]
      refine ⟨HKD.out, hle, a3, c3, a4, c4, ⟨rb, tb, by have := HRBT.out; have := HTW.out; omega, (HLF _).out⟩, ?_⟩
      rw [if_pos HLT.out]
      exact ⟨fb, rfl, block_setCell_ne HF.out (by intro e; subst e; have h9 := HBE.out.symm.trans HF.out; cases h9) _⟩
    · simp only [hlt, if_false] at e21
      subst e21
      have HLT := Lib.hid hlt
      clear hlt
      go_wp2
      refine leaves_cons (f := 140) (args := #[.pointer (some ⟨tb, 0, none⟩), .pointer (some ⟨tb + 1, 0, none⟩)]) (by simp) (by simp [go_sem]) ?_
      refine (read1Slot_idle _ _ _).mono ?_
      rintro e u' w'' ⟨rfl, rfl, rfl⟩
      have y0 := HTFH.out .nilIface
      have y1 := HEFH.out .nilIface
      refine ⟨_, by simp [results, Tryz.results77, go_sem, y0, y1]; rfl, ?_⟩
      refine ⟨(HFIN _).out, ?_⟩
      rw [HR.out]
      refine ⟨HKD.out, hle, a3, c3, a4, c4, ⟨rb, tb, by have := HRBT.out; have := HTW.out; omega, (HLF _).out⟩, ?_⟩
      rw [if_neg HLT.out]
abbrev cellsCert (x : Rcd) (a2 : Option Addr) (c2 : Nat) (a3 : Option Addr) (c3 : Nat) (a4 : Option Addr) (c4 : Nat) (a5 : Option Addr) (c5 : Nat) : Array Value := #[.string (x 0).s, .int .u64 (x 1).n, .slice a2 (len (x 2).rs) c2, .slice a3 (len (x 3).ns) c3, .slice a4 (len (x 4).l) c4, .slice a5 (len (x 5).l) c5]
abbrev zeroCert : Value := .agg #[.string ⟨#[]⟩, .int .u64 0, .slice none 0 0, .slice none 0 0, .slice none 0 0, .slice none 0 0]
def LiesCert (rb tb : Nat) (w : World) (x : Rcd) (a2 : Option Addr) (c2 : Nat) (a3 : Option Addr) (c3 : Nat) (a4 : Option Addr) (c4 : Nat) (a5 : Option Addr) (c5 : Nat) : Prop := HoldsD rb tb w (.slice a2 (len (x 2).rs) c2) (x 2) ∧ HoldsD rb tb w (.slice a3 (len (x 3).ns) c3) (x 3) ∧ HoldsD rb tb w (.slice a4 (len (x 4).l) c4) (x 4) ∧ HoldsD rb tb w (.slice a5 (len (x 5).l) c5) (x 5)
theorem LiesCert.below {rb tb : Nat} {w w' : World} {x : Rcd} {a2 : Option Addr} {c2 : Nat} {a3 : Option Addr} {c3 : Nat} {a4 : Option Addr} {c4 : Nat} {a5 : Option Addr} {c5 : Nat} (h : LiesCert rb tb w x a2 c2 a3 c3 a4 c4 a5 c5) (hb : Below w.heap.size w w') : LiesCert rb tb w' x a2 c2 a3 c3 a4 c4 a5 c5 := ⟨h.1.chg (Chg.of_below hb), h.2.1.chg (Chg.of_below hb), h.2.2.1.chg (Chg.of_below hb), h.2.2.2.chg (Chg.of_below hb)⟩
theorem LiesCert.chg {rb tb : Nat} {w w' : World} {x : Rcd} {a2 : Option Addr} {c2 : Nat} {a3 : Option Addr} {c3 : Nat} {a4 : Option Addr} {c4 : Nat} {a5 : Option Addr} {c5 : Nat} (h : LiesCert rb tb w x a2 c2 a3 c3 a4 c4 a5 c5) (hb : Chg rb tb w w') : LiesCert rb tb w' x a2 c2 a3 c3 a4 c4 a5 c5 := ⟨h.1.chg hb, h.2.1.chg hb, h.2.2.1.chg hb, h.2.2.2.chg hb⟩
theorem LiesCert.up {rb tb : Nat} {w w' : World} {x : Rcd} {a2 : Option Addr} {c2 : Nat} {a3 : Option Addr} {c3 : Nat} {a4 : Option Addr} {c4 : Nat} {a5 : Option Addr} {c5 : Nat} (h : LiesCert rb tb w x a2 c2 a3 c3 a4 c4 a5 c5) (hb : Up rb w w') : LiesCert rb tb w' x a2 c2 a3 c3 a4 c4 a5 c5 := ⟨h.1.up hb, h.2.1.up hb, h.2.2.1.up hb, h.2.2.2.up hb⟩
theorem cert_of_rec {rb tb : Nat} {w : World} {x : Rcd} (h : RecAt rb tb 28 6 w x) (hk : Kd cert0 x) : ∃ (a2 : Option Addr) (c2 : Nat) (a3 : Option Addr) (c3 : Nat) (a4 : Option Addr) (c4 : Nat) (a5 : Option Addr) (c5 : Nat), w.heap[tb]? = some (.cells (cellsCert x a2 c2 a3 c3 a4 c4 a5 c5) 28 (0, 0)) ∧ LiesCert rb tb w x a2 c2 a3 c3 a4 c4 a5 c5 := by
  obtain ⟨cs, h1, h2, h3⟩ := h
  obtain ⟨m0, e0⟩ := hk.str (show kindD (cert0 0) = _ from rfl)
  obtain ⟨u0, g0, d0⟩ := h3 0 (by decide)
  rw [e0] at d0
  simp only [HoldsD] at d0
  subst d0
  obtain ⟨m1, e1⟩ := hk.num (show kindD (cert0 1) = _ from rfl)
  obtain ⟨u1, g1, d1⟩ := h3 1 (by decide)
  rw [e1] at d1
  simp only [HoldsD] at d1
  subst d1
  obtain ⟨m2, e2⟩ := hk.revs (show kindD (cert0 2) = _ from rfl)
  obtain ⟨u2, g2, d2⟩ := h3 2 (by decide)
  have D2 := d2
  rw [e2] at d2
  obtain ⟨a2, c2, q2, -⟩ := d2
  subst q2
  obtain ⟨m3, e3⟩ := hk.nums (show kindD (cert0 3) = _ from rfl)
  obtain ⟨u3, g3, d3⟩ := h3 3 (by decide)
  have D3 := d3
  rw [e3] at d3
  obtain ⟨a3, c3, q3, -⟩ := d3
  subst q3
  obtain ⟨m4, e4⟩ := hk.strs (show kindD (cert0 4) = _ from rfl)
  obtain ⟨u4, g4, d4⟩ := h3 4 (by decide)
  have D4 := d4
  rw [e4] at d4
  obtain ⟨a4, c4, q4, -⟩ := d4
  subst q4
  obtain ⟨m5, e5⟩ := hk.strs (show kindD (cert0 5) = _ from rfl)
  obtain ⟨u5, g5, d5⟩ := h3 5 (by decide)
  have D5 := d5
  rw [e5] at d5
  obtain ⟨a5, c5, q5, -⟩ := d5
  subst q5
  refine ⟨a2, c2, a3, c3, a4, c4, a5, c5, ?_, ?_⟩
  · rw [h1]; congr 2; apply Array.ext_getElem?; intro i
    match i with
    | 0 => rw [g0]; simp [e0, DV.n, DV.q, DV.s, DV.l, DV.ns, DV.rs]
    | 1 => rw [g1]; simp [e1, DV.n, DV.q, DV.s, DV.l, DV.ns, DV.rs]
    | 2 => rw [g2]; simp [e2, DV.n, DV.q, DV.s, DV.l, DV.ns, DV.rs]
    | 3 => rw [g3]; simp [e3, DV.n, DV.q, DV.s, DV.l, DV.ns, DV.rs]
    | 4 => rw [g4]; simp [e4, DV.n, DV.q, DV.s, DV.l, DV.ns, DV.rs]
    | 5 => rw [g5]; simp [e5, DV.n, DV.q, DV.s, DV.l, DV.ns, DV.rs]
    | i + 6 => rw [Array.getElem?_eq_none (by omega), Array.getElem?_eq_none (by simp)]
  · exact ⟨(by rw [e2] at D2 ⊢; exact D2), (by rw [e3] at D3 ⊢; exact D3), (by rw [e4] at D4 ⊢; exact D4), (by rw [e5] at D5 ⊢; exact D5)⟩
set_option maxRecDepth 100000 in
theorem read1Cert_idle (p q : Value) (w : World) : CallsD Tryz.prog 160 #[p, q] .returning w fun e u' w' => e = .returned (.tuple #[]) ∧ u' = .returning ∧ w' = w := by
  refine callsD_of_wpS Tryz.func160 rfl fun c₀ cs hu => ?_
  apply wpS_seq
  apply wpS_region
  simp [wpOpsS, go_sem, recoverD, hu, Tryz.ntmps160, Exit.thenS]
  refine wpS_of_wp ?_
  obtain ⟨Q, hQ⟩ : ∃ Q : Exit → Act → World → Prop, (fun e a' w' => bodyPostS Tryz.prog Tryz.f160 c₀ cs (fun e u' w' => e = Ending.returned (.tuple #[]) ∧ u' = .returning ∧ w' = w) e a' (c₀ :: cs) w') = Q := ⟨_, rfl⟩
  rw [hQ, read1_frame]
  have HQ := Lib.hid hQ
  clear hQ
  go_wp2
  rw [← HQ.out]
  simp [bodyPostS, results, Tryz.results160]
  cases c₀; simp_all
structure AfterCert (tb eb fb : Nat) (w w' : World) : Prop where
  os : w'.os = w.os
  tape : w'.tape = w.tape
  output : w'.output = w.output
  size : w.heap.size ≤ w'.heap.size
  block : ∀ i, i < w.heap.size → i ≠ tb → i ≠ eb → w'.heap[i]? = w.heap[i]?
  th : w'.heap[tb]? = some (.cells #[.string ⟨#[]⟩, .int .u64 0, .slice none 0 0, .slice none 0 0, .slice none 0 0, .slice none 0 0] 28 (0, 0))
  er : w'.heap[eb]? = some (.cells #[.iface 127 (.pointer (some ⟨fb, 0, none⟩))] 59 (0, 0))
set_option maxRecDepth 100000 in
set_option maxHeartbeats 4000000 in
theorem read1Cert_some (tb eb fb : Nat) (cs : Array Value) (w : World) (ht : w.heap[tb]? = some (.cells cs 28 (0, 0))) (hcs : ∃ u0 u1 u2 u3 u4 u5 : Value, cs = #[u0, u1, u2, u3, u4, u5] ) (he : w.heap[eb]? = some (.cells #[.nilIface] 59 (0, 0))) (hne : tb ≠ eb) :
    CallsD Tryz.prog 160 #[.pointer (some ⟨tb, 0, none⟩), .pointer (some ⟨eb, 0, none⟩)] (.panicking (stopC fb)) w fun e u' w' =>
      e = .returned (.tuple #[]) ∧ u' = .panicking [{ v := .iface 193 (.agg #[.iface 127 (.pointer (some ⟨fb, 0, none⟩))]), recovered := true }] ∧ AfterCert tb eb fb w w' := by
  obtain ⟨u0, u1, u2, u3, u4, u5, rfl⟩ := hcs
  refine callsD_of_wpS Tryz.func160 rfl fun c₀ cs hu => ?_
  apply wpS_seq
  apply wpS_region
  simp [wpOpsS, go_sem, recoverD, hu, stopC, Tryz.ntmps160, Exit.thenS]
  refine wpS_of_wp ?_
  obtain ⟨Q, hQ⟩ : ∃ Q : Exit → Act → World → Prop, (fun e a' w' => bodyPostS Tryz.prog Tryz.f160 c₀ cs (fun e u' w' => e = Ending.returned (.tuple #[]) ∧ u' = .panicking [{ v := .iface 193 (.agg #[.iface 127 (.pointer (some ⟨fb, 0, none⟩))]), recovered := true }] ∧ AfterCert tb eb fb w w') e a' ({ c₀ with mode := .panicking [{ v := .iface 193 (.agg #[.iface 127 (.pointer (some ⟨fb, 0, none⟩))]), recovered := true }] } :: cs) w') = Q := ⟨_, rfl⟩
  rw [hQ, read1_frame]
  have HQ := Lib.hid hQ
  have HT := Lib.hid ht
  have HE := Lib.hid he
  clear hQ hu ht he
  have ha := assert_stop fb
  go_wp2_with fail
  obtain ⟨V, hV⟩ : ∃ V, (w.alloc (.cells #[.iface 127 (.pointer (some ⟨fb, 0, none⟩))] 193)).alloc (.cells #[.string ⟨#[]⟩, .int .u64 0, .slice none 0 0, .slice none 0 0, .slice none 0 0, .slice none 0 0] 28) = V := ⟨_, rfl⟩
  obtain ⟨sb, hsb⟩ : ∃ sb, w.heap.size = sb := ⟨_, rfl⟩
  have HV : Hid (Below w.heap.size w V) := Lib.hid (by rw [← hV]; exact balloc (balloc (Below.refl _ _) _) _)
  have hbs : V.heap[sb]? = some (.cells #[.iface 127 (.pointer (some ⟨fb, 0, none⟩))] 193 (0, 0)) := by rw [← hV, ← hsb]; exact block_alloc (heap_alloc_new _ _) _
  have hbn : V.heap[sb + 1]? = some (.cells #[.string ⟨#[]⟩, .int .u64 0, .slice none 0 0, .slice none 0 0, .slice none 0 0, .slice none 0 0] 28 (0, 0)) := by rw [← hV]; exact alloc_new_at _ (by simp [hsb])
  have hbt : V.heap[tb]? = some (.cells #[u0, u1, u2, u3, u4, u5] 28 (0, 0)) := (HV.out.block _ (lt_of_block HT.out)).trans HT.out
  have hbe : V.heap[eb]? = some (.cells #[.nilIface] 59 (0, 0)) := (HV.out.block _ (lt_of_block HE.out)).trans HE.out
  have k0 : V.cell? ⟨sb, 0, none⟩ = some (.iface 127 (.pointer (some ⟨fb, 0, none⟩))) := block_cell hbs 0
  have m0 : V.cell? ⟨sb + 1, 0, none⟩ = some (.string ⟨#[]⟩) := block_cell hbn 0
  have m1 : V.cell? ⟨sb + 1, 1, none⟩ = some (.int .u64 0) := block_cell hbn 1
  have m2 : V.cell? ⟨sb + 1, 2, none⟩ = some (.slice none 0 0) := block_cell hbn 2
  have m3 : V.cell? ⟨sb + 1, 3, none⟩ = some (.slice none 0 0) := block_cell hbn 3
  have m4 : V.cell? ⟨sb + 1, 4, none⟩ = some (.slice none 0 0) := block_cell hbn 4
  have m5 : V.cell? ⟨sb + 1, 5, none⟩ = some (.slice none 0 0) := block_cell hbn 5
  have hts : tb < sb := by have := lt_of_block HT.out; omega
  have hnt : some (sb + 1) ≠ some tb := by simp; omega
  have hst : some sb ≠ some tb := by simp; omega
  have HBT := Lib.hid hbt
  have HBE := Lib.hid hbe
  try rw [hV]
  try simp only [hsb]
  clear hV hbs hbn hbt hbe ha
  refine wp_region_tail 4 3 ((some tb)) (phis [fun u _ => u = (.agg #[.string ⟨#[]⟩, .int .u64 0, .slice none 0 0, .slice none 0 0, .slice none 0 0, .slice none 0 0]), fun u _ => u = (.pointer (some ⟨sb, 0, none⟩)), fun u _ => u = (.iface 127 (.pointer (some ⟨fb, 0, none⟩))), fun _ w' => w'.heap[tb]? = some (.cells #[.string ⟨#[]⟩, .int .u64 0, .slice none 0 0, .slice none 0 0, .slice none 0 0, .slice none 0 0] 28 (0, 0))]) rfl (by kernel_rfl) (by kernel_rfl) (mono_of ⟨mono_eq, mono_eq, mono_eq, ?m3, trivial⟩) (steps_of 4 ⟨?s0, ?s1, ?s2, ?s3, trivial⟩) ?_
  case m3 =>
    exact ⟨fun u w1 w2 h hb => ext_block h hb, fun hn => absurd rfl hn⟩
  case s0 =>
    refine step_val (v := (.agg #[.string ⟨#[]⟩, .int .u64 0, .slice none 0 0, .slice none 0 0, .slice none 0 0, .slice none 0 0])) (fun av wv hE hS hO hD => ?_) (fun _ => rfl)
    have h5 : av.eval (.tmp 5) = (.pointer (some ⟨sb + 1, 0, none⟩)) := hO.2.2 5 rfl
    have f5 := (ev_form av 5).symm.trans h5
    have k0 := extB_cell hE hst k0
    have m0 := extB_cell hE hnt m0
    have m1 := extB_cell hE hnt m1
    have m2 := extB_cell hE hnt m2
    have m3 := extB_cell hE hnt m3
    have m4 := extB_cell hE hnt m4
    have m5 := extB_cell hE hnt m5
    refine ⟨rfl, ?_⟩
    simp [go_sem, f5, k0, m0, m1, m2, m3, m4, m5]
  case s1 =>
    refine step_val (v := (.pointer (some ⟨sb, 0, none⟩))) (fun av wv hE hS hO hD => ?_) (fun _ => rfl)
    have h3 : av.eval (.tmp 3) = (.pointer (some ⟨sb, 0, none⟩)) := hO.2.2 3 rfl
    have f3 := (ev_form av 3).symm.trans h3
    refine ⟨rfl, ?_⟩
    simp [go_sem, f3]
  case s2 =>
    refine step_val (v := (.iface 127 (.pointer (some ⟨fb, 0, none⟩)))) (fun av wv hE hS hO hD => ?_) (fun _ => rfl)
    have d18 : av.eval (.tmp 18) = (.pointer (some ⟨sb, 0, none⟩)) := hD.1 rfl _ rfl
    have f18 := (ev_form av 18).symm.trans d18
    have k0 := extB_cell hE hst k0
    have m0 := extB_cell hE hnt m0
    have m1 := extB_cell hE hnt m1
    have m2 := extB_cell hE hnt m2
    have m3 := extB_cell hE hnt m3
    have m4 := extB_cell hE hnt m4
    have m5 := extB_cell hE hnt m5
    refine ⟨rfl, ?_⟩
    simp [go_sem, f18, k0, m0, m1, m2, m3, m4, m5]
  case s3 =>
    refine step_wp (fun av wv hE hS hO hD => ?_)
    have h0 : av.eval (.tmp 0) = (.pointer (some ⟨tb, 0, none⟩)) := hO.2.2 0 rfl
    have f0 := (ev_form av 0).symm.trans h0
    have d17 : av.eval (.tmp 17) = (.agg #[.string ⟨#[]⟩, .int .u64 0, .slice none 0 0, .slice none 0 0, .slice none 0 0, .slice none 0 0]) := hD.1 rfl _ rfl
    have f17 := (ev_form av 17).symm.trans d17
    refine ⟨rfl, ?_⟩
    have hq : wv.heap[tb]? = some (.cells #[u0, u1, u2, u3, u4, u5] 28 (0, 0)) := ext_block (w := V.drew) (hS rfl) HBT.out
    have q0 : wv.cell? ⟨tb, 0, none⟩ = some u0 := block_cell hq 0
    have q1 : wv.cell? ⟨tb, 1, none⟩ = some u1 := block_cell hq 1
    have q2 : wv.cell? ⟨tb, 2, none⟩ = some u2 := block_cell hq 2
    have q3 : wv.cell? ⟨tb, 3, none⟩ = some u3 := block_cell hq 3
    have q4 : wv.cell? ⟨tb, 4, none⟩ = some u4 := block_cell hq 4
    have q5 : wv.cell? ⟨tb, 5, none⟩ = some u5 := block_cell hq 5
    have hz : ∀ o, wv.frozen? ⟨tb, o, none⟩ = false := block_free hq
    unfold Oper.wp
    have l0 : tb < wv.heap.size := lt_of_block hq
    have h0 : av.eval (.tmp 0) = (.pointer (some ⟨tb, 0, none⟩)) := hO.2.2 0 rfl
    have f0 := (ev_form av 0).symm.trans h0
    simp [go_sem, f0, f17, hz, l0, q0, q1, q2, q3, q4, q5]
    exact ⟨es_sp (extB_setIn (extB_setIn (extB_setIn (extB_setIn (extB_setIn (extB_setIn (ExtB_refl _ _) 0 _) 1 _) 2 _) 3 _) 4 _) 5 _), undef, (block_setCell (block_setCell (block_setCell (block_setCell (block_setCell (block_setCell hq (o := 0) _) (o := 1) _) (o := 2) _) (o := 3) _) (o := 4) _) (o := 5) _)⟩
  intro a' w' hE hO hall
  have hA := act_of_outer (ds := [17, 18, 19]) rfl hO (by kernel_rfl)
  have e17 : (fun u _ => u = (.agg #[.string ⟨#[]⟩, .int .u64 0, .slice none 0 0, .slice none 0 0, .slice none 0 0, .slice none 0 0])) (a'.eval (.tmp 17)) w' := hall.1 _ rfl
  have e18 : (fun u _ => u = (.pointer (some ⟨sb, 0, none⟩))) (a'.eval (.tmp 18)) w' := hall.2.1 _ rfl
  have e19 : (fun u _ => u = (.iface 127 (.pointer (some ⟨fb, 0, none⟩)))) (a'.eval (.tmp 19)) w' := hall.2.2.1 _ rfl
  have z3 : (fun _ w' => w'.heap[tb]? = some (.cells #[.string ⟨#[]⟩, .int .u64 0, .slice none 0 0, .slice none 0 0, .slice none 0 0, .slice none 0 0] 28 (0, 0))) undef w' := hall.2.2.2.1 _ rfl
  simp only [List.foldl_cons, List.foldl_nil, Act.put, List.setIfInBounds_toArray, List.set_cons_succ, List.set_cons_zero, e17, e18, e19] at hA
  clear hO hall e17 e18 e19
  subst hA
  have HE := Lib.hid (of_drewE hE)
  have HZ := Lib.hid z3
  have hbe : w'.heap[eb]? = some (.cells #[.nilIface] 59 (0, 0)) := extB_block HE.out (by simp; exact fun e => hne e.symm) HBE.out
  have HBE := Lib.hid hbe
  have q0 : w'.cell? ⟨eb, 0, none⟩ = some .nilIface := block_cell hbe 0
  have q1 : w'.frozen? ⟨eb, 0, none⟩ = false := block_free hbe 0
  clear hE z3 hbe
  go_wp2
  rw [← HQ.out]
  have hs1 : (w'.setCell ⟨eb, 0, none⟩ (.iface 127 (.pointer (some ⟨fb, 0, none⟩)))).heap.size = w'.heap.size := by simp
  refine ⟨rfl, _, rfl, .tuple #[], by simp [results, Tryz.results160], rfl, rfl, ?_⟩
  exact ⟨HE.out.os.trans HV.out.os, HE.out.tape.trans HV.out.tape, HE.out.output.trans HV.out.output, by rw [hs1]; exact Nat.le_trans HV.out.size HE.out.size, fun i hi h1 h2 => by
    rw [Below.heap_setCell _ _ _ _ h2]
    exact (HE.out.block i (Nat.lt_of_lt_of_le hi HV.out.size) (by simpa using h1)).trans (HV.out.block i hi), block_setCell_ne HZ.out hne _, block_setCell HBE.out _⟩
def RdCert (s : ByteArray) (w : World) (e : Ending) (w' : World) : Prop :=
  Below w.heap.size w w' ∧ match objR s (certGs s) cert0 0 with
    | .error f => ∃ fb, e = .returned (.tuple #[zeroCert, .iface 127 (.pointer (some ⟨fb, 0, none⟩))]) ∧ FltB w' fb f.1 f.2
    | .ok y => Kd cert0 y.1 ∧ y.2 ≤ s.size ∧ ∃ (a2 : Option Addr) (c2 : Nat) (a3 : Option Addr) (c3 : Nat) (a4 : Option Addr) (c4 : Nat) (a5 : Option Addr) (c5 : Nat), (∃ rb tb, w.heap.size ≤ rb ∧ LiesCert rb tb w' y.1 a2 c2 a3 c3 a4 c4 a5 c5) ∧ (if y.2 < s.size then ∃ fb, e = .returned (.tuple #[.agg (cellsCert y.1 a2 c2 a3 c3 a4 c4 a5 c5), .iface 127 (.pointer (some ⟨fb, 0, none⟩))]) ∧ FltB w' fb 5 y.2 else e = .returned (.tuple #[.agg (cellsCert y.1 a2 c2 a3 c3 a4 c4 a5 c5), .nilIface]))
set_option maxRecDepth 100000 in
set_option maxHeartbeats 8000000 in
theorem readCert_any (B : Nat) (s : ByteArray) (w : World) (hT : Tabs B w) (hET : ErrType w) (hB : B ≤ w.heap.size) (hg : 0 < B) (hs : s.size ≤ 9223372036854775807) :
    Calls Tryz.prog 100 #[.string s, .func (.func 93) #[] #[]] w (RdCert s w) := by
  have HT := Lib.hid hT
  have HET := Lib.hid hET
  have ef := enters_of Tryz.func93 (by kernel_rfl) rfl
  clear hT hET
  go_enter_defers Tryz.func100, Tryz.ntmps100
  go_wp2_with fail
  obtain ⟨tb, htb⟩ : ∃ tb, w.heap.size = tb := ⟨_, rfl⟩
  obtain ⟨W, hW⟩ : ∃ W, (w.alloc (.cells #[.string ⟨#[]⟩, .int .u64 0, .slice none 0 0, .slice none 0 0, .slice none 0 0, .slice none 0 0] 28)).alloc (.cells #[.nilIface] 59) = W := ⟨_, rfl⟩
  have WB : Hid (Below w.heap.size w W) := Lib.hid (by rw [← hW]; exact balloc (balloc (Below.refl _ _) _) _)
  have W0 : Hid (W.heap[tb]? = some (.cells #[.string ⟨#[]⟩, .int .u64 0, .slice none 0 0, .slice none 0 0, .slice none 0 0, .slice none 0 0] 28 (0, 0))) := Lib.hid (by rw [← hW, ← htb]; exact block_alloc (heap_alloc_new _ _) _)
  have W1 : Hid (W.heap[tb + 1]? = some (.cells #[.nilIface] 59 (0, 0))) := Lib.hid (by rw [← hW]; exact alloc_new_at _ (by simp [htb]))
  have hWs : W.heap.size = tb + 1 + 1 := by rw [← hW]; simp [htb]
  have HTW : Hid (w.heap.size = tb) := Lib.hid htb
  try rw [hW]
  try simp only [htb]
  clear hW htb
  refine (New_any W s 10240).mono ?_
  rintro e w1 ⟨rfl, hw1⟩
  have hm : max (10240 : Int) 0 = 10240 := by decide
  rw [hm] at hw1
  obtain ⟨rb, hrb⟩ : ∃ rb, W.heap.size = rb := ⟨_, rfl⟩
  have R1 : Hid (RdB w1 rb s 0 10240) := Lib.hid (by rw [hw1, ← hrb]; exact heap_alloc_new _ _)
  have WB1 : Hid (Below W.heap.size W w1) := Lib.hid (by rw [hw1]; exact balloc (Below.refl _ _) _)
  have hs1 : w1.heap.size = rb + 1 := by rw [hw1, ← hrb]; simp
  try rw [hrb]
  clear hw1
  go_upto_region 3 with fail
  obtain ⟨V, hV⟩ : ∃ V, w1.alloc (.cells #[.pointer (some ⟨rb, 0, none⟩)] 199) = V := ⟨_, rfl⟩
  have VB : Hid (Below w1.heap.size w1 V) := Lib.hid (by rw [← hV]; exact balloc (Below.refl _ _) _)
  have VQ : Hid (V.heap[rb + 1]? = some (.cells #[.pointer (some ⟨rb, 0, none⟩)] 199 (0, 0))) := Lib.hid (by rw [← hV]; exact alloc_new_at _ hs1)
  try rw [hV]
  try simp only [hs1]
  have hrbt : rb = tb + 1 + 1 := hrb.symm.trans hWs
  have hTW := HTW.out
  have BV : Hid (Below w.heap.size w V) := Lib.hid (bnext (bnext WB.out WB1.out) VB.out)
  have WV : Hid (Below W.heap.size W V) := Lib.hid (bnext WB1.out VB.out)
  have VT : Hid (V.heap[tb]? = some (.cells #[.string ⟨#[]⟩, .int .u64 0, .slice none 0 0, .slice none 0 0, .slice none 0 0, .slice none 0 0] 28 (0, 0))) := Lib.hid ((WV.out.block _ (lt_of_block W0.out)).trans W0.out)
  have VE : Hid (V.heap[tb + 1]? = some (.cells #[.nilIface] 59 (0, 0))) := Lib.hid ((WV.out.block _ (lt_of_block W1.out)).trans W1.out)
  have VR : Hid (RdB V rb s 0 10240) := Lib.hid (R1.out.below VB.out)
  have ENV : Hid (RdEnv B V (rb + 1) rb s 0) := Lib.hid ⟨VQ.out, VR.out, HT.out.below BV.out, by omega, by omega, by omega, Nat.zero_le _, hs⟩
  have E : TEnv B (rb + 1) rb tb 6 28 V := ⟨⟨_, VR.out⟩, ⟨_, VT.out⟩, by omega, by omega, by omega, by decide, by decide⟩
  have REC : Hid (RecAt rb tb 28 6 V cert0) := Lib.hid (rec_zero VT.out rfl (fun i hi => by
    match i, hi with
    | 0, _ => exact ⟨_, rfl, rfl⟩
    | 1, _ => exact ⟨_, rfl, rfl⟩
    | 2, _ => exact ⟨_, rfl, rfl, rfl⟩
    | 3, _ => exact ⟨_, rfl, rfl, rfl⟩
    | 4, _ => exact ⟨_, rfl, rfl, rfl⟩
    | 5, _ => exact ⟨_, rfl, rfl, rfl⟩))
  have HOF := Lib.hid (rofCert_any (s := s) E)
  have HE := Lib.hid E
  have G : Hid (GOk cert0 (certGs s)) := Lib.hid (CertOk s)
  have HRBT := Lib.hid hrbt
  clear hV E hrb hs1 hWs hrbt hTW
  go_wp2_with fail
  refine HOF.out.mono ?_
  rintro e w2 ⟨u, rfl, ⟨g, c, l, rfl, hc, hF, hS⟩, hb⟩
  have hl : (certGs s).length = l.length := hS.1
  have hg := (HE.out.below hb).apart hF.ex
  have H2 := Lib.hid (robject_any B (rb + 1) rb tb g 0 c cert0 28 6 s w2 w2 l (certGs s) 0 cert0 hF.flds hc (show l.length ≤ 1000 by rw [← hl]; exact Nat.le_of_ble_eq_true rfl) hS (Chg.refl _ _ _) hg HE.out.nq HE.out.le HE.out.ne G.out.keys G.out.disj G.out.frames G.out.kinds (fun i => rfl) (REC.out.below hb) (ENV.out.below hb) (fun i hi o ho => rfl))
  have HB := Lib.hid hb
  clear hF hS hb hl hc hg HOF ef
  go_wp2_with fail
  refine H2.out.mono ?_
  intro e w3 hh
  cases hr : objR s (certGs s) cert0 0 with
  | error f =>
    rw [hr] at hh
    have HTH := Lib.hid (getIs_th hh)
    obtain ⟨fb, rfl, hf, hc3⟩ := getIs_err hh
    have HF := Lib.hid hf
    have HC := Lib.hid hc3
    have HR := Lib.hid hr
    clear hh hf hc3 hr H2
    go_wp2
    obtain ⟨cs, hcs, hcn⟩ := HTH.out
    have hce : w3.heap[tb + 1]? = some (.cells #[.nilIface] 59 (0, 0)) := (HC.out.block _ (Nat.lt_of_lt_of_le (lt_of_block VE.out) HB.out.size) (by have := HRBT.out; omega) (by omega)).trans ((HB.out.block _ (lt_of_block VE.out)).trans VE.out)
    refine leaves_cons (f := 160) (args := #[.pointer (some ⟨tb, 0, none⟩), .pointer (some ⟨tb + 1, 0, none⟩)]) (by simp) (by simp [go_sem]) ?_
    refine (read1Cert_some tb (tb + 1) fb cs w3 hcs (arr6 hcn) hce (by omega)).mono ?_
    rintro e u' w4 ⟨rfl, rfl, HA⟩
    have y0 : ∀ o, w4.cell? ⟨tb, o, none⟩ = _ := block_cell HA.th
    have y1 : w4.cell? ⟨tb + 1, 0, none⟩ = some (.iface 127 (.pointer (some ⟨fb, 0, none⟩))) := block_cell HA.er 0
    refine ⟨_, by simp [results, Tryz.results100, go_sem, y0, y1]; rfl, ?_⟩
    refine ⟨?_, by
      rw [HR.out]
      refine ⟨fb, rfl, (HA.block fb (lt_of_block HF.out) (fun e => ?_) (fun e => ?_)).trans HF.out⟩
      · subst e; have h9 := hcs.symm.trans HF.out; cases h9
      · subst e; have h9 := hce.symm.trans HF.out; cases h9⟩
    have hsz := HTW.out
    have hb9 := HRBT.out
    refine ⟨HA.os.trans (HC.out.os.trans (HB.out.os.trans BV.out.os)), HA.tape.trans (HC.out.tape.trans (HB.out.tape.trans BV.out.tape)), HA.output.trans (HC.out.output.trans (HB.out.output.trans BV.out.output)), Nat.le_trans BV.out.size (Nat.le_trans HB.out.size (Nat.le_trans HC.out.size HA.size)), fun i hi => ?_⟩
    have l1 := Nat.lt_of_lt_of_le hi BV.out.size
    have l2 := Nat.lt_of_lt_of_le l1 HB.out.size
    exact (HA.block i (Nat.lt_of_lt_of_le l2 HC.out.size) (by omega) (by omega)).trans ((HC.out.block i l2 (by omega) (by omega)).trans ((HB.out.block i l1).trans (BV.out.block i hi)))
  | ok q =>
    rw [hr] at hh
    obtain ⟨rfl, hrd, hle, hx3, hc3⟩ := getIs_ok hh
    have HRD := Lib.hid hrd
    have HC := Lib.hid hc3
    have HR := Lib.hid hr
    have HKD : Hid (Kd cert0 q.1) := Lib.hid (objR_kinds G.out.kinds hr (fun i => rfl))
    obtain ⟨a2, c2, a3, c3, a4, c4, a5, c5, hth, hlies⟩ := cert_of_rec hx3 HKD.out
    have HTH := Lib.hid hth
    have HLI := Lib.hid hlies
    clear hh hrd hx3 hc3 hr H2 hth hlies
    obtain ⟨x, a⟩ := q
    have hts : tb < w3.heap.size := lt_of_block HTH.out
    have HQ3 : Hid (w3.heap[rb + 1]? = some (.cells #[.pointer (some ⟨rb, 0, none⟩)] 199 (0, 0))) := Lib.hid ((HC.out.block _ (Nat.lt_of_lt_of_le (lt_of_block VQ.out) HB.out.size) (by omega) (by have := HRBT.out; omega)).trans ((HB.out.block _ (lt_of_block VQ.out)).trans VQ.out))
    have HE3 : Hid (w3.heap[tb + 1]? = some (.cells #[.nilIface] 59 (0, 0))) := Lib.hid ((HC.out.block _ (Nat.lt_of_lt_of_le (lt_of_block VE.out) HB.out.size) (by have := HRBT.out; omega) (by omega)).trans ((HB.out.block _ (lt_of_block VE.out)).trans VE.out))
    have HET3 : Hid (ErrType w3) := Lib.hid (by
      have h1 := HET.out.below BV.out
      have h2 := h1.below HB.out
      unfold ErrType at h2 ⊢
      rw [World.cell?_of_block (w := w2) (HC.out.block _ (lt_of_cell h2) (show 0 ≠ rb by have := HRBT.out; have := HTW.out; omega) (show 0 ≠ tb by have := HTW.out; omega))]
      exact h2)
    go_upto_region 4 with fail
    obtain ⟨VO, hVO⟩ : ∃ VO : Nat → Option Nat, VO = fun j => if j = 6 then some tb else none := ⟨_, rfl⟩
    have vo6 : VO 6 = some tb := by rw [hVO]; rfl
    have von : ∀ j, j ≠ 6 → VO j = none := fun j h1 => by rw [hVO]; simp [h1]
    have vob : ∀ j b, b ≠ tb → VO j ≠ some b := fun j b hb => by
      by_cases h : j = 6
      · subst h; rw [vo6]; simp; exact fun e => hb e.symm
      · rw [von j h]; simp
    clear hVO
    refine wp_region_tailV 7 VO (fun i j b h1 h2 => by
        by_cases e1 : i = 6
        · by_cases e2 : j = 6
          · rw [e1, e2]
          · rw [von j e2] at h2; cases h2
        · rw [von i e1] at h1; cases h1) (fun _ _ _ => True) (fun _ => True) (fun _ _ _ _ _ => True) (fun _ _ => trivial) trivial
      (phis [fun u _ => u = .agg (cellsCert x a2 c2 a3 c3 a4 c4 a5 c5), fun u _ => u = .pointer (some ⟨rb + 1, 0, none⟩), fun u _ => u = .pointer (some ⟨rb + 1, 0, none⟩), fun u _ => u = .pointer (some ⟨rb + 1, 0, none⟩), fun u _ => u = .pointer (some ⟨rb, 0, none⟩), fun u w' => if a < s.size then ∃ fb, u = .iface 127 (.pointer (some ⟨fb, 0, none⟩)) ∧ FltB w' fb 5 a ∧ fb ≠ tb else u = .nilIface, fun _ w' => w'.heap[tb]? = some (.cells (cellsCert x a2 c2 a3 c3 a4 c4 a5 c5) 28 (0, 0))]) rfl (by kernel_rfl) (by kernel_rfl)
      (monoV_of ⟨monoV_eq, monoV_eq, monoV_eq, monoV_eq, monoV_eq, ?m5, ?m6, trivial⟩) (fun _ _ _ _ _ => trivial) (fun _ _ _ _ _ _ _ _ _ _ _ => trivial) (stepsV_of 7 ⟨?s0, ?s1, ?s2, ?s3, ?s4, ?s5, ?s6, trivial⟩) ?_
    case m5 =>
      intro j hj u w1 w2 he hp
      by_cases hlt : a < s.size
      · simp only [hlt, if_true] at hp ⊢
        obtain ⟨fb, h1, h2, h3⟩ := hp
        refine ⟨fb, h1, (he.1.block fb (lt_of_block h2) ?_).trans h2, h3⟩
        exact fun e => vob j fb h3 e.symm
      · simp only [hlt, if_false] at hp ⊢; exact hp
    case m6 =>
      intro j hj u w1 w2 he hp
      refine (he.1.block tb (lt_of_block hp) ?_).trans hp
      rw [von j hj]; simp
    case s0 =>
      refine stepV_val (v := .agg (cellsCert x a2 c2 a3 c3 a4 c4 a5 c5)) (fun _ _ => trivial) (fun _ _ _ _ => ⟨trivial, trivial⟩) (fun D av wv hE hO hD => ?_) (fun _ => rfl)
      have h6 : ¬ D 6 := hE.notyet 6 _ rfl { on := 0, ground := .data } (by simp) rfl hE.me
      have hb0 : wv.heap[tb]? = some (.cells (cellsCert x a2 c2 a3 c3 a4 c4 a5 c5) 28 (0, 0)) := (hE.late 6 h6 tb vo6 hts).trans HTH.out
      have k0 : wv.cell? ⟨tb, 0, none⟩ = some (.string (x 0).s) := block_cell hb0 0
      have k1 : wv.cell? ⟨tb, 1, none⟩ = some (.int .u64 (x 1).n) := block_cell hb0 1
      have k2 : wv.cell? ⟨tb, 2, none⟩ = some (.slice a2 (len (x 2).rs) c2) := block_cell hb0 2
      have k3 : wv.cell? ⟨tb, 3, none⟩ = some (.slice a3 (len (x 3).ns) c3) := block_cell hb0 3
      have k4 : wv.cell? ⟨tb, 4, none⟩ = some (.slice a4 (len (x 4).l) c4) := block_cell hb0 4
      have k5 : wv.cell? ⟨tb, 5, none⟩ = some (.slice a5 (len (x 5).l) c5) := block_cell hb0 5
      have h4 : av.eval (.tmp 4) = .pointer (some ⟨tb, 0, none⟩) := hO.2.2 4 rfl
      have f4 := (ev_form av 4).symm.trans h4
      refine ⟨rfl, ?_⟩
      simp [go_sem, f4, k0, k1, k2, k3, k4, k5]
    case s1 =>
      refine stepV_val (v := .pointer (some ⟨rb + 1, 0, none⟩)) (fun _ _ => trivial) (fun _ _ _ _ => ⟨trivial, trivial⟩) (fun D av wv hE hO hD => ?_) (fun _ => rfl)
      have h6 : av.eval (.tmp 6) = .pointer (some ⟨rb + 1, 0, none⟩) := hO.2.2 6 rfl
      have f6 := (ev_form av 6).symm.trans h6
      refine ⟨rfl, ?_⟩
      simp [go_sem, f6]
    case s2 =>
      refine stepV_val (v := .pointer (some ⟨rb + 1, 0, none⟩)) (fun _ _ => trivial) (fun _ _ _ _ => ⟨trivial, trivial⟩) (fun D av wv hE hO hD => ?_) (fun _ => rfl)
      have d17 : av.eval (.tmp 17) = .pointer (some ⟨rb + 1, 0, none⟩) := hD.1 rfl _ rfl
      have f17 := (ev_form av 17).symm.trans d17
      refine ⟨rfl, ?_⟩
      simp [go_sem, f17]
    case s3 =>
      refine stepV_val (v := .pointer (some ⟨rb + 1, 0, none⟩)) (fun _ _ => trivial) (fun _ _ _ _ => ⟨trivial, trivial⟩) (fun D av wv hE hO hD => ?_) (fun _ => rfl)
      have d18 : av.eval (.tmp 18) = .pointer (some ⟨rb + 1, 0, none⟩) := hD.1 rfl _ rfl
      have f18 := (ev_form av 18).symm.trans d18
      refine ⟨rfl, ?_⟩
      simp [go_sem, f18]
    case s4 =>
      refine stepV_val (v := .pointer (some ⟨rb, 0, none⟩)) (fun _ _ => trivial) (fun _ _ _ _ => ⟨trivial, trivial⟩) (fun D av wv hE hO hD => ?_) (fun _ => rfl)
      have d19 : av.eval (.tmp 19) = .pointer (some ⟨rb + 1, 0, none⟩) := hD.1 rfl _ rfl
      have f19 := (ev_form av 19).symm.trans d19
      have k0 : wv.cell? ⟨rb + 1, 0, none⟩ = some (.pointer (some ⟨rb, 0, none⟩)) := block_cell ((hE.ext.block (rb + 1) (lt_of_block HQ3.out) (fun j => vob j _ (by have := HRBT.out; omega))).trans HQ3.out) 0
      refine ⟨rfl, ?_⟩
      simp [go_sem, f19, k0]
    case s5 =>
      refine stepV_wp (fun D av wv hPP hE hO hD => ?_)
      have d20 : av.eval (.tmp 20) = .pointer (some ⟨rb, 0, none⟩) := hD.1 rfl _ rfl
      have f20 := (ev_form av 20).symm.trans d20
      have hrd : RdB wv rb s a 10240 := (hE.ext.block rb (lt_of_block HRD.out) (fun j => vob j _ (by have := HRBT.out; omega))).trans HRD.out
      have het : ErrType wv := by
        have h2 : ErrType w3.drew := HET3.out
        unfold ErrType at h2 ⊢
        rw [World.cell?_of_block (w := w3.drew) (hE.ext.block _ (lt_of_cell h2) (fun j => vob j _ (show 0 ≠ tb by have := HTW.out; omega)))]
        exact h2
      have hvs : w3.heap.size ≤ wv.heap.size := hE.ext.size
      refine ⟨rfl, wp_of_callR (f := 124) (args := #[.pointer (some ⟨rb, 0, none⟩)]) (R := fun u w2 => Below wv.heap.size wv w2 ∧ (if a < s.size then ∃ fb, u = .iface 127 (.pointer (some ⟨fb, 0, none⟩)) ∧ FltB w2 fb 5 a ∧ fb ≠ tb else u = .nilIface)) (by simp [go_sem, f20]) ((End_any wv rb s a 10240 het hrd hle hs).mono fun e w2 hh => ?_) (fun u w2 ⟨h1, h2⟩ => ⟨u, rfl, esV_of_ext h1 trivial, h2, fun _ _ _ _ _ => ⟨trivial, trivial⟩⟩)⟩
      obtain ⟨h1, h2⟩ := hh
      unfold leftOf at h2
      by_cases hlt : a < s.size
      · simp only [hlt, if_true] at h2 ⊢
        obtain ⟨fb, h3, h4, h5⟩ := h2
        exact ⟨_, h3, h1, fb, rfl, h5, by omega⟩
      · simp only [hlt, if_false] at h2 ⊢
        exact ⟨_, h2, h1, rfl⟩
    case s6 =>
      refine stepV_wp (fun D av wv hPP hE hO hD => ?_)
      have d16 : av.eval (.tmp 16) = .agg (cellsCert x a2 c2 a3 c3 a4 c4 a5 c5) := hD.1 rfl _ rfl
      have f16 := (ev_form av 16).symm.trans d16
      have h4 : av.eval (.tmp 4) = .pointer (some ⟨tb, 0, none⟩) := hO.2.2 4 rfl
      have f4 := (ev_form av 4).symm.trans h4
      have hq : wv.heap[tb]? = some (.cells (cellsCert x a2 c2 a3 c3 a4 c4 a5 c5) 28 (0, 0)) := (hE.own tb vo6 hts).trans HTH.out
      have k0 : wv.cell? ⟨tb, 0, none⟩ = some (.string (x 0).s) := block_cell hq 0
      have k1 : wv.cell? ⟨tb, 1, none⟩ = some (.int .u64 (x 1).n) := block_cell hq 1
      have k2 : wv.cell? ⟨tb, 2, none⟩ = some (.slice a2 (len (x 2).rs) c2) := block_cell hq 2
      have k3 : wv.cell? ⟨tb, 3, none⟩ = some (.slice a3 (len (x 3).ns) c3) := block_cell hq 3
      have k4 : wv.cell? ⟨tb, 4, none⟩ = some (.slice a4 (len (x 4).l) c4) := block_cell hq 4
      have k5 : wv.cell? ⟨tb, 5, none⟩ = some (.slice a5 (len (x 5).l) c5) := block_cell hq 5
      have hz : ∀ o, wv.frozen? ⟨tb, o, none⟩ = false := block_free hq
      have l0 : tb < wv.heap.size := lt_of_block hq
      refine ⟨rfl, ?_⟩
      unfold Oper.wp
      simp [go_sem, f4, f16, hz, l0, k0, k1, k2, k3, k4, k5]
      exact ⟨⟨by rw [vo6]; exact (extB_setIn (extB_setIn (extB_setIn (extB_setIn (extB_setIn (extB_setIn (ExtB_refl _ _) 0 _) 1 _) 2 _) 3 _) 4 _) 5 _), trivial⟩, undef, (block_setCell (block_setCell (block_setCell (block_setCell (block_setCell (block_setCell hq (o := 0) _) (o := 1) _) (o := 2) _) (o := 3) _) (o := 4) _) (o := 5) _), fun _ _ _ _ _ => ⟨trivial, trivial⟩⟩
    intro a' w' hE _ hO hall _
    have hA := act_of_outer (ds := [16, 17, 18, 19, 20, 21]) rfl hO (by kernel_rfl)
    have e16 : (fun u (_ : World) => u = .agg (cellsCert x a2 c2 a3 c3 a4 c4 a5 c5)) (a'.eval (.tmp 16)) w' := hall.1 _ rfl
    have e17 : (fun u (_ : World) => u = .pointer (some ⟨rb + 1, 0, none⟩)) (a'.eval (.tmp 17)) w' := hall.2.1 _ rfl
    have e18 : (fun u (_ : World) => u = .pointer (some ⟨rb + 1, 0, none⟩)) (a'.eval (.tmp 18)) w' := hall.2.2.1 _ rfl
    have e19 : (fun u (_ : World) => u = .pointer (some ⟨rb + 1, 0, none⟩)) (a'.eval (.tmp 19)) w' := hall.2.2.2.1 _ rfl
    have e20 : (fun u (_ : World) => u = .pointer (some ⟨rb, 0, none⟩)) (a'.eval (.tmp 20)) w' := hall.2.2.2.2.1 _ rfl
    have e21 : (fun u w' => if a < s.size then ∃ fb, u = .iface 127 (.pointer (some ⟨fb, 0, none⟩)) ∧ FltB w' fb 5 a ∧ fb ≠ tb else u = .nilIface) (a'.eval (.tmp 21)) w' := hall.2.2.2.2.2.1 _ rfl
    have z6 : w'.heap[tb]? = some (.cells (cellsCert x a2 c2 a3 c3 a4 c4 a5 c5) 28 (0, 0)) := hall.2.2.2.2.2.2.1 _ rfl
    obtain ⟨v21, hv21⟩ : ∃ v, a'.eval (.tmp 21) = v := ⟨_, rfl⟩
    rw [hv21] at e21
    simp only [List.foldl_cons, List.foldl_nil, Act.put, List.setIfInBounds_toArray, List.set_cons_succ, List.set_cons_zero, e16, e17, e18, e19, e20, hv21] at hA
    clear hO hall e16 e17 e18 e19 e20 hv21
    subst hA
    have HX4 : Hid (ExtS VO w3 w') := Lib.hid ⟨hE.os, hE.tape, hE.output, hE.size, hE.block⟩
    have HZ6 := Lib.hid z6
    have hbe : w'.heap[tb + 1]? = some (.cells #[.nilIface] 59 (0, 0)) := (HX4.out.block _ (lt_of_block HE3.out) (fun j => vob j _ (by omega))).trans HE3.out
    have HBE := Lib.hid hbe
    have g0 : w'.cell? ⟨tb + 1, 0, none⟩ = some .nilIface := block_cell hbe 0
    have g1 : w'.frozen? ⟨tb + 1, 0, none⟩ = false := block_free hbe 0
    have HVO : Hid (∀ j b, b ≠ tb → VO j ≠ some b) := Lib.hid vob
    have HFIN : ∀ v, Hid (Below w.heap.size w (w'.setCell ⟨tb + 1, 0, none⟩ v)) := fun v => Lib.hid (by
      have hsz := HTW.out
      have hb9 := HRBT.out
      refine ⟨HX4.out.os.trans (HC.out.os.trans (HB.out.os.trans BV.out.os)), HX4.out.tape.trans (HC.out.tape.trans (HB.out.tape.trans BV.out.tape)), HX4.out.output.trans (HC.out.output.trans (HB.out.output.trans BV.out.output)), by simpa using Nat.le_trans BV.out.size (Nat.le_trans HB.out.size (Nat.le_trans HC.out.size HX4.out.size)), fun i hi => ?_⟩
      have l1 := Nat.lt_of_lt_of_le hi BV.out.size
      have l2 := Nat.lt_of_lt_of_le l1 HB.out.size
      rw [Below.heap_setCell _ _ _ _ (show i ≠ tb + 1 by omega)]
      exact (HX4.out.block i (Nat.lt_of_lt_of_le l2 HC.out.size) (fun j => HVO.out j i (by omega))).trans ((HC.out.block i l2 (by omega) (by omega)).trans ((HB.out.block i l1).trans (BV.out.block i hi))))
    have HLF : ∀ v, Hid (LiesCert rb tb (w'.setCell ⟨tb + 1, 0, none⟩ v) x a2 c2 a3 c3 a4 c4 a5 c5) := fun v => Lib.hid (HLI.out.up (fun b h1 h2 => by
      have hb9 := HRBT.out
      rw [Below.heap_setCell _ _ _ _ (show b ≠ tb + 1 by omega)]
      exact HX4.out.block b h2 (fun j => HVO.out j b (by omega))))
    have HTF : ∀ v o, (w'.setCell ⟨tb + 1, 0, none⟩ v).cell? ⟨tb, o, none⟩ = (cellsCert x a2 c2 a3 c3 a4 c4 a5 c5)[o]? := fun v o => block_cell (block_setCell_ne HZ6.out (by show tb ≠ tb + 1; omega) v) o
    have HEF : ∀ v, (w'.setCell ⟨tb + 1, 0, none⟩ v).cell? ⟨tb + 1, 0, none⟩ = some v := fun v => block_cell (block_setCell HBE.out v) 0
    have HTFH := Lib.hid HTF
    have HEFH := Lib.hid HEF
    clear hE z6 hbe vo6 von vob HTF HEF
    by_cases hlt : a < s.size
    · simp only [hlt, if_true] at e21
      obtain ⟨fb, rfl, hf, hft⟩ := e21
      have HF := Lib.hid hf
      have HLT := Lib.hid hlt
      clear hf hlt
      go_wp2
      refine leaves_cons (f := 160) (args := #[.pointer (some ⟨tb, 0, none⟩), .pointer (some ⟨tb + 1, 0, none⟩)]) (by simp) (by simp [go_sem]) ?_
      refine (read1Cert_idle _ _ _).mono ?_
      rintro e u' w'' ⟨rfl, rfl, rfl⟩
      have y0 := HTFH.out (.iface 127 (.pointer (some ⟨fb, 0, none⟩)))
      have y1 := HEFH.out (.iface 127 (.pointer (some ⟨fb, 0, none⟩)))
      refine ⟨_, by simp [results, Tryz.results100, go_sem, y0, y1]; rfl, ?_⟩
      refine ⟨(HFIN _).out, ?_⟩
      rw [HR.out]
      refine ⟨HKD.out, hle, a2, c2, a3, c3, a4, c4, a5, c5, ⟨rb, tb, by have := HRBT.out; have := HTW.out; omega, (HLF _).out⟩, ?_⟩
      rw [if_pos HLT.out]
      exact ⟨fb, rfl, block_setCell_ne HF.out (by intro e; subst e; have h9 := HBE.out.symm.trans HF.out; cases h9) _⟩
    · simp only [hlt, if_false] at e21
      subst e21
      have HLT := Lib.hid hlt
      clear hlt
      go_wp2
      refine leaves_cons (f := 160) (args := #[.pointer (some ⟨tb, 0, none⟩), .pointer (some ⟨tb + 1, 0, none⟩)]) (by simp) (by simp [go_sem]) ?_
      refine (read1Cert_idle _ _ _).mono ?_
      rintro e u' w'' ⟨rfl, rfl, rfl⟩
      have y0 := HTFH.out .nilIface
      have y1 := HEFH.out .nilIface
      refine ⟨_, by simp [results, Tryz.results100, go_sem, y0, y1]; rfl, ?_⟩
      refine ⟨(HFIN _).out, ?_⟩
      rw [HR.out]
      refine ⟨HKD.out, hle, a2, c2, a3, c3, a4, c4, a5, c5, ⟨rb, tb, by have := HRBT.out; have := HTW.out; omega, (HLF _).out⟩, ?_⟩
      rw [if_neg HLT.out]
def LiesMsg (rb tb : Nat) (w : World) (x : Rcd) : Prop := True
theorem LiesMsg.below {rb tb : Nat} {w w' : World} {x : Rcd} (h : LiesMsg rb tb w x) (hb : Below w.heap.size w w') : LiesMsg rb tb w' x := trivial
theorem LiesMsg.chg {rb tb : Nat} {w w' : World} {x : Rcd} (h : LiesMsg rb tb w x) (hb : Chg rb tb w w') : LiesMsg rb tb w' x := trivial
theorem LiesMsg.up {rb tb : Nat} {w w' : World} {x : Rcd} (h : LiesMsg rb tb w x) (hb : Up rb w w') : LiesMsg rb tb w' x := trivial
def LiesHeader (rb tb : Nat) (w : World) (x : Rcd) : Prop := True
theorem LiesHeader.below {rb tb : Nat} {w w' : World} {x : Rcd} (h : LiesHeader rb tb w x) (hb : Below w.heap.size w w') : LiesHeader rb tb w' x := trivial
theorem LiesHeader.chg {rb tb : Nat} {w w' : World} {x : Rcd} (h : LiesHeader rb tb w x) (hb : Chg rb tb w w') : LiesHeader rb tb w' x := trivial
theorem LiesHeader.up {rb tb : Nat} {w w' : World} {x : Rcd} (h : LiesHeader rb tb w x) (hb : Up rb w w') : LiesHeader rb tb w' x := trivial
end Go.Proofs.YtihiaopilnjonaaGreatDoor
namespace Go.Proofs.YtihiaopilnjonaaGreatDoor
open Go.RowKit
set_option linter.unusedSimpArgs false
set_option linter.unusedVariables false
theorem bsn {w : World} {b c o : Nat} {x : Obj} {v : Value} (h : w.heap[b]? = some x) (hp : b ≠ c) : (w.setCell ⟨c, o, none⟩ v).heap[b]? = some x := block_setCell_ne h hp v
set_option maxRecDepth 100000 in
theorem overPart_ok (m0 : ByteArray) (m1 : Int) (m2 : Int) (m3 : Int) (m4 : Int) (w : World) : Calls Tryz.prog 66 #[.agg #[.string m0, .int .u64 m1, .int .u64 m2, .int .u64 m3, .int .u64 m4], .nilIface] w fun e w' => e = .returned (.tuple #[.agg #[.string m0, .int .u64 m1, .int .u64 m2, .int .u64 m3, .int .u64 m4], .nilIface]) ∧ Below w.heap.size w w' := by
  go_enter Tryz.func66, Tryz.ntmps66
  go_wp2
  have hb := block_setCell (block_setCell (block_setCell (block_setCell (block_setCell (alloc_new_at (w := w.alloc (.cells #[.string m0, .int .u64 m1, .int .u64 m2, .int .u64 m3, .int .u64 m4] 46)) (.cells #[.string ⟨#[]⟩, .int .u64 0, .int .u64 0, .int .u64 0, .int .u64 0] 46) (alloc_size _ rfl)) (o := 0) (.string m0)) (o := 1) (.int .u64 m1)) (o := 2) (.int .u64 m2)) (o := 3) (.int .u64 m3)) (o := 4) (.int .u64 m4)
  have d : ∀ o, _ = _ := block_cell hb
  refine bodyPost_ret (v := .tuple #[.agg #[.string m0, .int .u64 m1, .int .u64 m2, .int .u64 m3, .int .u64 m4], .nilIface]) ?_ rfl ⟨rfl, by (repeat (first | exact Below.refl _ _ | assumption | (refine bdrew ?_) | (refine bdrewN ?_ _) | (refine balloc ?_ _) | (refine bset ?_ (by first | omega | (simp; done) | (simp; omega)) _) | (refine bnext ?_ (by assumption))))⟩
  simp [results, Tryz.results66, go_sem, d]
set_option maxRecDepth 100000 in
theorem overPart_no (m0 : ByteArray) (m1 : Int) (m2 : Int) (m3 : Int) (m4 : Int) (fb : Nat) (w : World) : Calls Tryz.prog 66 #[.agg #[.string m0, .int .u64 m1, .int .u64 m2, .int .u64 m3, .int .u64 m4], .iface 127 (.pointer (some ⟨fb, 0, none⟩))] w fun e w' => e = .returned (.tuple #[zeroPart, .iface 127 (.pointer (some ⟨fb, 0, none⟩))]) ∧ Below w.heap.size w w' := by
  go_enter Tryz.func66, Tryz.ntmps66
  go_wp2
  have hb := block_setCell (block_setCell (block_setCell (block_setCell (block_setCell (block_alloc (alloc_new_at (w := w.alloc (.cells #[.string m0, .int .u64 m1, .int .u64 m2, .int .u64 m3, .int .u64 m4] 46)) (.cells #[.string ⟨#[]⟩, .int .u64 0, .int .u64 0, .int .u64 0, .int .u64 0] 46) (alloc_size _ rfl)) (.cells #[.string ⟨#[]⟩, .int .u64 0, .int .u64 0, .int .u64 0, .int .u64 0] 46)) (o := 0) (.string ⟨#[]⟩)) (o := 1) (.int .u64 0)) (o := 2) (.int .u64 0)) (o := 3) (.int .u64 0)) (o := 4) (.int .u64 0)
  have d : ∀ o, _ = _ := block_cell hb
  refine bodyPost_ret (v := .tuple #[zeroPart, .iface 127 (.pointer (some ⟨fb, 0, none⟩))]) ?_ rfl ⟨rfl, by (repeat (first | exact Below.refl _ _ | assumption | (refine bdrew ?_) | (refine bdrewN ?_ _) | (refine balloc ?_ _) | (refine bset ?_ (by first | omega | (simp; done) | (simp; omega)) _) | (refine bnext ?_ (by assumption))))⟩
  simp [results, Tryz.results66, go_sem, d]
def RePart (s : ByteArray) (w : World) (e : Ending) (w' : World) : Prop :=
  Below w.heap.size w w' ∧ match readR s (partGs s 0) part0 with
    | .error f => ∃ fb, e = .returned (.tuple #[zeroPart, .iface 127 (.pointer (some ⟨fb, 0, none⟩))]) ∧ FltB w' fb f.1 f.2
    | .ok x => Kd part0 x ∧ (∃ rb tb, LiesPart rb tb w' x) ∧ e = .returned (.tuple #[.agg (cellsPart x), .nilIface])
set_option maxRecDepth 100000 in
set_option maxHeartbeats 2000000 in
theorem reaPart_any (B : Nat) (s : ByteArray) (w : World) (hT : Tabs B w) (hET : ErrType w) (hB : B ≤ w.heap.size) (hg : 0 < B) (hs : s.size ≤ 9223372036854775807) :
    Calls Tryz.prog 29 #[.string s] w (RePart s w) := by
  have H := Lib.hid (fun (w' : World) (hb : Below w.heap.size w w') => readPart_any B s w' (hT.below hb) (hET.below hb) (Nat.le_trans hB hb.size) hg hs)
  clear hT hET
  go_enter Tryz.func29, Tryz.ntmps29
  go_wp2_with fail
  refine (H.out _ (balloc (Below.refl _ _) _)).mono ?_
  rintro e w1 ⟨hb1, hh⟩
  have hblk := (hb1.block w.heap.size (by simp)).trans (heap_alloc_new w _)
  have HBK := Lib.hid hblk
  have HB := Lib.hid (bnext (balloc (Below.refl _ _) _) hb1)
  clear hb1 hblk
  cases hr : objR s (partGs s 0) part0 0 with
  | error f =>
    rw [hr] at hh
    obtain ⟨fb, rfl, hf⟩ := hh
    have HF := Lib.hid hf
    have HR : Hid (readR s (partGs s 0) part0 = .error f) := Lib.hid (by unfold readR; rw [hr])
    clear hf hr
    go_wp2_with fail
    refine (overPart_no _ _ _ _ _ fb w1).mono ?_
    rintro e w2 ⟨rfl, hb2⟩
    have hb := (hb2.block _ (lt_of_block HBK.out)).trans HBK.out
    have HB2 := Lib.hid (bnext HB.out hb2)
    have HF2 := Lib.hid (HF.out.below hb2)
    have HBK2 := Lib.hid hb
    have g0 : ∀ o, w2.cell? ⟨w.heap.size, o, none⟩ = _ := block_cell hb
    have g1 : ∀ o, w2.frozen? ⟨w.heap.size, o, none⟩ = false := block_free hb
    have g2 : w.heap.size < w2.heap.size := lt_of_block hb
    clear hb2 hb
    go_wp2
    have hb := block_setCell (block_setCell (block_setCell (block_setCell (block_setCell (HBK2.out) (o := 0) (.string ⟨#[]⟩)) (o := 1) (.int .u64 0)) (o := 2) (.int .u64 0)) (o := 3) (.int .u64 0)) (o := 4) (.int .u64 0)
    have d : ∀ o, _ = _ := block_cell hb
    have hne : fb ≠ w.heap.size := fun e => by subst e; have h9 := HBK2.out.symm.trans HF2.out; cases h9
    refine bodyPost_ret (v := .tuple #[zeroPart, .iface 127 (.pointer (some ⟨fb, 0, none⟩))]) ?_ rfl ⟨(bset (bset (bset (bset (bset HB2.out (Nat.le_refl _) _) (Nat.le_refl _) _) (Nat.le_refl _) _) (Nat.le_refl _) _) (Nat.le_refl _) _), ?_⟩
    · simp [results, Tryz.results29, go_sem, d]
    · rw [HR.out]
      exact ⟨fb, rfl, (bsn (bsn (bsn (bsn (bsn HF2.out hne) hne) hne) hne) hne)⟩
  | ok y =>
    rw [hr] at hh
    obtain ⟨hk, hle, ⟨rb, tb, hrb, hl⟩, hh⟩ := hh
    have HL := Lib.hid hl
    by_cases hlt : y.2 < s.size
    · rw [if_pos hlt] at hh
      obtain ⟨fb, rfl, hf⟩ := hh
      have HF := Lib.hid hf
      have HR : Hid (readR s (partGs s 0) part0 = .error (5, y.2)) := Lib.hid (by unfold readR; rw [hr]; exact if_pos hlt)
      clear hf hr hlt
      go_wp2_with fail
      refine (overPart_no _ _ _ _ _ fb w1).mono ?_
      rintro e w2 ⟨rfl, hb2⟩
      have hb := (hb2.block _ (lt_of_block HBK.out)).trans HBK.out
      have HB2 := Lib.hid (bnext HB.out hb2)
      have HF2 := Lib.hid (HF.out.below hb2)
      have HBK2 := Lib.hid hb
      have g0 : ∀ o, w2.cell? ⟨w.heap.size, o, none⟩ = _ := block_cell hb
      have g1 : ∀ o, w2.frozen? ⟨w.heap.size, o, none⟩ = false := block_free hb
      have g2 : w.heap.size < w2.heap.size := lt_of_block hb
      clear hb2 hb
      go_wp2
      have hb := block_setCell (block_setCell (block_setCell (block_setCell (block_setCell (HBK2.out) (o := 0) (.string ⟨#[]⟩)) (o := 1) (.int .u64 0)) (o := 2) (.int .u64 0)) (o := 3) (.int .u64 0)) (o := 4) (.int .u64 0)
      have d : ∀ o, _ = _ := block_cell hb
      have hne : fb ≠ w.heap.size := fun e => by subst e; have h9 := HBK2.out.symm.trans HF2.out; cases h9
      refine bodyPost_ret (v := .tuple #[zeroPart, .iface 127 (.pointer (some ⟨fb, 0, none⟩))]) ?_ rfl ⟨(bset (bset (bset (bset (bset HB2.out (Nat.le_refl _) _) (Nat.le_refl _) _) (Nat.le_refl _) _) (Nat.le_refl _) _) (Nat.le_refl _) _), ?_⟩
      · simp [results, Tryz.results29, go_sem, d]
      · rw [HR.out]
        exact ⟨fb, rfl, (bsn (bsn (bsn (bsn (bsn HF2.out hne) hne) hne) hne) hne)⟩
    · rw [if_neg hlt] at hh
      subst hh
      have HR : Hid (readR s (partGs s 0) part0 = .ok y.1) := Lib.hid (by unfold readR; rw [hr]; exact if_neg hlt)
      clear hr hlt
      go_wp2_with fail
      refine (overPart_ok _ _ _ _ _ w1).mono ?_
      rintro e w2 ⟨rfl, hb2⟩
      have hb := (hb2.block _ (lt_of_block HBK.out)).trans HBK.out
      have HB2 := Lib.hid (bnext HB.out hb2)
      have HL2 := Lib.hid (HL.out.below hb2)
      have HBK2 := Lib.hid hb
      have g0 : ∀ o, w2.cell? ⟨w.heap.size, o, none⟩ = _ := block_cell hb
      have g1 : ∀ o, w2.frozen? ⟨w.heap.size, o, none⟩ = false := block_free hb
      have g2 : w.heap.size < w2.heap.size := lt_of_block hb
      clear hb2 hb
      go_wp2
      have hb := block_setCell (block_setCell (block_setCell (block_setCell (block_setCell (HBK2.out) (o := 0) (.string (y.1 0).s)) (o := 1) (.int .u64 (y.1 1).n)) (o := 2) (.int .u64 (y.1 2).n)) (o := 3) (.int .u64 (y.1 3).n)) (o := 4) (.int .u64 (y.1 4).n)
      have d : ∀ o, _ = _ := block_cell hb
      refine bodyPost_ret (v := .tuple #[.agg (cellsPart y.1), .nilIface]) ?_ rfl ⟨(bset (bset (bset (bset (bset HB2.out (Nat.le_refl _) _) (Nat.le_refl _) _) (Nat.le_refl _) _) (Nat.le_refl _) _) (Nat.le_refl _) _), ?_⟩
      · simp [results, Tryz.results29, go_sem, d]
      · rw [HR.out]
        exact ⟨hk, ⟨rb, tb, HL2.out.up (fun b h1 h2 => by
          have h3 : b ≠ w.heap.size := by simp at hrb; omega
          repeat rw [Below.heap_setCell _ _ _ _ h3])⟩, rfl⟩
set_option maxRecDepth 100000 in
theorem overSlot_ok (m0 : Int) (m1 : Bool) (m2 : Int) (a3 : Option Addr) (n3 c3 : Nat) (a4 : Option Addr) (n4 c4 : Nat) (w : World) : Calls Tryz.prog 76 #[.agg #[.int .u64 m0, .bool m1, .int .u64 m2, .slice a3 n3 c3, .slice a4 n4 c4], .nilIface] w fun e w' => e = .returned (.tuple #[.agg #[.int .u64 m0, .bool m1, .int .u64 m2, .slice a3 n3 c3, .slice a4 n4 c4], .nilIface]) ∧ Below w.heap.size w w' := by
  go_enter Tryz.func76, Tryz.ntmps76
  go_wp2
  have hb := block_setCell (block_setCell (block_setCell (block_setCell (block_setCell (alloc_new_at (w := w.alloc (.cells #[.int .u64 m0, .bool m1, .int .u64 m2, .slice a3 n3 c3, .slice a4 n4 c4] 44)) (.cells #[.int .u64 0, .bool false, .int .u64 0, .slice none 0 0, .slice none 0 0] 44) (alloc_size _ rfl)) (o := 0) (.int .u64 m0)) (o := 1) (.bool m1)) (o := 2) (.int .u64 m2)) (o := 3) (.slice a3 n3 c3)) (o := 4) (.slice a4 n4 c4)
  have d : ∀ o, _ = _ := block_cell hb
  refine bodyPost_ret (v := .tuple #[.agg #[.int .u64 m0, .bool m1, .int .u64 m2, .slice a3 n3 c3, .slice a4 n4 c4], .nilIface]) ?_ rfl ⟨rfl, by (repeat (first | exact Below.refl _ _ | assumption | (refine bdrew ?_) | (refine bdrewN ?_ _) | (refine balloc ?_ _) | (refine bset ?_ (by first | omega | (simp; done) | (simp; omega)) _) | (refine bnext ?_ (by assumption))))⟩
  simp [results, Tryz.results76, go_sem, d]
set_option maxRecDepth 100000 in
theorem overSlot_no (m0 : Int) (m1 : Bool) (m2 : Int) (a3 : Option Addr) (n3 c3 : Nat) (a4 : Option Addr) (n4 c4 : Nat) (fb : Nat) (w : World) : Calls Tryz.prog 76 #[.agg #[.int .u64 m0, .bool m1, .int .u64 m2, .slice a3 n3 c3, .slice a4 n4 c4], .iface 127 (.pointer (some ⟨fb, 0, none⟩))] w fun e w' => e = .returned (.tuple #[zeroSlot, .iface 127 (.pointer (some ⟨fb, 0, none⟩))]) ∧ Below w.heap.size w w' := by
  go_enter Tryz.func76, Tryz.ntmps76
  go_wp2
  have hb := block_setCell (block_setCell (block_setCell (block_setCell (block_setCell (block_alloc (alloc_new_at (w := w.alloc (.cells #[.int .u64 m0, .bool m1, .int .u64 m2, .slice a3 n3 c3, .slice a4 n4 c4] 44)) (.cells #[.int .u64 0, .bool false, .int .u64 0, .slice none 0 0, .slice none 0 0] 44) (alloc_size _ rfl)) (.cells #[.int .u64 0, .bool false, .int .u64 0, .slice none 0 0, .slice none 0 0] 44)) (o := 0) (.int .u64 0)) (o := 1) (.bool false)) (o := 2) (.int .u64 0)) (o := 3) (.slice none 0 0)) (o := 4) (.slice none 0 0)
  have d : ∀ o, _ = _ := block_cell hb
  refine bodyPost_ret (v := .tuple #[zeroSlot, .iface 127 (.pointer (some ⟨fb, 0, none⟩))]) ?_ rfl ⟨rfl, by (repeat (first | exact Below.refl _ _ | assumption | (refine bdrew ?_) | (refine bdrewN ?_ _) | (refine balloc ?_ _) | (refine bset ?_ (by first | omega | (simp; done) | (simp; omega)) _) | (refine bnext ?_ (by assumption))))⟩
  simp [results, Tryz.results76, go_sem, d]
def ReSlot (s : ByteArray) (w : World) (e : Ending) (w' : World) : Prop :=
  Below w.heap.size w w' ∧ match readR s (slotGs s 0) slot0 with
    | .error f => ∃ fb, e = .returned (.tuple #[zeroSlot, .iface 127 (.pointer (some ⟨fb, 0, none⟩))]) ∧ FltB w' fb f.1 f.2
    | .ok x => Kd slot0 x ∧ ∃ (a3 : Option Addr) (c3 : Nat) (a4 : Option Addr) (c4 : Nat), (∃ rb tb, LiesSlot rb tb w' x a3 c3 a4 c4) ∧ e = .returned (.tuple #[.agg (cellsSlot x a3 c3 a4 c4), .nilIface])
set_option maxRecDepth 100000 in
set_option maxHeartbeats 2000000 in
theorem reaSlot_any (B : Nat) (s : ByteArray) (w : World) (hT : Tabs B w) (hET : ErrType w) (hB : B ≤ w.heap.size) (hg : 0 < B) (hs : s.size ≤ 9223372036854775807) :
    Calls Tryz.prog 35 #[.string s] w (ReSlot s w) := by
  have H := Lib.hid (fun (w' : World) (hb : Below w.heap.size w w') => readSlot_any B s w' (hT.below hb) (hET.below hb) (Nat.le_trans hB hb.size) hg hs)
  clear hT hET
  go_enter Tryz.func35, Tryz.ntmps35
  go_wp2_with fail
  refine (H.out _ (balloc (Below.refl _ _) _)).mono ?_
  rintro e w1 ⟨hb1, hh⟩
  have hblk := (hb1.block w.heap.size (by simp)).trans (heap_alloc_new w _)
  have HBK := Lib.hid hblk
  have HB := Lib.hid (bnext (balloc (Below.refl _ _) _) hb1)
  clear hb1 hblk
  cases hr : objR s (slotGs s 0) slot0 0 with
  | error f =>
    rw [hr] at hh
    obtain ⟨fb, rfl, hf⟩ := hh
    have HF := Lib.hid hf
    have HR : Hid (readR s (slotGs s 0) slot0 = .error f) := Lib.hid (by unfold readR; rw [hr])
    clear hf hr
    go_wp2_with fail
    refine (overSlot_no _ _ _ _ _ _ _ _ _ fb w1).mono ?_
    rintro e w2 ⟨rfl, hb2⟩
    have hb := (hb2.block _ (lt_of_block HBK.out)).trans HBK.out
    have HB2 := Lib.hid (bnext HB.out hb2)
    have HF2 := Lib.hid (HF.out.below hb2)
    have HBK2 := Lib.hid hb
    have g0 : ∀ o, w2.cell? ⟨w.heap.size, o, none⟩ = _ := block_cell hb
    have g1 : ∀ o, w2.frozen? ⟨w.heap.size, o, none⟩ = false := block_free hb
    have g2 : w.heap.size < w2.heap.size := lt_of_block hb
    clear hb2 hb
    go_wp2
    have hb := block_setCell (block_setCell (block_setCell (block_setCell (block_setCell (HBK2.out) (o := 0) (.int .u64 0)) (o := 1) (.bool false)) (o := 2) (.int .u64 0)) (o := 3) (.slice none 0 0)) (o := 4) (.slice none 0 0)
    have d : ∀ o, _ = _ := block_cell hb
    have hne : fb ≠ w.heap.size := fun e => by subst e; have h9 := HBK2.out.symm.trans HF2.out; cases h9
    refine bodyPost_ret (v := .tuple #[zeroSlot, .iface 127 (.pointer (some ⟨fb, 0, none⟩))]) ?_ rfl ⟨(bset (bset (bset (bset (bset HB2.out (Nat.le_refl _) _) (Nat.le_refl _) _) (Nat.le_refl _) _) (Nat.le_refl _) _) (Nat.le_refl _) _), ?_⟩
    · simp [results, Tryz.results35, go_sem, d]
    · rw [HR.out]
      exact ⟨fb, rfl, (bsn (bsn (bsn (bsn (bsn HF2.out hne) hne) hne) hne) hne)⟩
  | ok y =>
    rw [hr] at hh
    obtain ⟨hk, hle, a3, c3, a4, c4, ⟨rb, tb, hrb, hl⟩, hh⟩ := hh
    have HL := Lib.hid hl
    by_cases hlt : y.2 < s.size
    · rw [if_pos hlt] at hh
      obtain ⟨fb, rfl, hf⟩ := hh
      have HF := Lib.hid hf
      have HR : Hid (readR s (slotGs s 0) slot0 = .error (5, y.2)) := Lib.hid (by unfold readR; rw [hr]; exact if_pos hlt)
      clear hf hr hlt
      go_wp2_with fail
      refine (overSlot_no _ _ _ _ _ _ _ _ _ fb w1).mono ?_
      rintro e w2 ⟨rfl, hb2⟩
      have hb := (hb2.block _ (lt_of_block HBK.out)).trans HBK.out
      have HB2 := Lib.hid (bnext HB.out hb2)
      have HF2 := Lib.hid (HF.out.below hb2)
      have HBK2 := Lib.hid hb
      have g0 : ∀ o, w2.cell? ⟨w.heap.size, o, none⟩ = _ := block_cell hb
      have g1 : ∀ o, w2.frozen? ⟨w.heap.size, o, none⟩ = false := block_free hb
      have g2 : w.heap.size < w2.heap.size := lt_of_block hb
      clear hb2 hb
      go_wp2
      have hb := block_setCell (block_setCell (block_setCell (block_setCell (block_setCell (HBK2.out) (o := 0) (.int .u64 0)) (o := 1) (.bool false)) (o := 2) (.int .u64 0)) (o := 3) (.slice none 0 0)) (o := 4) (.slice none 0 0)
      have d : ∀ o, _ = _ := block_cell hb
      have hne : fb ≠ w.heap.size := fun e => by subst e; have h9 := HBK2.out.symm.trans HF2.out; cases h9
      refine bodyPost_ret (v := .tuple #[zeroSlot, .iface 127 (.pointer (some ⟨fb, 0, none⟩))]) ?_ rfl ⟨(bset (bset (bset (bset (bset HB2.out (Nat.le_refl _) _) (Nat.le_refl _) _) (Nat.le_refl _) _) (Nat.le_refl _) _) (Nat.le_refl _) _), ?_⟩
      · simp [results, Tryz.results35, go_sem, d]
      · rw [HR.out]
        exact ⟨fb, rfl, (bsn (bsn (bsn (bsn (bsn HF2.out hne) hne) hne) hne) hne)⟩
    · rw [if_neg hlt] at hh
      subst hh
      have HR : Hid (readR s (slotGs s 0) slot0 = .ok y.1) := Lib.hid (by unfold readR; rw [hr]; exact if_neg hlt)
      clear hr hlt
      go_wp2_with fail
      refine (overSlot_ok _ _ _ _ _ _ _ _ _ w1).mono ?_
      rintro e w2 ⟨rfl, hb2⟩
      have hb := (hb2.block _ (lt_of_block HBK.out)).trans HBK.out
      have HB2 := Lib.hid (bnext HB.out hb2)
      have HL2 := Lib.hid (HL.out.below hb2)
      have HBK2 := Lib.hid hb
      have g0 : ∀ o, w2.cell? ⟨w.heap.size, o, none⟩ = _ := block_cell hb
      have g1 : ∀ o, w2.frozen? ⟨w.heap.size, o, none⟩ = false := block_free hb
      have g2 : w.heap.size < w2.heap.size := lt_of_block hb
      clear hb2 hb
      go_wp2
      have hb := block_setCell (block_setCell (block_setCell (block_setCell (block_setCell (HBK2.out) (o := 0) (.int .u64 (y.1 0).n)) (o := 1) (.bool (y.1 1).q)) (o := 2) (.int .u64 (y.1 2).n)) (o := 3) (.slice a3 (len (y.1 3).l) c3)) (o := 4) (.slice a4 (len (y.1 4).l) c4)
      have d : ∀ o, _ = _ := block_cell hb
      refine bodyPost_ret (v := .tuple #[.agg (cellsSlot y.1 a3 c3 a4 c4), .nilIface]) ?_ rfl ⟨(bset (bset (bset (bset (bset HB2.out (Nat.le_refl _) _) (Nat.le_refl _) _) (Nat.le_refl _) _) (Nat.le_refl _) _) (Nat.le_refl _) _), ?_⟩
      · simp [results, Tryz.results35, go_sem, d]
      · rw [HR.out]
        exact ⟨hk, a3, c3, a4, c4, ⟨rb, tb, HL2.out.up (fun b h1 h2 => by
          have h3 : b ≠ w.heap.size := by simp at hrb; omega
          repeat rw [Below.heap_setCell _ _ _ _ h3])⟩, rfl⟩
set_option maxRecDepth 100000 in
theorem overCert_ok (m0 : ByteArray) (m1 : Int) (a2 : Option Addr) (n2 c2 : Nat) (a3 : Option Addr) (n3 c3 : Nat) (a4 : Option Addr) (n4 c4 : Nat) (a5 : Option Addr) (n5 c5 : Nat) (w : World) : Calls Tryz.prog 99 #[.agg #[.string m0, .int .u64 m1, .slice a2 n2 c2, .slice a3 n3 c3, .slice a4 n4 c4, .slice a5 n5 c5], .nilIface] w fun e w' => e = .returned (.tuple #[.agg #[.string m0, .int .u64 m1, .slice a2 n2 c2, .slice a3 n3 c3, .slice a4 n4 c4, .slice a5 n5 c5], .nilIface]) ∧ Below w.heap.size w w' := by
  go_enter Tryz.func99, Tryz.ntmps99
  go_wp2
  have hb := block_setCell (block_setCell (block_setCell (block_setCell (block_setCell (block_setCell (alloc_new_at (w := w.alloc (.cells #[.string m0, .int .u64 m1, .slice a2 n2 c2, .slice a3 n3 c3, .slice a4 n4 c4, .slice a5 n5 c5] 28)) (.cells #[.string ⟨#[]⟩, .int .u64 0, .slice none 0 0, .slice none 0 0, .slice none 0 0, .slice none 0 0] 28) (alloc_size _ rfl)) (o := 0) (.string m0)) (o := 1) (.int .u64 m1)) (o := 2) (.slice a2 n2 c2)) (o := 3) (.slice a3 n3 c3)) (o := 4) (.slice a4 n4 c4)) (o := 5) (.slice a5 n5 c5)
  have d : ∀ o, _ = _ := block_cell hb
  refine bodyPost_ret (v := .tuple #[.agg #[.string m0, .int .u64 m1, .slice a2 n2 c2, .slice a3 n3 c3, .slice a4 n4 c4, .slice a5 n5 c5], .nilIface]) ?_ rfl ⟨rfl, by (repeat (first | exact Below.refl _ _ | assumption | (refine bdrew ?_) | (refine bdrewN ?_ _) | (refine balloc ?_ _) | (refine bset ?_ (by first | omega | (simp; done) | (simp; omega)) _) | (refine bnext ?_ (by assumption))))⟩
  simp [results, Tryz.results99, go_sem, d]
set_option maxRecDepth 100000 in
theorem overCert_no (m0 : ByteArray) (m1 : Int) (a2 : Option Addr) (n2 c2 : Nat) (a3 : Option Addr) (n3 c3 : Nat) (a4 : Option Addr) (n4 c4 : Nat) (a5 : Option Addr) (n5 c5 : Nat) (fb : Nat) (w : World) : Calls Tryz.prog 99 #[.agg #[.string m0, .int .u64 m1, .slice a2 n2 c2, .slice a3 n3 c3, .slice a4 n4 c4, .slice a5 n5 c5], .iface 127 (.pointer (some ⟨fb, 0, none⟩))] w fun e w' => e = .returned (.tuple #[zeroCert, .iface 127 (.pointer (some ⟨fb, 0, none⟩))]) ∧ Below w.heap.size w w' := by
  go_enter Tryz.func99, Tryz.ntmps99
  go_wp2
  have hb := block_setCell (block_setCell (block_setCell (block_setCell (block_setCell (block_setCell (block_alloc (alloc_new_at (w := w.alloc (.cells #[.string m0, .int .u64 m1, .slice a2 n2 c2, .slice a3 n3 c3, .slice a4 n4 c4, .slice a5 n5 c5] 28)) (.cells #[.string ⟨#[]⟩, .int .u64 0, .slice none 0 0, .slice none 0 0, .slice none 0 0, .slice none 0 0] 28) (alloc_size _ rfl)) (.cells #[.string ⟨#[]⟩, .int .u64 0, .slice none 0 0, .slice none 0 0, .slice none 0 0, .slice none 0 0] 28)) (o := 0) (.string ⟨#[]⟩)) (o := 1) (.int .u64 0)) (o := 2) (.slice none 0 0)) (o := 3) (.slice none 0 0)) (o := 4) (.slice none 0 0)) (o := 5) (.slice none 0 0)
  have d : ∀ o, _ = _ := block_cell hb
  refine bodyPost_ret (v := .tuple #[zeroCert, .iface 127 (.pointer (some ⟨fb, 0, none⟩))]) ?_ rfl ⟨rfl, by (repeat (first | exact Below.refl _ _ | assumption | (refine bdrew ?_) | (refine bdrewN ?_ _) | (refine balloc ?_ _) | (refine bset ?_ (by first | omega | (simp; done) | (simp; omega)) _) | (refine bnext ?_ (by assumption))))⟩
  simp [results, Tryz.results99, go_sem, d]
def ReCert (s : ByteArray) (w : World) (e : Ending) (w' : World) : Prop :=
  Below w.heap.size w w' ∧ match readR s (certGs s) cert0 with
    | .error f => ∃ fb, e = .returned (.tuple #[zeroCert, .iface 127 (.pointer (some ⟨fb, 0, none⟩))]) ∧ FltB w' fb f.1 f.2
    | .ok x => Kd cert0 x ∧ ∃ (a2 : Option Addr) (c2 : Nat) (a3 : Option Addr) (c3 : Nat) (a4 : Option Addr) (c4 : Nat) (a5 : Option Addr) (c5 : Nat), (∃ rb tb, LiesCert rb tb w' x a2 c2 a3 c3 a4 c4 a5 c5) ∧ e = .returned (.tuple #[.agg (cellsCert x a2 c2 a3 c3 a4 c4 a5 c5), .nilIface])
set_option maxRecDepth 100000 in
set_option maxHeartbeats 2000000 in
theorem reaCert_any (B : Nat) (s : ByteArray) (w : World) (hT : Tabs B w) (hET : ErrType w) (hB : B ≤ w.heap.size) (hg : 0 < B) (hs : s.size ≤ 9223372036854775807) :
    Calls Tryz.prog 50 #[.string s] w (ReCert s w) := by
  have H := Lib.hid (fun (w' : World) (hb : Below w.heap.size w w') => readCert_any B s w' (hT.below hb) (hET.below hb) (Nat.le_trans hB hb.size) hg hs)
  clear hT hET
  go_enter Tryz.func50, Tryz.ntmps50
  go_wp2_with fail
  refine (H.out _ (balloc (Below.refl _ _) _)).mono ?_
  rintro e w1 ⟨hb1, hh⟩
  have hblk := (hb1.block w.heap.size (by simp)).trans (heap_alloc_new w _)
  have HBK := Lib.hid hblk
  have HB := Lib.hid (bnext (balloc (Below.refl _ _) _) hb1)
  clear hb1 hblk
  cases hr : objR s (certGs s) cert0 0 with
  | error f =>
    rw [hr] at hh
    obtain ⟨fb, rfl, hf⟩ := hh
    have HF := Lib.hid hf
    have HR : Hid (readR s (certGs s) cert0 = .error f) := Lib.hid (by unfold readR; rw [hr])
    clear hf hr
    go_wp2_with fail
    refine (overCert_no _ _ _ _ _ _ _ _ _ _ _ _ _ _ fb w1).mono ?_
    rintro e w2 ⟨rfl, hb2⟩
    have hb := (hb2.block _ (lt_of_block HBK.out)).trans HBK.out
    have HB2 := Lib.hid (bnext HB.out hb2)
    have HF2 := Lib.hid (HF.out.below hb2)
    have HBK2 := Lib.hid hb
    have g0 : ∀ o, w2.cell? ⟨w.heap.size, o, none⟩ = _ := block_cell hb
    have g1 : ∀ o, w2.frozen? ⟨w.heap.size, o, none⟩ = false := block_free hb
    have g2 : w.heap.size < w2.heap.size := lt_of_block hb
    clear hb2 hb
    go_wp2
    have hb := block_setCell (block_setCell (block_setCell (block_setCell (block_setCell (block_setCell (HBK2.out) (o := 0) (.string ⟨#[]⟩)) (o := 1) (.int .u64 0)) (o := 2) (.slice none 0 0)) (o := 3) (.slice none 0 0)) (o := 4) (.slice none 0 0)) (o := 5) (.slice none 0 0)
    have d : ∀ o, _ = _ := block_cell hb
    have hne : fb ≠ w.heap.size := fun e => by subst e; have h9 := HBK2.out.symm.trans HF2.out; cases h9
    refine bodyPost_ret (v := .tuple #[zeroCert, .iface 127 (.pointer (some ⟨fb, 0, none⟩))]) ?_ rfl ⟨(bset (bset (bset (bset (bset (bset HB2.out (Nat.le_refl _) _) (Nat.le_refl _) _) (Nat.le_refl _) _) (Nat.le_refl _) _) (Nat.le_refl _) _) (Nat.le_refl _) _), ?_⟩
    · simp [results, Tryz.results50, go_sem, d]
    · rw [HR.out]
      exact ⟨fb, rfl, (bsn (bsn (bsn (bsn (bsn (bsn HF2.out hne) hne) hne) hne) hne) hne)⟩
  | ok y =>
    rw [hr] at hh
    obtain ⟨hk, hle, a2, c2, a3, c3, a4, c4, a5, c5, ⟨rb, tb, hrb, hl⟩, hh⟩ := hh
    have HL := Lib.hid hl
    by_cases hlt : y.2 < s.size
    · rw [if_pos hlt] at hh
      obtain ⟨fb, rfl, hf⟩ := hh
      have HF := Lib.hid hf
      have HR : Hid (readR s (certGs s) cert0 = .error (5, y.2)) := Lib.hid (by unfold readR; rw [hr]; exact if_pos hlt)
      clear hf hr hlt
      go_wp2_with fail
      refine (overCert_no _ _ _ _ _ _ _ _ _ _ _ _ _ _ fb w1).mono ?_
      rintro e w2 ⟨rfl, hb2⟩
      have hb := (hb2.block _ (lt_of_block HBK.out)).trans HBK.out
      have HB2 := Lib.hid (bnext HB.out hb2)
      have HF2 := Lib.hid (HF.out.below hb2)
      have HBK2 := Lib.hid hb
      have g0 : ∀ o, w2.cell? ⟨w.heap.size, o, none⟩ = _ := block_cell hb
      have g1 : ∀ o, w2.frozen? ⟨w.heap.size, o, none⟩ = false := block_free hb
      have g2 : w.heap.size < w2.heap.size := lt_of_block hb
      clear hb2 hb
      go_wp2
      have hb := block_setCell (block_setCell (block_setCell (block_setCell (block_setCell (block_setCell (HBK2.out) (o := 0) (.string ⟨#[]⟩)) (o := 1) (.int .u64 0)) (o := 2) (.slice none 0 0)) (o := 3) (.slice none 0 0)) (o := 4) (.slice none 0 0)) (o := 5) (.slice none 0 0)
      have d : ∀ o, _ = _ := block_cell hb
      have hne : fb ≠ w.heap.size := fun e => by subst e; have h9 := HBK2.out.symm.trans HF2.out; cases h9
      refine bodyPost_ret (v := .tuple #[zeroCert, .iface 127 (.pointer (some ⟨fb, 0, none⟩))]) ?_ rfl ⟨(bset (bset (bset (bset (bset (bset HB2.out (Nat.le_refl _) _) (Nat.le_refl _) _) (Nat.le_refl _) _) (Nat.le_refl _) _) (Nat.le_refl _) _) (Nat.le_refl _) _), ?_⟩
      · simp [results, Tryz.results50, go_sem, d]
      · rw [HR.out]
        exact ⟨fb, rfl, (bsn (bsn (bsn (bsn (bsn (bsn HF2.out hne) hne) hne) hne) hne) hne)⟩
    · rw [if_neg hlt] at hh
      subst hh
      have HR : Hid (readR s (certGs s) cert0 = .ok y.1) := Lib.hid (by unfold readR; rw [hr]; exact if_neg hlt)
      clear hr hlt
      go_wp2_with fail
      refine (overCert_ok _ _ _ _ _ _ _ _ _ _ _ _ _ _ w1).mono ?_
      rintro e w2 ⟨rfl, hb2⟩
      have hb := (hb2.block _ (lt_of_block HBK.out)).trans HBK.out
      have HB2 := Lib.hid (bnext HB.out hb2)
      have HL2 := Lib.hid (HL.out.below hb2)
      have HBK2 := Lib.hid hb
      have g0 : ∀ o, w2.cell? ⟨w.heap.size, o, none⟩ = _ := block_cell hb
      have g1 : ∀ o, w2.frozen? ⟨w.heap.size, o, none⟩ = false := block_free hb
      have g2 : w.heap.size < w2.heap.size := lt_of_block hb
      clear hb2 hb
      go_wp2
      have hb := block_setCell (block_setCell (block_setCell (block_setCell (block_setCell (block_setCell (HBK2.out) (o := 0) (.string (y.1 0).s)) (o := 1) (.int .u64 (y.1 1).n)) (o := 2) (.slice a2 (len (y.1 2).rs) c2)) (o := 3) (.slice a3 (len (y.1 3).ns) c3)) (o := 4) (.slice a4 (len (y.1 4).l) c4)) (o := 5) (.slice a5 (len (y.1 5).l) c5)
      have d : ∀ o, _ = _ := block_cell hb
      refine bodyPost_ret (v := .tuple #[.agg (cellsCert y.1 a2 c2 a3 c3 a4 c4 a5 c5), .nilIface]) ?_ rfl ⟨(bset (bset (bset (bset (bset (bset HB2.out (Nat.le_refl _) _) (Nat.le_refl _) _) (Nat.le_refl _) _) (Nat.le_refl _) _) (Nat.le_refl _) _) (Nat.le_refl _) _), ?_⟩
      · simp [results, Tryz.results50, go_sem, d]
      · rw [HR.out]
        exact ⟨hk, a2, c2, a3, c3, a4, c4, a5, c5, ⟨rb, tb, HL2.out.up (fun b h1 h2 => by
          have h3 : b ≠ w.heap.size := by simp at hrb; omega
          repeat rw [Below.heap_setCell _ _ _ _ h3])⟩, rfl⟩
end Go.Proofs.YtihiaopilnjonaaGreatDoor
namespace Go.Proofs.YtihiaopilnjonaaGreatDoor
open Go.RowKit
set_option linter.unusedSimpArgs false
set_option linter.unusedVariables false
theorem wk_may1 : allMay (partSpecs fullR 300 0 2 3) = true := by kernel_rfl
theorem wk_lay1 : layP (partSpecs fullR 300 0 2 3) = ⟨#[132, 161, 107, 3, 161, 108, 2, 161, 114, 196, 32, 114, 114, 114, 114, 114, 114, 114, 114, 114, 114, 114, 114, 114, 114, 114, 114, 114, 114, 114, 114, 114, 114, 114, 114, 114, 114, 114, 114, 114, 114, 114, 114, 161, 119, 205, 1, 44]⟩ := by kernel_rfl
theorem wk_same1 : ((⟨#[132, 161, 107, 3, 161, 108, 2, 161, 114, 196, 32, 114, 114, 114, 114, 114, 114, 114, 114, 114, 114, 114, 114, 114, 114, 114, 114, 114, 114, 114, 114, 114, 114, 114, 114, 114, 114, 114, 114, 114, 114, 114, 114, 161, 119, 205, 1, 44]⟩ : ByteArray).toList == ((⟨#[132, 161, 107, 3, 161, 108, 2, 161, 114, 196, 32]⟩ : ByteArray) ++ fullR ++ ⟨#[161, 119, 205, 1, 44]⟩).toList) = true := by kernel_rfl
theorem wk_may2 : allMay (slotSpecs 0 false 0 [] []) = true := by kernel_rfl
theorem wk_lay2 : layP (slotSpecs 0 false 0 [] []) = ⟨#[128]⟩ := by kernel_rfl
theorem wk_may3 : allMay (slotSpecs 5 true 0 [] []) = true := by kernel_rfl
theorem wk_lay3 : layP (slotSpecs 5 true 0 [] []) = ⟨#[130, 161, 108, 5, 161, 115, 1]⟩ := by kernel_rfl
theorem wk_may4 : allMay (partSpecs (fullR.extract 1 fullR.size) 0 0 0 0) = false := by kernel_rfl
theorem wk_may5 : allMay (msgSpecs ⟨#[]⟩ ⟨#[]⟩ 0 0 0 0) = false := by kernel_rfl
theorem wk_rd1 : readR ⟨#[128]⟩ (slotGs ⟨#[128]⟩ 0) slot0 = .ok slot0 := by kernel_rfl
theorem wk_rd2 : readR ⟨#[129, 161, 108, 0]⟩ (slotGs ⟨#[129, 161, 108, 0]⟩ 0) slot0 = .error (5, 0) := by kernel_rfl
theorem wk_rd3 : readR ⟨#[130, 161, 115, 1, 161, 108, 5]⟩ (slotGs ⟨#[130, 161, 115, 1, 161, 108, 5]⟩ 0) slot0 = .error (5, 0) := by kernel_rfl
theorem wk_rd4 : readR ⟨#[129, 161, 115, 2]⟩ (slotGs ⟨#[129, 161, 115, 2]⟩ 0) slot0 = .error (5, 0) := by kernel_rfl
theorem wk_rd5 : readR ⟨#[128, 128]⟩ (slotGs ⟨#[128, 128]⟩ 0) slot0 = .error (5, 1) := by kernel_rfl
theorem wk_rd6 : readR ⟨#[128]⟩ (partGs ⟨#[128]⟩ 0) part0 = .error (5, 0) := by kernel_rfl
theorem wk_rd7 : readR ⟨#[]⟩ (partGs ⟨#[]⟩ 0) part0 = .error (4, 0) := by kernel_rfl
theorem wk_rd8 : readR ⟨#[129, 161, 119, 204, 5]⟩ (partGs ⟨#[129, 161, 119, 204, 5]⟩ 0) part0 = .error (5, 3) := by kernel_rfl
def bdS : Nat → ByteArray
  | 0 => ⟨#[129, 161, 108, 0]⟩
  | 1 => ⟨#[130, 161, 115, 1, 161, 108, 5]⟩
  | _ => ⟨#[129, 161, 115, 2]⟩
theorem bdS_rd (m : Nat) : readR (bdS m) (slotGs (bdS m) 0) slot0 = .error (5, 0) := by
  match m with
  | 0 => exact wk_rd2
  | 1 => exact wk_rd3
  | _ + 2 => exact wk_rd4
theorem bdS_size (m : Nat) : (bdS m).size ≤ 9223372036854775807 := by
  match m with
  | 0 => decide
  | 1 => decide
  | _ + 2 => exact (show (4 : Nat) ≤ 9223372036854775807 by decide)
theorem bdS_at (m : Nat) (h : m < 3) : (#[Value.string ⟨#[129, 161, 108, 0]⟩, .string ⟨#[130, 161, 115, 1, 161, 108, 5]⟩, .string ⟨#[129, 161, 115, 2]⟩] : Array Value)[m]? = some (.string (bdS m)) := by
  match m, h with
  | 0, _ => rfl
  | 1, _ => rfl
  | 2, _ => rfl
end Go.Proofs.YtihiaopilnjonaaGreatDoor
namespace Go.Proofs.YtihiaopilnjonaaGreatDoor
open Go.RowKit
set_option linter.unusedSimpArgs false
set_option linter.unusedVariables false
structure TE7 (B : Nat) (w : World) : Prop where
  p : PTab B w
  t : Tabs B w
  e : ErrType w
  s : B ≤ w.heap.size
  g : 0 < B
theorem TE7.below {B : Nat} {w w' : World} (h : TE7 B w) (hb : Below w.heap.size w w') : TE7 B w' := ⟨h.p.keep hb h.s, h.t.below hb, h.e.below hb, Nat.le_trans h.s hb.size, h.g⟩
theorem readSlot_no (B : Nat) (s : ByteArray) (k : Int) (a : Nat) (w : World) (h : TE7 B w) (hs : s.size ≤ 9223372036854775807) (hr : readR s (slotGs s 0) slot0 = .error (k, a)) :
    Calls Tryz.prog 35 #[.string s] w fun e w' => ∃ fb, e = .returned (.tuple #[zeroSlot, .iface 127 (.pointer (some ⟨fb, 0, none⟩))]) ∧ FltB w' fb k a ∧ Below w.heap.size w w' := by
  refine (reaSlot_any B s w h.t h.e h.s h.g hs).mono ?_
  rintro e w' ⟨hb, hh⟩
  rw [hr] at hh
  obtain ⟨fb, he, hf⟩ := hh
  exact ⟨fb, he, hf, hb⟩
theorem readPart_no (B : Nat) (s : ByteArray) (k : Int) (a : Nat) (w : World) (h : TE7 B w) (hs : s.size ≤ 9223372036854775807) (hr : readR s (partGs s 0) part0 = .error (k, a)) :
    Calls Tryz.prog 29 #[.string s] w fun e w' => ∃ fb, e = .returned (.tuple #[zeroPart, .iface 127 (.pointer (some ⟨fb, 0, none⟩))]) ∧ FltB w' fb k a ∧ Below w.heap.size w w' := by
  refine (reaPart_any B s w h.t h.e h.s h.g hs).mono ?_
  rintro e w' ⟨hb, hh⟩
  rw [hr] at hh
  obtain ⟨fb, he, hf⟩ := hh
  exact ⟨fb, he, hf, hb⟩
theorem laid_yes {fs : List FSpec} {s : ByteArray} (h1 : allMay fs = true) (h2 : layP fs = s) {w w' : World} {e : Ending} (h : LaidIs fs w e w') : e = .returned (.tuple #[.string s, .int .i64 0]) ∧ Below w.heap.size w w' := by
  obtain ⟨h3, h4⟩ := h; rw [h1, if_pos rfl, h2] at h3; exact ⟨h3, h4⟩
theorem laid_no {fs : List FSpec} (h1 : allMay fs = false) {w w' : World} {e : Ending} (h : LaidIs fs w e w') : e = .returned (.tuple #[.string ⟨#[]⟩, .int .i64 2]) ∧ Below w.heap.size w w' := by
  obtain ⟨h3, h4⟩ := h; rw [h1, if_neg (by decide)] at h3; exact ⟨h3, h4⟩
set_option maxRecDepth 100000 in
set_option maxHeartbeats 4000000 in
theorem works7_any (B : Nat) (w : World) (h : TE7 B w) : Calls Tryz.prog 32 #[] w fun e w' => e = .returned (.bool true) ∧ Below w.heap.size w w' := by
  have HE := Lib.hid h
  clear h
  have hfs : (1 : Int) ≤ (fullR.size : Int) := by decide
  have hfn : (1 ≤ fullR.size) = True := by decide
  go_enter Tryz.func32, Tryz.ntmps32
  go_wp2_with fail
  refine (full_any w).mono ?_
  rintro e w1 ⟨rfl, hb⟩
  have HB := Lib.hid hb
  have HE := Lib.hid (HE.out.below hb)
  clear hb
  go_wp2_with fail
  refine (wpart_any B fullR 300 0 2 3 w1 HE.out.p (by decide) ⟨by decide, by decide⟩ ⟨by decide, by decide⟩ ⟨by decide, by decide⟩ ⟨by decide, by decide⟩ (by rw [wk_lay1]; decide)).mono ?_
  rintro e w2 hh
  obtain ⟨S1, hS1⟩ : ∃ S, layP (partSpecs fullR 300 0 2 3) = S := ⟨_, rfl⟩
  have HS1 := Lib.hid (hS1.symm.trans wk_lay1)
  obtain ⟨rfl, hb⟩ := laid_yes wk_may1 hS1 hh
  clear hS1
  have tS : (S1.toList == ((⟨#[132, 161, 107, 3, 161, 108, 2, 161, 114, 196, 32]⟩ : ByteArray) ++ fullR ++ ⟨#[161, 119, 205, 1, 44]⟩).toList) = true := by rw [HS1.out]; exact wk_same1
  have HB := Lib.hid (bnext HB.out hb)
  have HE := Lib.hid (HE.out.below hb)
  clear hb hh
  go_wp2_with fail
  refine (wslot_any B 0 false 0 none none 0 0 [] [] w2 HE.out.p (fun i hi => absurd hi (by simp [len])) (fun i hi => absurd hi (by simp [len])) (by decide) (by decide) (by decide) (by decide) (by decide) (by decide) (by rw [wk_lay2]; decide)).mono ?_
  rintro e w3 hh
  obtain ⟨rfl, hb⟩ := laid_yes wk_may2 wk_lay2 hh
  have HB := Lib.hid (bnext HB.out hb)
  have HE := Lib.hid (HE.out.below hb)
  clear hb hh
  go_wp2_with fail
  refine (wslot_any B 5 true 0 none none 0 0 [] [] w3 HE.out.p (fun i hi => absurd hi (by simp [len])) (fun i hi => absurd hi (by simp [len])) (by decide) (by decide) (by decide) (by decide) (by decide) (by decide) (by rw [wk_lay3]; decide)).mono ?_
  rintro e w4 hh
  obtain ⟨rfl, hb⟩ := laid_yes wk_may3 wk_lay3 hh
  have HB := Lib.hid (bnext HB.out hb)
  have HE := Lib.hid (HE.out.below hb)
  clear hb hh
  go_wp2_with fail
  refine (wpart_any B (fullR.extract 1 fullR.size) 0 0 0 0 w4 HE.out.p (by decide) ⟨by decide, by decide⟩ ⟨by decide, by decide⟩ ⟨by decide, by decide⟩ ⟨by decide, by decide⟩ (by decide)).mono ?_
  rintro e w5 hh
  obtain ⟨rfl, hb⟩ := laid_no wk_may4 hh
  have HB := Lib.hid (bnext HB.out hb)
  have HE := Lib.hid (HE.out.below hb)
  clear hb hh
  go_wp2_with fail
  refine (wmsg2_any B ⟨#[]⟩ ⟨#[]⟩ 0 0 0 0 w5 HE.out.p (by decide) (by decide) ⟨by decide, by decide⟩ ⟨by decide, by decide⟩ ⟨by decide, by decide⟩ ⟨by decide, by decide⟩ (by decide)).mono ?_
  rintro e w6 hh
  obtain ⟨rfl, hb⟩ := laid_no wk_may5 hh
  have HB := Lib.hid (bnext HB.out hb)
  have HE := Lib.hid (HE.out.below hb)
  clear hb hh
  go_wp2_with fail
  refine (reaSlot_any B ⟨#[128]⟩ w6 HE.out.t HE.out.e HE.out.s HE.out.g (by decide)).mono ?_
  rintro e w7 ⟨hb, hh⟩
  rw [wk_rd1] at hh
  obtain ⟨-, a3, c3, a4, c4, -, rfl⟩ := hh
  have HB := Lib.hid (bnext HB.out hb)
  have HE := Lib.hid (HE.out.below hb)
  clear hb tS
  go_wp2_with fail
  obtain ⟨sb, hsb⟩ : ∃ sb, w7.heap.size + 1 = sb := ⟨_, rfl⟩
  obtain ⟨W, hW⟩ : ∃ W, (w7.alloc (.cells #[.int .u64 0, .bool false, .int .u64 (slot0 2).n, .slice a3 (len (slot0 3).l) c3, .slice a4 (len (slot0 4).l) c4] 44)).alloc (.cells #[.string ⟨#[129, 161, 108, 0]⟩, .string ⟨#[130, 161, 115, 1, 161, 108, 5]⟩, .string ⟨#[129, 161, 115, 2]⟩] 9) = W := ⟨_, rfl⟩
  have HB : Hid (Below w.heap.size w W) := Lib.hid (by rw [← hW]; exact balloc (balloc HB.out _) _)
  have HE : Hid (TE7 B W) := Lib.hid (by rw [← hW]; exact HE.out.below (balloc (balloc (Below.refl _ _) _) _))
  have HS : Hid (W.heap[sb]? = some (.cells #[.string ⟨#[129, 161, 108, 0]⟩, .string ⟨#[130, 161, 115, 1, 161, 108, 5]⟩, .string ⟨#[129, 161, 115, 2]⟩] 9 (0, 0))) := Lib.hid (by rw [← hW, ← hsb]; exact alloc_new_at _ (by simp))
  rw [hW, hsb]
  clear hW hsb
  go_loopg [15] 3 (fun g i wr => ∃ m : Nat, g + m = 3 ∧ i = .int .i64 m ∧ Hid (Below W.heap.size W wr))
  case atStart => exact ⟨0, rfl, rfl, Below.refl _ _⟩
  case round =>
    obtain ⟨m, hg, rfl, HW⟩ := hrel
    by_cases hlt : m < 3
    · have c0 : wr.cell? ⟨sb, m, none⟩ = some (.string (bdS m)) := (block_cell ((HW.out.block sb (lt_of_block HS.out)).trans HS.out) m).trans (bdS_at m hlt)
      have i1 : decide (m < 3) = true := by simp; exact hlt
      have i2 : (m : Int) < 3 := by omega
      have HEr := Lib.hid (HE.out.below HW.out)
      have HR := Lib.hid (fun w' (h : TE7 B w') => readSlot_no B (bdS m) 5 0 w' h (bdS_size m) (bdS_rd m))
      generalize bdS m = v at c0 HR
      go_wp2_with fail
      refine (HR.out _ HEr.out).mono ?_
      rintro e w8 ⟨fb, rfl, hf, hb⟩
      have HF := Lib.hid hf
      have HB8 := Lib.hid hb
      have HE8 := Lib.hid (HEr.out.below hb)
      clear hb c0 hf
      go_wp2_with fail
      have HE9 := Lib.hid (HE8.out.below (balloc (Below.refl _ _) (.cells #[.int .u64 0, .bool false, .int .u64 0, .slice none 0 0, .slice none 0 0] 44)))
      have HF9 := Lib.hid (HF.out.below (balloc (Below.refl _ _) (.cells #[.int .u64 0, .bool false, .int .u64 0, .slice none 0 0, .slice none 0 0] 44)))
      have HB9 := Lib.hid (balloc (bnext HW.out HB8.out) (.cells #[.int .u64 0, .bool false, .int .u64 0, .slice none 0 0, .slice none 0 0] 44))
      refine (told_fault fb 5 0 _ HE9.out.e HF9.out (by decide) (Nat.lt_of_lt_of_le HE9.out.g HE9.out.s)).mono ?_
      rintro e w9 ⟨rfl, hb⟩
      have HB9 := Lib.hid (bnext HB9.out hb)
      clear hb
      go_wp2
      go_roundg (2 - m)
      case rel => exact ⟨m + 1, by omega, by go_num, HB9⟩
      case measure => omega
    · obtain rfl : m = 3 := by omega
      have HB := Lib.hid (bnext HB.out HW.out)
      have HE := Lib.hid (HE.out.below HW.out)
      clear HW
      go_wp2_with fail
      refine (readSlot_no B ⟨#[128, 128]⟩ 5 1 _ HE.out (by decide) wk_rd5).mono ?_
      rintro e x1 ⟨f1, rfl, hf, hb⟩
      have HB := Lib.hid (balloc (bnext HB.out hb) (.cells #[.int .u64 0, .bool false, .int .u64 0, .slice none 0 0, .slice none 0 0] 44))
      have HE := Lib.hid (HE.out.below (balloc hb (.cells #[.int .u64 0, .bool false, .int .u64 0, .slice none 0 0, .slice none 0 0] 44)))
      have HF1 := Lib.hid (hf.below (balloc (Below.refl _ _) (.cells #[.int .u64 0, .bool false, .int .u64 0, .slice none 0 0, .slice none 0 0] 44)))
      clear hb hf
      go_wp2_with fail
      refine (readPart_no B ⟨#[128]⟩ 5 0 _ HE.out (by decide) wk_rd6).mono ?_
      rintro e x2 ⟨f2, rfl, hf, hb⟩
      have HB := Lib.hid (balloc (bnext HB.out hb) (.cells #[.string ⟨#[]⟩, .int .u64 0, .int .u64 0, .int .u64 0, .int .u64 0] 46))
      have hb' := balloc hb (.cells #[.string ⟨#[]⟩, .int .u64 0, .int .u64 0, .int .u64 0, .int .u64 0] 46)
      have HE := Lib.hid (HE.out.below hb')
      have HF1 := Lib.hid (HF1.out.below hb')
      have HF2 := Lib.hid (hf.below (balloc (Below.refl _ _) (.cells #[.string ⟨#[]⟩, .int .u64 0, .int .u64 0, .int .u64 0, .int .u64 0] 46)))
      clear hb hf hb'
      go_wp2_with fail
      refine (readPart_no B ⟨#[]⟩ 4 0 _ HE.out (by decide) wk_rd7).mono ?_
      rintro e x3 ⟨f3, rfl, hf, hb⟩
      have HB := Lib.hid (balloc (bnext HB.out hb) (.cells #[.string ⟨#[]⟩, .int .u64 0, .int .u64 0, .int .u64 0, .int .u64 0] 46))
      have hb' := balloc hb (.cells #[.string ⟨#[]⟩, .int .u64 0, .int .u64 0, .int .u64 0, .int .u64 0] 46)
      have HE := Lib.hid (HE.out.below hb')
      have HF1 := Lib.hid (HF1.out.below hb')
      have HF2 := Lib.hid (HF2.out.below hb')
      have HF3 := Lib.hid (hf.below (balloc (Below.refl _ _) (.cells #[.string ⟨#[]⟩, .int .u64 0, .int .u64 0, .int .u64 0, .int .u64 0] 46)))
      clear hb hf hb'
      go_wp2_with fail
      refine (readPart_no B ⟨#[129, 161, 119, 204, 5]⟩ 5 3 _ HE.out (by decide) wk_rd8).mono ?_
      rintro e x4 ⟨f4, rfl, hf, hb⟩
      have HB := Lib.hid (balloc (bnext HB.out hb) (.cells #[.string ⟨#[]⟩, .int .u64 0, .int .u64 0, .int .u64 0, .int .u64 0] 46))
      have hb' := balloc hb (.cells #[.string ⟨#[]⟩, .int .u64 0, .int .u64 0, .int .u64 0, .int .u64 0] 46)
      have HE := Lib.hid (HE.out.below hb')
      have HF1 := Lib.hid (HF1.out.below hb')
      have HF2 := Lib.hid (HF2.out.below hb')
      have HF3 := Lib.hid (HF3.out.below hb')
      have HF4 := Lib.hid (hf.below (balloc (Below.refl _ _) (.cells #[.string ⟨#[]⟩, .int .u64 0, .int .u64 0, .int .u64 0, .int .u64 0] 46)))
      clear hb hf hb'
      go_wp2_with fail
      refine (told_fault f1 5 1 _ HE.out.e HF1.out (by decide) (Nat.lt_of_lt_of_le HE.out.g HE.out.s)).mono ?_
      rintro e y1 ⟨rfl, hb⟩
      have HB := Lib.hid (bnext HB.out hb)
      have HE := Lib.hid (HE.out.below hb)
      have HF2 := Lib.hid (HF2.out.below hb)
      have HF3 := Lib.hid (HF3.out.below hb)
      have HF4 := Lib.hid (HF4.out.below hb)
      clear hb
      go_wp2_with fail
      refine (told_fault f2 5 0 _ HE.out.e HF2.out (by decide) (Nat.lt_of_lt_of_le HE.out.g HE.out.s)).mono ?_
      rintro e y2 ⟨rfl, hb⟩
      have HB := Lib.hid (bnext HB.out hb)
      have HE := Lib.hid (HE.out.below hb)
      have HF3 := Lib.hid (HF3.out.below hb)
      have HF4 := Lib.hid (HF4.out.below hb)
      clear hb
      go_wp2_with fail
      refine (told_fault f3 4 0 _ HE.out.e HF3.out (by decide) (Nat.lt_of_lt_of_le HE.out.g HE.out.s)).mono ?_
      rintro e y3 ⟨rfl, hb⟩
      have HB := Lib.hid (bnext HB.out hb)
      have HE := Lib.hid (HE.out.below hb)
      have HF4 := Lib.hid (HF4.out.below hb)
      clear hb
      go_wp2_with fail
      refine (told_fault f4 5 3 _ HE.out.e HF4.out (by decide) (Nat.lt_of_lt_of_le HE.out.g HE.out.s)).mono ?_
      rintro e y4 ⟨rfl, hb⟩
      have HB := Lib.hid (bnext HB.out hb)
      clear hb
      go_wp2
      go_ret
      exact ⟨rfl, HB.out⟩
end Go.Proofs.YtihiaopilnjonaaGreatDoor
namespace Go.Proofs.YtihiaopilnjonaaGreatDoor
set_option linter.unusedSimpArgs false
set_option linter.unusedVariables false
open Go.RowKit Go.ChangeShapes Go.WideShapes Go.ChangeAt
set_option maxRecDepth 100000 in
theorem of_laidW {W : World} (h : laidMetH Tryz.prog Rows.wirePartsRow.laid W) : TE7 W.heap.size W := by
  have h' : laidMet Tryz.prog (Rows.wirePartsRow.laid.filter fun x => x.2.handleName?.isNone) W ∧ handlesMet Tryz.prog (Rows.wirePartsRow.laid.filter fun x => x.2.handleName?.isSome) W := h
  obtain ⟨⟨ps, ⟨gp, tp, csp, fp, pp, qp, hgp, htp, hvp, hdp, ⟨g0, t0, cs0, f0, p0, q0, hg0, ht0, hv0, hd0, ⟨g1, t1, cs1, f1, p1, q1, hg1, ht1, hv1, hd1, ⟨g2, t2, cs2, f2, p2, q2, hg2, ht2, hv2, hd2, ⟨g3, t3, cs3, f3, p3, q3, hg3, ht3, hv3, hd3, ⟨g4, t4, cs4, f4, p4, q4, hg4, ht4, hv4, hd4, _⟩, _⟩, _⟩, _⟩, _⟩, _⟩, _, _⟩, hH⟩ := h'
  obtain rfl : 4 = gp := Option.some.inj ((show _ = some 4 by kernel_rfl).symm.trans hgp)
  obtain rfl : 335 = tp := Option.some.inj ((show _ = some 335 by kernel_rfl).symm.trans htp)
  obtain rfl : 1 = g0 := Option.some.inj ((show _ = some 1 by kernel_rfl).symm.trans hg0)
  obtain rfl : 313 = t0 := Option.some.inj ((show _ = some 313 by kernel_rfl).symm.trans ht0)
  obtain rfl : 5 = g1 := Option.some.inj ((show _ = some 5 by kernel_rfl).symm.trans hg1)
  obtain rfl : 313 = t1 := Option.some.inj ((show _ = some 313 by kernel_rfl).symm.trans ht1)
  obtain rfl : 3 = g2 := Option.some.inj ((show _ = some 3 by kernel_rfl).symm.trans hg2)
  obtain rfl : 313 = t2 := Option.some.inj ((show _ = some 313 by kernel_rfl).symm.trans ht2)
  obtain rfl : 6 = g3 := Option.some.inj ((show _ = some 6 by kernel_rfl).symm.trans hg3)
  obtain rfl : 313 = t3 := Option.some.inj ((show _ = some 313 by kernel_rfl).symm.trans ht3)
  obtain rfl : 2 = g4 := Option.some.inj ((show _ = some 2 by kernel_rfl).symm.trans hg4)
  obtain rfl : 313 = t4 := Option.some.inj ((show _ = some 313 by kernel_rfl).symm.trans ht4)
  have hET : ErrType W := by
    obtain ⟨name, u, ty, e1, e2, e3, e4, e5⟩ := hH Rows.wirePartsRow.laid[1] (List.mem_singleton.2 rfl)
    have en : name = [101, 114, 114, 111, 114] := (Option.some.inj e1).symm
    subst en
    obtain rfl : 284 = u := Option.some.inj ((show _ = some 284 by kernel_rfl).symm.trans e2)
    have hm : ty ∈ (List.range Tryz.prog.types.size).filter fun t => Tryz.prog.rowNamed t [101, 114, 114, 111, 114] := List.mem_filter.2 ⟨List.mem_range.2 e3, e4⟩
    rw [oneRow] at hm
    obtain rfl := List.mem_singleton.1 hm
    have hg : Tryz.prog.globalNamed Rows.wirePartsRow.laid[1].1 = some 0 := (by kernel_rfl)
    exact World.var?_cell hg e5 0
  exact ⟨ptab_of rfl hgp hvp hdp, ⟨tab_of (by decide) hg0 hv0 hd0, tab_of (by decide) hg3 hv3 hd3, tab_of (by decide) hg1 hv1 hd1, tab_of (by decide) hg2 hv2 hd2, tab_of (by decide) hg4 hv4 hd4⟩, hET, Nat.le_refl _, lt_of_cell hET⟩
end Go.Proofs.YtihiaopilnjonaaGreatDoor
namespace Go.Proofs.YtihiaopilnjonaaGreatDoor
open Go.RowKit
set_option linter.unusedSimpArgs false
set_option linter.unusedVariables false
def Nms (B : Nat) (w : World) (a : Option Addr) (l : List Int) : Prop := ∀ i, i < len l → ∃ b off, a = some ⟨b, off, none⟩ ∧ CellAt B w b (off + i) (.int .u64 (nth l i))
theorem Nms.keep {B : Nat} {w w' : World} {a : Option Addr} {l : List Int} (h : Nms B w a l) (hk : Keep8 B w w') : Nms B w' a l := fun i hi => by
  obtain ⟨b, off, e, hc⟩ := h i hi; exact ⟨b, off, e, hc.keep hk⟩
theorem Nms.below {B : Nat} {w w' : World} {a : Option Addr} {l : List Int} (h : Nms B w a l) (hk : Below w.heap.size w w') : Nms B w' a l := fun i hi => by
  obtain ⟨b, off, e, hc⟩ := h i hi; exact ⟨b, off, e, hc.below hk⟩
def SaysU (w : World) (l : List Int) (g : Nat) (lb : Array Value) (p : Nat → Bool) : Prop :=
  (∀ args w', (callFunc g args).run Tryz.prog w' = .ok (.enter g args) w') ∧ ∀ i, i < len l → ∀ w', Below w.heap.size w w' → Calls Tryz.prog g (#[.int .u64 (nth l i)] ++ lb) w' fun e w'' => e = .returned (.bool (p i)) ∧ Below w'.heap.size w' w''
set_option maxRecDepth 100000 in
set_option maxHeartbeats 4000000 in
theorem idxu_any (B : Nat) (a : Option Addr) (c : Nat) (l : List Int) (g : Nat) (lb : Array Value) (p : Nat → Bool) (w : World) (hl : Nms B w a l) (hn : len l ≤ 100000) (hp : SaysU w l g lb p) :
    Calls Tryz.prog 253 #[.slice a (len l) c, .func (.func g) #[] lb] w (IdxOut (len l) p w) := by
  have HL := Lib.hid hl
  have HP := Lib.hid hp.2
  have eg := hp.1
  clear hl hp
  go_enter Tryz.func253, Tryz.ntmps253
  go_wp2
  go_loopg [8] (len l) (fun g i wr => ∃ m : Nat, g + m = len l ∧ i = .int .i64 m ∧ Hid (∀ i, i < m → p i = false) ∧ Hid (Below w.heap.size w wr))
  case atStart => exact ⟨0, rfl, rfl, fun i hi => by omega, Below.refl _ _⟩
  case round =>
    obtain ⟨m, hm, rfl, HN, HB⟩ := hrel
    by_cases hlt : m < len l
    · obtain ⟨b, off, rfl, hc⟩ := (HL.out.below HB.out) m hlt
      have c0 := hc.cell
      have i1 : (m : Int) < len l := by omega
      have HC := Lib.hid (HP.out m hlt wr HB.out)
      clear hc
      generalize nth l m = v at c0 HC
      go_wp2_with fail
      refine HC.out.mono ?_
      rintro e w1 ⟨rfl, hb⟩
      have HB1 : Hid (Below w.heap.size w w1) := Lib.hid (bnext HB.out hb)
      clear hb c0
      cases hpm : p m with
      | true =>
        go_wp2
        go_ret
        exact ⟨m, rfl, .inr ⟨m, hlt, rfl, hpm, HN.out⟩, HB1.out⟩
      | false =>
        have HN2 : Hid (∀ i, i < m + 1 → p i = false) := Lib.hid (fun i hi => by
          by_cases e : i = m
          · subst e; exact hpm
          · exact HN.out i (by omega))
        clear hpm
        go_wp2
        go_roundg (len l - (m + 1))
        case rel => exact ⟨m + 1, by omega, by go_num, HN2.out, HB1.out⟩
        case measure => omega
    · obtain rfl : m = len l := by omega
      have i1 : ¬ ((len l : Nat) : Int) < len l := by omega
      go_wp2
      go_ret
      exact ⟨-1, rfl, .inl ⟨rfl, HN.out⟩, HB.out⟩
theorem containsu_any (B : Nat) (a : Option Addr) (c : Nat) (l : List Int) (g : Nat) (lb : Array Value) (p : Nat → Bool) (w : World) (hl : Nms B w a l) (hn : len l ≤ 100000) (hp : SaysU w l g lb p) :
    Calls Tryz.prog 216 #[.slice a (len l) c, .func (.func g) #[] lb] w fun e w' => ∃ b, e = .returned (.bool b) ∧ (b = true ↔ ∃ i, i < len l ∧ p i = true) ∧ Below w.heap.size w w' := by
  have H := Lib.hid (idxu_any B a c l g lb p w hl hn hp)
  clear hl hp
  go_enter Tryz.func216, Tryz.ntmps216
  go_wp2_with fail
  refine H.out.mono ?_
  rintro e w1 ⟨r, rfl, hr, hb⟩
  have HB := Lib.hid hb
  clear hb
  rcases hr with ⟨rfl, hall⟩ | ⟨k, hk, rfl, hpk, -⟩
  · have HA := Lib.hid hall
    clear hall
    go_wp2
    go_ret
    exact ⟨false, rfl, ⟨fun h => (by cases h), fun ⟨i, hi, h⟩ => by rw [HA.out i hi] at h; cases h⟩, HB.out⟩
  · have HK := Lib.hid hpk
    clear hpk
    go_wp2
    go_ret
    exact ⟨true, rfl, ⟨fun _ => ⟨k, hk, HK.out⟩, fun _ => rfl⟩, HB.out⟩
theorem oc1_any (p : Value) (w : World) : Calls Tryz.prog 147 #[p] w fun e w' => e = .returned (.bool true) ∧ Below w.heap.size w w' := by
  go_enter Tryz.func147, Tryz.ntmps147
  go_wp2
  go_ret
  exact ⟨rfl, Below.refl _ _⟩
theorem oc2_any (B b base pb po : Nat) (x : Int) (s : ByteArray) (w : World) (h : CellAt B w pb po (.int .u64 x)) (hx : U64i x) (ht : PTab B w) (hB : B ≤ base) (hW : WrB w b base s) (hs : s.size + (numP x).size ≤ 60000000000000) :
    Calls Tryz.prog 148 #[.pointer (some ⟨b, 0, none⟩), .pointer (some ⟨pb, po, none⟩)] w fun e w' => e = .returned (.tuple #[]) ∧ WrB w' b base (s ++ numP x) ∧ WK base b w w' := by
  have c1 := h.cell
  have H := Lib.hid (Num_w B b base x s w ht hB hW hx.1 hx.2 (by omega))
  clear h ht hW hx
  go_enter Tryz.func148, Tryz.ntmps148
  go_wp2_with fail
  refine H.out.mono ?_
  rintro e w' ⟨rfl, h3, h4⟩
  have H3 := Lib.hid h3
  have H4 := Lib.hid h4
  clear h3 h4
  go_wp2
  go_end0
  exact ⟨rfl, H3.out, H4.out⟩
set_option maxRecDepth 100000 in
theorem many21u_any (B b9 : Nat) (x : Int) (w : World) (h1 : CellAt B w b9 0 (.func (.func 147) #[] #[])) : Calls Tryz.prog 217 #[.int .u64 x, .pointer (some ⟨b9, 0, none⟩)] w fun e w' => e = .returned (.bool false) ∧ Below w.heap.size w w' := by
  have c1 := h1.cell
  have l1 := h1.lt
  have eg := enters_of Tryz.func147 (by kernel_rfl) rfl
  clear h1
  go_enter Tryz.func217, Tryz.ntmps217
  go_wp2_with fail
  refine (oc1_any _ _).mono ?_
  rintro e w1 ⟨rfl, hb⟩
  have HB : Hid (Below w.heap.size w w1) := Lib.hid (bnext (balloc (Below.refl _ _) _) hb)
  clear hb
  go_wp2
  go_ret
  exact ⟨rfl, HB.out⟩
set_option maxRecDepth 100000 in
set_option maxHeartbeats 4000000 in
theorem many2u_any (B b7 b8 b9 pb po c most : Nat) (a : Option Addr) (l : List Int) (w : World) (h1 : CellAt B w b7 0 (.pointer (some ⟨pb, po, none⟩))) (h2 : CellAt B w pb po (.slice a (len l) c)) (h3 : CellAt B w b8 0 (.int .i64 most)) (h4 : CellAt B w b9 0 (.func (.func 147) #[] #[]))
    (hl : Nms B w a l) (hn : len l ≤ 100000) : Calls Tryz.prog 215 #[.pointer (some ⟨b7, 0, none⟩), .pointer (some ⟨b8, 0, none⟩), .pointer (some ⟨b9, 0, none⟩)] w fun e w' => e = .returned (.bool (decide (len l ≤ most))) ∧ Below w.heap.size w w' := by
  have c1 := h1.cell
  have c2 := h2.cell
  have c3 := h3.cell
  have H4 := Lib.hid h4
  have HL := Lib.hid hl
  have eg := enters_of Tryz.func217 (by kernel_rfl) rfl
  clear h1 h2 h3 h4 hl
  have HCF : Hid (∀ w', Below w.heap.size w w' → Calls Tryz.prog 216 #[.slice a (len l) c, .func (.func 217) #[] #[.pointer (some ⟨b9, 0, none⟩)]] w' fun e w'' => ∃ b, e = .returned (.bool b) ∧ (b = true ↔ ∃ i, i < len l ∧ (false : Bool) = true) ∧ Below w'.heap.size w' w'') :=
    Lib.hid (fun w' hb => containsu_any B a c l _ _ (fun _ => false) w' (HL.out.below hb) hn ⟨eg, fun i hi w'' hb2 => many21u_any B b9 (nth l i) w'' ((H4.out.below hb).below hb2)⟩)
  by_cases hm : len l ≤ most
  · have i1 : decide (len l ≤ most) = true := decide_eq_true hm
    have i2 : (len l : Int) ≤ most := by omega
    have HM := Lib.hid i1
    clear i1 hm
    go_enter Tryz.func215, Tryz.ntmps215
    go_wp2_with fail
    go_still_tail 11, (by kernel_rfl)
    go_wp2_with fail
    refine (HCF.out _ (bdrew (Below.refl _ _))).mono ?_
    rintro e w1 ⟨q, rfl, hq, hb⟩
    have HB : Hid (Below w.heap.size w w1) := Lib.hid (bnext (bdrew (Below.refl _ _)) hb)
    have HE : Hid ((!q) = decide (len l ≤ most)) := Lib.hid (by
      rw [HM.out]
      cases q with
      | true => obtain ⟨i, _, h⟩ := hq.1 rfl; cases h
      | false => rfl)
    clear hb hq c1 c2 c3
    go_wp2
    go_ret
    exact ⟨ret_bool HE.out, HB.out⟩
  · have i1 : decide (len l ≤ most) = false := decide_eq_false hm
    have HM := Lib.hid i1
    have i2 : ¬ (len l : Int) ≤ most := by omega
    go_enter Tryz.func215, Tryz.ntmps215
    go_wp2_with fail
    go_quiet (fail)
    go_wp2
    go_ret
    exact ⟨ret_bool (by rw [HM.out]), by (repeat (first | exact Below.refl _ _ | assumption | (refine bdrew ?_) | (refine bdrewN ?_ _) | (refine balloc ?_ _) | (refine bset ?_ (by first | omega | (simp; done) | (simp; omega)) _) | (refine bnext ?_ (by assumption))))⟩
def nmsP (l : List Int) : ByteArray := listP (len l) ++ catB (l.map numP)
set_option maxRecDepth 100000 in
set_option maxHeartbeats 4000000 in
theorem many3u_any (B b base b7 b10 pb po c : Nat) (a : Option Addr) (l : List Int) (s : ByteArray) (W0 w : World) (h1 : CellAt B W0 b7 0 (.pointer (some ⟨pb, po, none⟩))) (h2 : CellAt B W0 pb po (.slice a (len l) c)) (h3 : CellAt B W0 b10 0 (.func (.func 148) #[] #[]))
    (hl : Nms B W0 a l) (hn : len l ≤ 60000) (h32 : ∀ i, i < len l → U64i (nth l i)) (hk : Keep8 B W0 w) (hb0 : Off8 W0 b)
    (ht : PTab B w) (hB : B ≤ base) (hW : WrB w b base s) (hs : s.size + (nmsP l).size ≤ 60000000000000) :
    Calls Tryz.prog 218 #[.pointer (some ⟨b, 0, none⟩), .pointer (some ⟨b7, 0, none⟩), .pointer (some ⟨b10, 0, none⟩)] w fun e w' => e = .returned (.tuple #[]) ∧ WrB w' b base (s ++ nmsP l) ∧ WK base b w w' := by
  have H1 := Lib.hid h1
  have H2 := Lib.hid h2
  have H3 := Lib.hid h3
  have HL := Lib.hid hl
  have H32 := Lib.hid h32
  have HK := Lib.hid hk
  have HT := Lib.hid ht
  have HWR := Lib.hid hW
  have HBS : Hid (base ≤ w.heap.size) := Lib.hid (by have := hW.1; have := hW.lt; omega)
  have HS : Hid (s.size + (listP (len l)).size + (catB (l.map numP)).size ≤ 60000000000000) := Lib.hid (by unfold nmsP at hs; rw [ByteArray.size_append] at hs; omega)
  have hs0 : s.size ≤ 60000000000000 := by omega
  have c1 := (h1.keep hk).cell
  have c2 := (h2.keep hk).cell
  have eg := enters_of Tryz.func148 (by kernel_rfl) rfl
  clear h1 h2 h3 hl h32 hk ht hW hs
  go_enter Tryz.func218, Tryz.ntmps218
  go_wp2_with fail
  refine (List_w B b base (len l) s w HT.out hB HWR.out (by omega) (by omega)).mono ?_
  rintro e w3 ⟨rfl, hw3, hk3⟩
  have HW3 : Hid (WrB w3 b base (s ++ listP (len l) ++ catB ((l.map numP).take 0))) := Lib.hid (by
    have e : s ++ listP (len l) ++ catB ((l.map numP).take 0) = s ++ listP (len l) := ba_ext (by simp [catB])
    rw [e]; exact hw3)
  have HK3 : Hid (WK base b w w3) := Lib.hid hk3
  have hk8 := HK.out.wk hk3 hb0 hB
  have d1 := (H1.out.keep hk8).cell
  have d2 := (H2.out.keep hk8).cell
  clear hw3 hk3 hk8 c1 c2
  go_wp2
  clear d1 d2
  go_loopg [15] (len l) (fun gg i wr => ∃ m : Nat, gg + m = len l ∧ i = .int .i64 m ∧ Hid (WrB wr b base (s ++ listP (len l) ++ catB ((l.map numP).take m))) ∧ Hid (WK base b w wr))
  case atStart => exact ⟨0, rfl, rfl, HW3.out, HK3.out⟩
  case round =>
    clear HW3 HK3
    obtain ⟨m, hm2, rfl, HWW, HWK⟩ := hrel
    by_cases hlt : m < len l
    · have i1 : (m : Int) < len l := by omega
      have hml : m < l.length := hlt
      have hk8 := HK.out.wk HWK.out hb0 hB
      have HK8 := Lib.hid hk8
      have d1 := (H1.out.keep hk8).cell
      have d2 := (H2.out.keep hk8).cell
      have d3 := (H3.out.keep hk8).cell
      obtain ⟨gb, go, rfl, hcell⟩ := (HL.out.keep hk8) m hlt
      have HCL := Lib.hid hcell
      have hsn : (l.map numP).take (m + 1) = (l.map numP).take m ++ [numP (nth l m)] := by
        rw [List.take_succ_eq_append_getElem (by simpa using hml), List.getElem_map, nth_eq l m hml]
      have hct := catB_take (L := l.map numP) (t := m) (by simpa using hml)
      have hfm : (l.map numP)[m]'(by simpa using hml) = numP (nth l m) := by rw [List.getElem_map, nth_eq l m hml]
      rw [hfm] at hct
      have h32m := H32.out m hlt
      obtain ⟨x, hx⟩ : ∃ x, nth l m = x := ⟨_, rfl⟩
      rw [hx] at hsn hct h32m HCL
      obtain ⟨s1, hs1⟩ : ∃ s1, s ++ listP (len l) ++ catB ((l.map numP).take m) = s1 := ⟨_, rfl⟩
      rw [hs1] at HWW
      have hs1s : s1.size + (numP x).size ≤ 60000000000000 := by
        rw [← hs1, ByteArray.size_append, ByteArray.size_append]
        have := HS.out
        omega
      have HSN : Hid (s ++ listP (len l) ++ catB ((l.map numP).take (m + 1)) = s1 ++ numP x) := Lib.hid (by
        rw [hsn, catB_snoc, ← hs1]; simp only [ByteArray.append_assoc])
      have HTR : Hid (PTab B wr) := Lib.hid (HT.out.keep HWK.out.bel hB)
      have hbr : base ≤ wr.heap.size := by have := HWK.out.bel.size; have := HBS.out; omega
      have HBR := Lib.hid hbr
      clear hk8 hcell hsn hct hfm hx hs1 hbr
      go_upto_region 4 with fail
      go_still_tail 7, (by kernel_rfl)
      go_wp2_with fail
      refine (oc2_any B b base gb (go + m) x s1 _ (HCL.out.below (bdrew (Below.refl _ _))) h32m (HTR.out.keep (bdrew (Below.refl _ _)) HTR.out.size) hB (HWW.out.below (bdrew (Below.refl _ _))) hs1s).mono ?_
      rintro e w5 ⟨rfl, hw5, hk5⟩
      have HW5 : Hid (WrB w5 b base (s ++ listP (len l) ++ catB ((l.map numP).take (m + 1)))) := Lib.hid (by rw [HSN.out]; exact hw5)
      have HK5 : Hid (WK base b w w5) := Lib.hid ((HWK.out.trans (WK.of_below (bdrew (Below.refl _ _)) HBR.out)).trans hk5)
      clear hw5 hk5 HWW HWK d1 d2 d3 HCL
      go_wp2
      go_roundg (len l - (m + 1))
      case rel => exact ⟨m + 1, by omega, by go_num, HW5.out, HK5.out⟩
      case measure => omega
    · obtain rfl : m = len l := by omega
      have i1 : ¬ ((len l : Nat) : Int) < len l := by omega
      go_wp2
      go_end0
      refine ⟨rfl, ?_, HWK.out⟩
      have h := HWW.out
      rw [List.take_of_length_le (by rw [List.length_map]; exact Nat.le_refl _), ByteArray.append_assoc] at h
      exact h
theorem fnums_any (B : Nat) (key : ByteArray) (pb po c most : Nat) (a : Option Addr) (l : List Int) (w : World) (hk : key.size < 65536) (hBw : B ≤ w.heap.size) (hc : CellAt B w pb po (.slice a (len l) c)) (hl : Nms B w a l) (hn : len l ≤ 100000) (hu : ∀ i, i < len l → U64i (nth l i)) (hm : most ≤ 60000) :
    Calls Tryz.prog 146 #[.string key, .pointer (some ⟨pb, po, none⟩), .int .i64 most, .func (.func 147) #[] #[], .func (.func 148) #[] #[], .func (.func 150) #[] #[]] w fun e w' => ∃ v : FVal, e = .returned v.val ∧ FSem B w' v ⟨key, false, decide (len l = 0), decide (len l ≤ most), nmsP l⟩ ∧ Below w.heap.size w w' := by
  refine (smanyu_any key pb po most w).mono ?_
  rintro e V ⟨v, rfl, ⟨bx, hlo, hM, rfl⟩, hb⟩
  have C0 : CellAt B V bx 0 (.pointer (some ⟨pb, po, none⟩)) := cellAt_new hM.b0 (by decide) rfl
  have C1 : CellAt B V (bx + 1) 0 (.int .i64 most) := cellAt_new hM.b1 (by decide) rfl
  have C2 : CellAt B V (bx + 1 + 1) 0 (.func (.func 147) #[] #[]) := cellAt_new hM.b2 (by decide) rfl
  have C3 : CellAt B V (bx + 1 + 1 + 1) 0 (.func (.func 148) #[] #[]) := cellAt_new hM.b3 (by decide) rfl
  have CP : CellAt B V pb po (.slice a (len l) c) := hc.below hb
  have SL : Nms B V a l := hl.below hb
  refine ⟨_, rfl, ?_, hb⟩
  refine ⟨rfl, rfl, hk, enters_of Tryz.func214 (by kernel_rfl) rfl, enters_of Tryz.func215 (by kernel_rfl) rfl, enters_of Tryz.func218 (by kernel_rfl) rfl, fun w' hw => many1u_any B bx pb po (len l) c a w' (C0.keep hw) (CP.keep hw), fun w' hw => many2u_any B bx (bx + 1) (bx + 1 + 1) pb po c most a l w' (C0.keep hw) (CP.keep hw) (C1.keep hw) (C2.keep hw) (SL.keep hw) hn, fun hm1 he w' b base s hw hb ht hB hW hs => many3u_any B b base bx (bx + 1 + 1 + 1) pb po c a l s V w' C0 CP C3 SL (by have := of_decide_eq_true hm1; omega) hu hw hb ht hB hW hs⟩
end Go.Proofs.YtihiaopilnjonaaGreatDoor
namespace Go.Proofs.YtihiaopilnjonaaGreatDoor
open Go.RowKit
set_option linter.unusedSimpArgs false
set_option linter.unusedVariables false
def At (s : ByteArray) (a : Nat) (t : ByteArray) : Prop := a ≤ s.size ∧ ∃ R, s.data.toList.drop a = t.data.toList ++ R
theorem At.le {s t : ByteArray} {a : Nat} (h : At s a t) : a + t.size ≤ s.size := by
  obtain ⟨h1, R, h2⟩ := h
  have := congrArg List.length h2
  rw [List.length_drop, List.length_append, ba_len, ba_len] at this
  omega
theorem At.nil {s : ByteArray} {a : Nat} (h : a ≤ s.size) : At s a ByteArray.empty := ⟨h, s.data.toList.drop a, by rfl⟩
def POk : DV → Prop
  | .num n => U64i n
  | .nums l => ∀ n ∈ l, U64i n
  | _ => True
def DOk : DV → Prop
  | .revs l => ∀ r ∈ l, ∀ o, POk (revC r o)
  | d => POk d
structure FG (s : ByteArray) (x0 : Rcd) (g : GSpec) (f : Rcd → FSpec) : Prop where
  key : ∀ y, (f y).key = g.key
  ksz : g.key.size ≤ 10240
  must : ∀ y, (f y).must = g.must
  loc : ∀ y z, (∀ o, o ∈ g.offs → y o = z o) → f y = f z
  emp : ∀ y, Kd x0 y → (f y).empty = g.empty y
  full : g.must = true → ∀ y, (f y).empty = false
  un : g.must = false → (f x0).empty = true ∧ (f x0).may = true
  zero : ∀ v, Kd x0 v → (f v).empty = true → ∀ o, o ∈ g.offs → v o = x0 o
  back : ∀ x a y, a ≤ s.size → fresh x0 g x → Kd x0 x → g.read x a = .ok y → g.empty y.1 = false → (f y.1).may = true ∧ At s a (f y.1).bytes ∧ y.2 = a + (f y.1).bytes.size ∧ ∀ o, o ∈ g.offs → DOk (y.1 o)
  forth : ∀ v x a, Kd x0 v → (∀ o, DOk (v o)) → fresh x0 g x → Kd x0 x → (f v).may = true → (f v).empty = false → At s a (f v).bytes → ∃ y, g.read x a = .ok (y, a + (f v).bytes.size) ∧ ∀ o, o ∈ g.offs → y o = v o
variable {s : ByteArray} {x0 : Rcd}
end Go.Proofs.YtihiaopilnjonaaGreatDoor
namespace Go.Proofs.YtihiaopilnjonaaGreatDoor
open Go.RowKit
set_option linter.unusedSimpArgs false
set_option linter.unusedVariables false
abbrev FPair := GSpec × (Rcd → FSpec)
def gsOf (P : List FPair) : List GSpec := P.map fun p => p.1
def pth (P : List FPair) (i : Nat) : FPair := P.getD i (GSpec.zero, fun _ => ⟨ByteArray.empty, false, false, false, ByteArray.empty⟩)
theorem pth_eq (P : List FPair) (i : Nat) (h : i < P.length) : pth P i = P[i] := by unfold pth; rw [List.getD_eq_getElem?_getD, List.getElem?_eq_getElem h]; rfl
theorem gsOf_len (P : List FPair) : (gsOf P).length = P.length := List.length_map _
theorem gth_of {P : List FPair} {i : Nat} (h : i < P.length) : gth (gsOf P) i = (pth P i).1 := by
  rw [gth_eq _ _ (by rw [gsOf_len]; exact h), pth_eq P i h]; unfold gsOf; rw [List.getElem_map]
structure FGs (s : ByteArray) (x0 : Rcd) (P : List FPair) : Prop where
  fg : ∀ p ∈ P, FG s x0 p.1 p.2
  ok : GOk x0 (gsOf P)
  len : P.length ≤ 1000
variable {s : ByteArray} {x0 : Rcd} {P : List FPair}
theorem FGs.at (h : FGs s x0 P) {i : Nat} (hi : i < P.length) : FG s x0 (gth (gsOf P) i) (pth P i).2 := by
  rw [gth_of hi]; exact h.fg _ (by rw [pth_eq P i hi]; exact List.getElem_mem _)
theorem kept_le (l : List FSpec) : (keptF l).length ≤ l.length := List.length_filter_le _ _
end Go.Proofs.YtihiaopilnjonaaGreatDoor
namespace Go.Proofs.YtihiaopilnjonaaGreatDoor
open Go.RowKit
set_option linter.unusedSimpArgs false
set_option linter.unusedVariables false
def revSpecs (r : RevD) : List FSpec := [⟨⟨#[112]⟩, false, r.pos == 0, true, numP r.pos⟩, objSpec ⟨#[113]⟩ (partSpecs r.root r.wt r.first r.life r.keys), objSpec ⟨#[115]⟩ (slotSpecs r.L r.signed r.idx r.ws r.ps)]
def revB (r : RevD) : ByteArray := layP (revSpecs r)
def mayR (l : List RevD) (most : Nat) : Bool := decide (len l ≤ most) && l.all fun r => allMay (revSpecs r)
theorem mayB_iff (l : List ByteArray) (most : Nat) : mayB l most = true ↔ len l ≤ most ∧ ∀ x ∈ l, x.size = 32 := by
  unfold mayB
  rw [Bool.and_eq_true, decide_eq_true_iff, List.all_eq_true]
  exact and_congr_right fun _ => forall_congr' fun x => forall_congr' fun _ => decide_eq_true_iff
theorem mayR_iff (l : List RevD) (most : Nat) : mayR l most = true ↔ len l ≤ most ∧ ∀ x ∈ l, allMay (revSpecs x) = true := by
  unfold mayR
  rw [Bool.and_eq_true, decide_eq_true_iff, List.all_eq_true]
def certSpecs (root : ByteArray) (sg : Int) (rs : List RevD) (cs : List Int) (sp pp : List ByteArray) : List FSpec :=
  [⟨⟨#[80]⟩, false, decide (len pp = 0), mayB pp 10240, dgsP pp⟩, ⟨⟨#[83]⟩, false, decide (len sp = 0), mayB sp 10240, dgsP sp⟩, ⟨⟨#[99]⟩, true, false, decide (root.size = 32), binP root⟩,
   ⟨⟨#[112]⟩, false, decide (len cs = 0), decide (len cs ≤ 640), listP (len cs) ++ catB (cs.map numP)⟩, ⟨⟨#[114]⟩, false, decide (len rs = 0), mayR rs 640, listP (len rs) ++ catB (rs.map revB)⟩, ⟨⟨#[119]⟩, false, sg == 0, true, numP sg⟩]
def RvOk (r : RevD) : Prop := ∀ o, POk (revC r o)
structure CertOkD (sg : Int) (rs : List RevD) (cs : List Int) : Prop where
  sg : U64i sg
  cs : ∀ n ∈ cs, U64i n
  rs : ∀ r ∈ rs, RvOk r
end Go.Proofs.YtihiaopilnjonaaGreatDoor
namespace Go.Proofs.YtihiaopilnjonaaGreatDoor
open Go.RowKit
set_option linter.unusedSimpArgs false
set_option linter.unusedVariables false
def putB (w : World) (t : Nat) (y : Obj) : World := { w with heap := w.heap.setIfInBounds t y }
theorem putB_ne {w : World} {t k : Nat} {y : Obj} (h : k ≠ t) : (putB w t y).heap[k]? = w.heap[k]? := by
  show (w.heap.setIfInBounds t y)[k]? = _
  rw [Array.getElem?_setIfInBounds_ne (fun e => h e.symm)]
theorem putB_size (w : World) (t : Nat) (y : Obj) : (putB w t y).heap.size = w.heap.size := Array.size_setIfInBounds
theorem putB_self (w : World) (t : Nat) : ∃ y, putB w t y = w := by
  by_cases h : t < w.heap.size
  · refine ⟨w.heap[t], ?_⟩
    unfold putB
    have : w.heap.setIfInBounds t w.heap[t] = w.heap := by
      apply Array.ext_getElem?
      intro i
      by_cases e : t = i
      · subst e; rw [Array.getElem?_setIfInBounds_self_of_lt h, Array.getElem?_eq_getElem h]
      · rw [Array.getElem?_setIfInBounds_ne e]
    rw [this]
  · refine ⟨.cells #[] 0 (0, 0), ?_⟩
    unfold putB
    have : w.heap.setIfInBounds t (.cells #[] 0 (0, 0)) = w.heap := by
      apply Array.ext_getElem?
      intro i
      by_cases e : t = i
      · subst e; rw [Array.getElem?_eq_none (by rw [Array.size_setIfInBounds]; omega), Array.getElem?_eq_none (by omega)]
      · rw [Array.getElem?_setIfInBounds_ne e]
    rw [this]
theorem putB_at {w : World} {t : Nat} {y x : Obj} (h : (putB w t y).heap[t]? = some x) : x = y := by
  have h' : (w.heap.setIfInBounds t y)[t]? = some x := h
  by_cases hl : t < w.heap.size
  · rw [Array.getElem?_setIfInBounds_self_of_lt hl] at h'; cases h'; rfl
  · rw [Array.getElem?_eq_none (by rw [Array.size_setIfInBounds]; omega)] at h'; cases h'
theorem CellAt.putB {B : Nat} {w : World} {b o t : Nat} {x : Value} (h : CellAt B w b o x) (hb : b ≠ t) (y : Obj) : CellAt B (putB w t y) b o x := h.but hb fun k hk => putB_ne hk
theorem keep_putB {B t : Nat} {w w' : World} (hb : Below w.heap.size w w') (hB : B ≤ w.heap.size) (ht : B ≤ t) (y : Obj) : Keep8 B (putB w t y) (putB w' t y) := by
  refine ⟨by rw [putB_size]; exact hB, by rw [putB_size, putB_size]; exact hb.size, fun k hk => ?_, fun k x hx hn => ?_⟩
  · rw [putB_ne (by omega), putB_ne (by omega)]; exact hb.block k (by omega)
  · by_cases e : k = t
    · subst e
      have hl : k < w.heap.size := by have := lt_of_block hx; rw [putB_size] at this; exact this
      have := putB_at hx
      subst this
      show (w'.heap.setIfInBounds k x)[k]? = some x
      rw [Array.getElem?_setIfInBounds_self_of_lt (Nat.lt_of_lt_of_le hl hb.size)]
    · rw [putB_ne e] at hx ⊢
      rw [hb.block k (lt_of_block hx)]; exact hx
def FIT (B t : Nat) (w : World) (v : FVal) (f : FSpec) : Prop := B ≤ w.heap.size ∧ B ≤ t ∧ ∀ y, FSem B (putB w t y) v f
theorem FIT.below {B t : Nat} {w w' : World} {v : FVal} {f : FSpec} (h : FIT B t w v f) (hb : Below w.heap.size w w') : FIT B t w' v f :=
  ⟨Nat.le_trans h.1 hb.size, h.2.1, fun y => (h.2.2 y).later (keep_putB hb h.1 h.2.1 y)⟩
theorem fit_lasts (B t : Nat) (S : FSpec) : Lasts (fun w v => FIT B t w v S) := fun w w' v hb h => h.below hb
def FITs (B t : Nat) (fs : List FSpec) (w : World) (l : List FVal) : Prop := B ≤ w.heap.size ∧ B ≤ t ∧ ∀ y, FSems B (putB w t y) l fs
theorem fits_lasts (B t : Nat) (fs : List FSpec) : LastsR (FITs B t fs) := fun w w' l hb h => ⟨Nat.le_trans h.1 hb.size, h.2.1, fun y => (h.2.2 y).later (keep_putB hb h.1 h.2.1 y)⟩
theorem FITs.sems {B t : Nat} {fs : List FSpec} {w : World} {l : List FVal} (h : FITs B t fs w l) : FSems B w l fs := by
  obtain ⟨y, hy⟩ := putB_self w t
  have := h.2.2 y
  rw [hy] at this; exact this
theorem fits3 {B t : Nat} {w : World} {x0 x1 x2 : FVal} {S0 S1 S2 : FSpec} (p0 : FIT B t w x0 S0) (p1 : FIT B t w x1 S1) (p2 : FIT B t w x2 S2) : FITs B t [S0, S1, S2] w [x0, x1, x2] :=
  ⟨p0.1, p0.2.1, fun y => ⟨rfl, fun i hi => by
    have hi : i < 3 := by simpa [len] using hi
    match i, hi with
    | 0, _ => exact p0.2.2 y
    | 1, _ => exact p1.2.2 y
    | 2, _ => exact p2.2.2 y⟩⟩
theorem fits5 {B t : Nat} {w : World} {x0 x1 x2 x3 x4 : FVal} {S0 S1 S2 S3 S4 : FSpec} (p0 : FIT B t w x0 S0) (p1 : FIT B t w x1 S1) (p2 : FIT B t w x2 S2) (p3 : FIT B t w x3 S3) (p4 : FIT B t w x4 S4) : FITs B t [S0, S1, S2, S3, S4] w [x0, x1, x2, x3, x4] :=
  ⟨p0.1, p0.2.1, fun y => ⟨rfl, fun i hi => by
    have hi : i < 5 := by simpa [len] using hi
    match i, hi with
    | 0, _ => exact p0.2.2 y
    | 1, _ => exact p1.2.2 y
    | 2, _ => exact p2.2.2 y
    | 3, _ => exact p3.2.2 y
    | 4, _ => exact p4.2.2 y⟩⟩
def CellOff (B t : Nat) (w : World) (b o : Nat) (x : Value) : Prop := CellAt B w b o x ∧ b ≠ t
theorem CellOff.below {B t : Nat} {w w' : World} {b o : Nat} {x : Value} (h : CellOff B t w b o x) (hb : Below w.heap.size w w') : CellOff B t w' b o x := ⟨h.1.below hb, h.2⟩
theorem CellOff.putB {B t : Nat} {w : World} {b o : Nat} {x : Value} (h : CellOff B t w b o x) (y : Obj) : CellAt B (putB w t y) b o x := h.1.putB h.2 y
theorem CellOff.of {B b0 : Nat} {W0 : World} {b o : Nat} {x : Value} (h : CellAt B W0 b o x) (hb : Off8 W0 b0) (hB : B ≤ b0) : b ≠ b0 := by
  rcases h.ex with h1 | ⟨y, h1, h2⟩
  · omega
  · exact hb.ne h1 h2
def StrsOff (B t : Nat) (w : World) (a : Option Addr) (l : List ByteArray) : Prop := ∀ i, i < len l → ∃ b off, a = some ⟨b, off, none⟩ ∧ CellOff B t w b (off + i) (.string (sth l i))
theorem StrsOff.below {B t : Nat} {w w' : World} {a : Option Addr} {l : List ByteArray} (h : StrsOff B t w a l) (hb : Below w.heap.size w w') : StrsOff B t w' a l := fun i hi => by
  obtain ⟨b, off, e, hc⟩ := h i hi; exact ⟨b, off, e, hc.below hb⟩
theorem StrsOff.putB {B t : Nat} {w : World} {a : Option Addr} {l : List ByteArray} (h : StrsOff B t w a l) (y : Obj) : Strs B (putB w t y) a l := fun i hi => by
  obtain ⟨b, off, e, hc⟩ := h i hi; exact ⟨b, off, e, hc.putB y⟩
theorem StrsOff.of {B b0 : Nat} {W0 w : World} {a : Option Addr} {l : List ByteArray} (h : Strs B W0 a l) (hb : Off8 W0 b0) (hB : B ≤ b0) (hk : Keep8 B W0 w) : StrsOff B b0 w a l := fun i hi => by
  obtain ⟨b, off, e, hc⟩ := h i hi; exact ⟨b, off, e, hc.keep hk, CellOff.of hc hb hB⟩
section
variable {B t : Nat} {w : World}
theorem tnum_any (key : ByteArray) (pb po : Nat) (n : Int) (hk : key.size < 65536) (hB : B ≤ w.heap.size) (ht : B ≤ t) (htw : t < w.heap.size) (hc : CellOff B t w pb po (.int .u64 n)) (hn : U64i n) : Calls Tryz.prog 109 #[.string key, .pointer (some ⟨pb, po, none⟩)] w (MadeG (fun w v => FIT B t w v ⟨key, false, n == 0, true, numP n⟩) w) := by
  refine (snum_any key pb po w).mono ?_
  rintro e V ⟨v, rfl, ⟨bx, hlo, h0, rfl⟩, hb⟩
  refine ⟨_, rfl, _, rfl, ⟨Nat.le_trans hB hb.size, ht, fun y => ?_⟩, hb⟩
  have C0 : CellAt B (putB V t y) bx 0 (.pointer (some ⟨pb, po, none⟩)) := (cellAt_new (B := B) h0 (by decide) rfl).putB (by omega) y
  have C1 := (hc.below hb).putB y
  exact ⟨rfl, rfl, hk, enters_of Tryz.func183 (by kernel_rfl) rfl, enters_of Tryz.func184 (by kernel_rfl) rfl, enters_of Tryz.func185 (by kernel_rfl) rfl,
    fun w' hw => num1_any B bx pb po n w' (C0.keep hw) (C1.keep hw), fun w' hw => yes_any w', fun _ _ w' b base s hw hb ht hB hW hs => num2_any B b base bx pb po n s w' (C0.keep hw) (C1.keep hw) hn.1 hn.2 ht hB hW hs⟩
theorem tflag_any (key : ByteArray) (pb po : Nat) (q : Bool) (hk : key.size < 65536) (hB : B ≤ w.heap.size) (ht : B ≤ t) (htw : t < w.heap.size) (hc : CellOff B t w pb po (.bool q)) : Calls Tryz.prog 110 #[.string key, .pointer (some ⟨pb, po, none⟩)] w (MadeG (fun w v => FIT B t w v ⟨key, false, !q, true, numP 1⟩) w) := by
  refine (sflag_any key pb po w).mono ?_
  rintro e V ⟨v, rfl, ⟨bx, hlo, h0, rfl⟩, hb⟩
  refine ⟨_, rfl, _, rfl, ⟨Nat.le_trans hB hb.size, ht, fun y => ?_⟩, hb⟩
  have C0 : CellAt B (putB V t y) bx 0 (.pointer (some ⟨pb, po, none⟩)) := (cellAt_new (B := B) h0 (by decide) rfl).putB (by omega) y
  have C1 := (hc.below hb).putB y
  exact ⟨rfl, rfl, hk, enters_of Tryz.func187 (by kernel_rfl) rfl, enters_of Tryz.func184 (by kernel_rfl) rfl, enters_of Tryz.func188 (by kernel_rfl) rfl,
    fun w' hw => flag1_any B bx pb po q w' (C0.keep hw) (C1.keep hw), fun w' hw => yes_any w', fun _ _ w' b base s hw hb ht hB hW hs => flag2_any B b base s w' ht hB hW hs⟩
theorem tdig_any (key : ByteArray) (pb po : Nat) (x : ByteArray) (hk : key.size < 65536) (hB : B ≤ w.heap.size) (ht : B ≤ t) (htw : t < w.heap.size) (hc : CellOff B t w pb po (.string x)) (hx : x.size ≤ 9223372036854775807) : Calls Tryz.prog 111 #[.string key, .pointer (some ⟨pb, po, none⟩)] w (MadeG (fun w v => FIT B t w v ⟨key, true, false, decide (x.size = 32), binP x⟩) w) := by
  refine (sdigest_any key pb po w).mono ?_
  rintro e V ⟨v, rfl, ⟨bx, hlo, h0, rfl⟩, hb⟩
  refine ⟨_, rfl, _, rfl, ⟨Nat.le_trans hB hb.size, ht, fun y => ?_⟩, hb⟩
  have C0 : CellAt B (putB V t y) bx 0 (.pointer (some ⟨pb, po, none⟩)) := (cellAt_new (B := B) h0 (by decide) rfl).putB (by omega) y
  have C1 := (hc.below hb).putB y
  exact ⟨rfl, rfl, hk, enters_of Tryz.func190 (by kernel_rfl) rfl, enters_of Tryz.func191 (by kernel_rfl) rfl, enters_of Tryz.func192 (by kernel_rfl) rfl,
    fun w' hw => digest1_any w', fun w' hw => digest2_any B bx pb po x w' (C0.keep hw) (C1.keep hw) hx, fun hm _ w' b base s hw hb ht hB hW hs => digest3_any B b base bx pb po x s w' (C0.keep hw) (C1.keep hw) (of_decide_eq_true hm) ht hB hW hs⟩
theorem tdigs_any (key : ByteArray) (pb po c most : Nat) (a : Option Addr) (l : List ByteArray) (hk : key.size < 65536) (hB : B ≤ w.heap.size) (ht : B ≤ t) (htw : t < w.heap.size) (hc : CellOff B t w pb po (.slice a (len l) c)) (hl : StrsOff B t w a l) (hn : len l ≤ 100000) (hm : most ≤ 60000) :
    Calls Tryz.prog 145 #[.string key, .pointer (some ⟨pb, po, none⟩), .int .i64 most] w (MadeG (fun w v => FIT B t w v ⟨key, false, decide (len l = 0), mayB l most, dgsP l⟩) w) := by
  refine (sdigests_any key pb po most w).mono ?_
  rintro e V ⟨v, rfl, ⟨bx, hlo, hM, rfl⟩, hb⟩
  refine ⟨_, rfl, _, rfl, ⟨Nat.le_trans hB hb.size, ht, fun y => ?_⟩, hb⟩
  have hM := hM.but (t := t) (w' := putB V t y) (by omega) (fun i hi => putB_ne hi)
  have C0 : CellAt B (putB V t y) bx 0 (.pointer (some ⟨pb, po, none⟩)) := cellAt_new hM.b0 (by decide) rfl
  have C1 : CellAt B (putB V t y) (bx + 1) 0 (.int .i64 most) := cellAt_new hM.b1 (by decide) rfl
  have C2 : CellAt B (putB V t y) (bx + 1 + 1) 0 (.func (.func 211) #[] #[]) := cellAt_new hM.b2 (by decide) rfl
  have C3 : CellAt B (putB V t y) (bx + 1 + 1 + 1) 0 (.func (.func 212) #[] #[]) := cellAt_new hM.b3 (by decide) rfl
  have CP := (hc.below hb).putB y
  have SL := (hl.below hb).putB y
  refine ⟨rfl, rfl, hk, enters_of Tryz.func247 (by kernel_rfl) rfl, enters_of Tryz.func248 (by kernel_rfl) rfl, enters_of Tryz.func251 (by kernel_rfl) rfl, fun w' hw => many1_any B bx pb po (len l) c a w' (C0.keep hw) (CP.keep hw), fun w' hw => many2_any B bx (bx + 1) (bx + 1 + 1) pb po c most a l w' (C0.keep hw) (CP.keep hw) (C1.keep hw) (C2.keep hw) (SL.keep hw) hn, fun hm1 he w' b base s hw hb ht hB hW hs => many3_any B b base bx (bx + 1 + 1 + 1) pb po c a l s (putB V t y) w' C0 CP C3 SL (by have := (size32 hm1).1; omega) (size32 hm1).2 hw hb ht hB hW hs⟩
theorem any_must {W : World} {l : List FVal} {fs : List FSpec} (h : FSems B W l fs) : (l.any fun v => v.must) = (fs.any fun f => f.must) := by
  rw [Bool.eq_iff_iff, List.any_eq_true, anyMust_iff fs (len l) h.1]
  constructor
  · rintro ⟨v, hv, hm⟩
    obtain ⟨i, hi, rfl⟩ := List.getElem_of_mem hv
    have hs := h.2 i hi
    rw [fth_eq l i hi] at hs
    exact ⟨i, hi, by rw [← hs.must]; exact hm⟩
  · rintro ⟨i, hi, hm⟩
    have hi' : i < l.length := hi
    have hs := h.2 i hi
    rw [fth_eq l i hi'] at hs
    exact ⟨l[i], List.getElem_mem _, by rw [hs.must]; exact hm⟩
theorem tobj_any (key : ByteArray) (g c : Nat) (l : List FVal) (fs : List FSpec) (hk : key.size < 65536) (htw : t < w.heap.size) (hgt : g ≠ t) (hF : FRow w g l) (h0 : 0 < len fs) (hn : len fs ≤ 1000) (hS : FITs B t fs w l) :
    Calls Tryz.prog 107 #[.string key, .slice (some ⟨g, 0, none⟩) (len l) c] w (MadeG (fun w v => FIT B t w v (objSpec key fs)) w) := by
  have hln : len fs = len l := hS.sems.1
  refine (sobject_any key g c l w hF (by omega)).mono ?_
  rintro e V ⟨v, rfl, ⟨bx, hlo, hO, rfl⟩, hb⟩
  have hS' := fits_lasts B t fs _ _ _ hb hS
  refine ⟨_, rfl, _, rfl, ⟨hS'.1, hS'.2.1, fun y => ?_⟩, hb⟩
  have hSy := hS'.2.2 y
  have hFy : FRow (putB V t y) g l := by
    obtain ⟨h1, cur, h2⟩ := hF.below hb
    exact ⟨flds_keep h1 (putB_ne hgt), cur, (putB_ne hgt).trans h2⟩
  have C0 : CellAt B (putB V t y) bx 0 (.slice (some ⟨g, 0, none⟩) (len l) c) := (cellAt_new (B := B) hO (by decide) rfl).putB (by omega) y
  refine ⟨rfl, any_must hSy, hk, enters_of Tryz.func178 (by kernel_rfl) rfl, enters_of Tryz.func180 (by kernel_rfl) rfl, enters_of Tryz.func181 (by kernel_rfl) rfl,
    fun w' hw => obj2_any B bx g c _ l fs w' (C0.keep hw) (hFy.keep hw).flds (by omega) hSy hw, fun w' hw => obj3_any B bx g c _ l fs w' (C0.keep hw) (hFy.keep hw).flds (by omega) hSy hw,
    fun hm _ w' b base s hw hb ht hB hW hs => obj4_any B b base bx g c _ l fs s w' (C0.keep hw) (hFy.keep hw).flds (by omega) (by omega) hSy hm hw hb ht hB hW hs⟩
end
end Go.Proofs.YtihiaopilnjonaaGreatDoor
namespace Go.Proofs.YtihiaopilnjonaaGreatDoor
open Go.RowKit
set_option linter.unusedSimpArgs false
set_option linter.unusedVariables false
abbrev CP := Nat → Nat → Value → Prop
def StrsC (C : CP) (a : Option Addr) (l : List ByteArray) : Prop := ∀ i, i < len l → ∃ b off, a = some ⟨b, off, none⟩ ∧ C b (off + i) (.string (sth l i))
theorem StrsC.imp {C D : CP} (h : ∀ b o x, C b o x → D b o x) {a : Option Addr} {l : List ByteArray} (hs : StrsC C a l) : StrsC D a l := fun i hi => by
  obtain ⟨b, off, e, hc⟩ := hs i hi; exact ⟨b, off, e, h _ _ _ hc⟩
structure RevCl (C : CP) (b o : Nat) (d : RevD) : Prop where
  c0 : C b o (.int .u64 d.pos)
  c1 : C b (o + 1) (.int .u64 d.L)
  c2 : C b (o + 2) (.bool d.signed)
  c3 : C b (o + 3) (.int .u64 d.idx)
  c4 : ∃ a c, C b (o + 4) (.slice a (len d.ws) c) ∧ StrsC C a d.ws
  c5 : ∃ a c, C b (o + 5) (.slice a (len d.ps) c) ∧ StrsC C a d.ps
  c6 : C b (o + 6) (.string d.root)
  c7 : C b (o + 7) (.int .u64 d.wt)
  c8 : C b (o + 8) (.int .u64 d.first)
  c9 : C b (o + 9) (.int .u64 d.life)
  c10 : C b (o + 10) (.int .u64 d.keys)
theorem RevCl.imp {C D : CP} (h : ∀ b o x, C b o x → D b o x) {b o : Nat} {d : RevD} (k : RevCl C b o d) : RevCl D b o d := by
  obtain ⟨a4, k4, h4, s4⟩ := k.c4
  obtain ⟨a5, k5, h5, s5⟩ := k.c5
  exact ⟨h _ _ _ k.c0, h _ _ _ k.c1, h _ _ _ k.c2, h _ _ _ k.c3, ⟨a4, k4, h _ _ _ h4, s4.imp h⟩, ⟨a5, k5, h _ _ _ h5, s5.imp h⟩, h _ _ _ k.c6, h _ _ _ k.c7, h _ _ _ k.c8, h _ _ _ k.c9, h _ _ _ k.c10⟩
def RvsC (C : CP) (a : Option Addr) (l : List RevD) : Prop := ∀ i, i < len l → ∃ b off, a = some ⟨b, off, none⟩ ∧ RevCl C b (off + i * 11) (lth l i)
theorem RvsC.imp {C D : CP} (h : ∀ b o x, C b o x → D b o x) {a : Option Addr} {l : List RevD} (k : RvsC C a l) : RvsC D a l := fun i hi => by
  obtain ⟨b, off, e, hc⟩ := k i hi; exact ⟨b, off, e, hc.imp h⟩
def RevV (C : CP) (v : Value) (d : RevD) : Prop := ∃ a4 k4 a5 k5, v = .agg #[.int .u64 d.pos, .int .u64 d.L, .bool d.signed, .int .u64 d.idx, .slice a4 (len d.ws) k4, .slice a5 (len d.ps) k5, .string d.root, .int .u64 d.wt, .int .u64 d.first, .int .u64 d.life, .int .u64 d.keys] ∧ StrsC C a4 d.ws ∧ StrsC C a5 d.ps
structure RvBd (d : RevD) : Prop where
  pos : U64i d.pos
  L : U64i d.L
  idx : U64i d.idx
  wt : U64i d.wt
  first : U64i d.first
  life : U64i d.life
  keys : U64i d.keys
  ws : len d.ws ≤ 100000
  ps : len d.ps ≤ 100000
  root : d.root.size ≤ 9223372036854775807
def NoRow (t : Nat) (w : World) : Prop := ∃ cs T fr, w.heap[t]? = some (.cells cs T fr) ∧ T ≠ 172
theorem NoRow.lt {t : Nat} {w : World} (h : NoRow t w) : t < w.heap.size := by obtain ⟨cs, T, fr, h1, _⟩ := h; exact lt_of_block h1
theorem NoRow.below {t : Nat} {w w' : World} (h : NoRow t w) (hb : Below w.heap.size w w') : NoRow t w' := by
  obtain ⟨cs, T, fr, h1, h2⟩ := h; exact ⟨cs, T, fr, (hb.block _ (lt_of_block h1)).trans h1, h2⟩
theorem NoRow.ne {t g : Nat} {w : World} {l : List FVal} (h : NoRow t w) (hF : FRow w g l) : g ≠ t := fun e => by
  subst e
  obtain ⟨cs, T, fr, h1, h2⟩ := h
  obtain ⟨_, cur, h3⟩ := hF
  rw [h1] at h3; cases h3; exact h2 rfl
section
variable {B t : Nat} {w : World}
set_option maxRecDepth 100000 in
theorem tpart_any (sb so : Nat) (root : ByteArray) (weight first life keys : Int) (hB : B ≤ w.heap.size) (ht : B ≤ t) (hT : NoRow t w) (h0 : CellOff B t w sb so (.string root)) (h1 : CellOff B t w sb (so + 1) (.int .u64 weight)) (h2 : CellOff B t w sb (so + 2) (.int .u64 first)) (h3 : CellOff B t w sb (so + 3) (.int .u64 life)) (h4 : CellOff B t w sb (so + 4) (.int .u64 keys)) (hr : root.size ≤ 9223372036854775807) (hw : U64i weight) (hf : U64i first) (hl : U64i life) (hk : U64i keys) :
    Calls Tryz.prog 62 #[.pointer (some ⟨sb, so, none⟩)] w (RowIs (FITs B t (partSpecs root weight first life keys)) w) := by
  refine (gofPart_any sb so w (fun w v => FIT B t w v (⟨⟨#[102]⟩, false, first == 0, true, numP first⟩)) (fun w v => FIT B t w v (⟨⟨#[107]⟩, false, keys == 0, true, numP keys⟩)) (fun w v => FIT B t w v (⟨⟨#[108]⟩, false, life == 0, true, numP life⟩)) (fun w v => FIT B t w v (⟨⟨#[114]⟩, true, false, decide (root.size = 32), binP root⟩)) (fun w v => FIT B t w v (⟨⟨#[119]⟩, false, weight == 0, true, numP weight⟩))  (fun w' hb => ?p0) (fit_lasts B t _) (fun w' hb => ?p1) (fit_lasts B t _) (fun w' hb => ?p2) (fit_lasts B t _) (fun w' hb => ?p3) (fit_lasts B t _) (fun w' hb => ?p4) (fit_lasts B t _)).mono ?_
  case p0 => exact tnum_any ⟨#[102]⟩ sb (so + 2) first (by decide) (Nat.le_trans hB hb.size) ht (hT.below hb).lt (h2.below hb) hf
  case p1 => exact tnum_any ⟨#[107]⟩ sb (so + 4) keys (by decide) (Nat.le_trans hB hb.size) ht (hT.below hb).lt (h4.below hb) hk
  case p2 => exact tnum_any ⟨#[108]⟩ sb (so + 3) life (by decide) (Nat.le_trans hB hb.size) ht (hT.below hb).lt (h3.below hb) hl
  case p3 => exact tdig_any ⟨#[114]⟩ sb (so) root (by decide) (Nat.le_trans hB hb.size) ht (hT.below hb).lt (h0.below hb) hr
  case p4 => exact tnum_any ⟨#[119]⟩ sb (so + 1) weight (by decide) (Nat.le_trans hB hb.size) ht (hT.below hb).lt (h1.below hb) hw
  rintro e w' ⟨u, he, hR, hb⟩
  exact ⟨u, he, hR.imp (fun l ⟨x0, x1, x2, x3, x4, hl, p0, p1, p2, p3, p4⟩ => by subst hl; exact fits5 p0 p1 p2 p3 p4), hb⟩
set_option maxRecDepth 100000 in
theorem tsig_any (sb so : Nat) (idx : Int) (wots path : List ByteArray) (hB : B ≤ w.heap.size) (ht : B ≤ t) (hT : NoRow t w) (h0 : CellOff B t w sb so (.int .u64 idx)) (h1 : ∃ a c, CellOff B t w sb (so + 1) (.slice a (len wots) c) ∧ StrsC (CellOff B t w) a wots) (h2 : ∃ a c, CellOff B t w sb (so + 2) (.slice a (len path) c) ∧ StrsC (CellOff B t w) a path) (hi : U64i idx) (hw : len wots ≤ 100000) (hp : len path ≤ 100000) :
    Calls Tryz.prog 108 #[.pointer (some ⟨sb, so, none⟩)] w (RowIs (FITs B t (sigSpecs idx wots path)) w) := by
  obtain ⟨a1, k1, q1, s1⟩ := h1
  obtain ⟨a2, k2, q2, s2⟩ := h2
  refine (gofSig_any sb so w (fun w v => FIT B t w v (⟨⟨#[105]⟩, false, idx == 0, true, numP idx⟩)) (fun w v => FIT B t w v (⟨⟨#[112]⟩, false, decide (len path = 0), mayB path 16, dgsP path⟩)) (fun w v => FIT B t w v (⟨⟨#[118]⟩, false, decide (len wots = 0), mayB wots 67, dgsP wots⟩))  (fun w' hb => ?p0) (fit_lasts B t _) (fun w' hb => ?p1) (fit_lasts B t _) (fun w' hb => ?p2) (fit_lasts B t _)).mono ?_
  case p0 => exact tnum_any ⟨#[105]⟩ sb (so) idx (by decide) (Nat.le_trans hB hb.size) ht (hT.below hb).lt (h0.below hb) hi
  case p1 => exact tdigs_any ⟨#[112]⟩ sb (so + 2) k2 16 a2 path (by decide) (Nat.le_trans hB hb.size) ht (hT.below hb).lt (q2.below hb) (StrsOff.below s2 hb) hp (by decide)
  case p2 => exact tdigs_any ⟨#[118]⟩ sb (so + 1) k1 67 a1 wots (by decide) (Nat.le_trans hB hb.size) ht (hT.below hb).lt (q1.below hb) (StrsOff.below s1 hb) hw (by decide)
  rintro e w' ⟨u, he, hR, hb⟩
  exact ⟨u, he, hR.imp (fun l ⟨x0, x1, x2, hl, p0, p1, p2⟩ => by subst hl; exact fits3 p0 p1 p2), hb⟩
set_option maxRecDepth 100000 in
theorem tslot_any (sb so : Nat) (L : Int) (q : Bool) (idx : Int) (wots path : List ByteArray) (hB : B ≤ w.heap.size) (ht : B ≤ t) (hT : NoRow t w) (g0 : CellOff B t w sb so (.int .u64 L)) (g1 : CellOff B t w sb (so + 1) (.bool q)) (h0 : CellOff B t w sb (so + 2) (.int .u64 idx)) (h1 : ∃ a c, CellOff B t w sb (so + 3) (.slice a (len wots) c) ∧ StrsC (CellOff B t w) a wots) (h2 : ∃ a c, CellOff B t w sb (so + 4) (.slice a (len path) c) ∧ StrsC (CellOff B t w) a path) (hL : U64i L) (hi : U64i idx) (hw : len wots ≤ 100000) (hp : len path ≤ 100000) :
    Calls Tryz.prog 61 #[.pointer (some ⟨sb, so, none⟩)] w (RowIs (FITs B t (slotSpecs L q idx wots path)) w) := by
  obtain ⟨a1, k1, q1, s1⟩ := h1
  obtain ⟨a2, k2, q2, s2⟩ := h2
  refine (gofSlot_any sb so w (fun w v => FIT B t w v (objSpec ⟨#[103]⟩ (sigSpecs idx wots path))) (fun w v => FIT B t w v (⟨⟨#[108]⟩, false, L == 0, true, numP L⟩)) (fun w v => FIT B t w v (⟨⟨#[115]⟩, false, !q, true, numP 1⟩)) (FITs B t (sigSpecs idx wots path)) (fits_lasts B t (sigSpecs idx wots path)) (fun w' hb => ?r0) (fun w' g c l hb hF hc hR => ?p0) (fit_lasts B t (objSpec ⟨#[103]⟩ (sigSpecs idx wots path))) (fun w' hb => ?p1) (fit_lasts B t _) (fun w' hb => ?p2) (fit_lasts B t _)).mono ?_
  case r0 => exact tsig_any sb (so + 2) idx wots path (Nat.le_trans hB hb.size) ht (hT.below hb) (h0.below hb) ⟨a1, k1, q1.below hb, StrsOff.below s1 hb⟩ ⟨a2, k2, q2.below hb, StrsOff.below s2 hb⟩ hi hw hp
  case p0 => exact tobj_any ⟨#[103]⟩ g c l (sigSpecs idx wots path) (by decide) (hT.below hb).lt ((hT.below hb).ne hF) hF (by show 0 < 3; decide) (by show 3 ≤ 1000; decide) hR
  case p1 => exact tnum_any ⟨#[108]⟩ sb (so) L (by decide) (Nat.le_trans hB hb.size) ht (hT.below hb).lt (g0.below hb) hL
  case p2 => exact tflag_any ⟨#[115]⟩ sb (so + 1) q (by decide) (Nat.le_trans hB hb.size) ht (hT.below hb).lt (g1.below hb)
  rintro e w' ⟨u, he, hR, hb⟩
  exact ⟨u, he, hR.imp (fun l ⟨x0, x1, x2, hl, p0, p1, p2⟩ => by subst hl; exact fits3 p0 p1 p2), hb⟩
set_option maxRecDepth 100000 in
theorem trev_any (sb so : Nat) (d : RevD) (hB : B ≤ w.heap.size) (ht : B ≤ t) (hT : NoRow t w) (h : RevCl (CellOff B t w) sb so d) (bd : RvBd d) :
    Calls Tryz.prog 155 #[.pointer (some ⟨sb, so, none⟩)] w (RowIs (FITs B t (revSpecs d)) w) := by
  obtain ⟨a1, k1, q1, s1⟩ := h.c4
  obtain ⟨a2, k2, q2, s2⟩ := h.c5
  refine (gofReveal_any sb so w (fun w v => FIT B t w v (⟨⟨#[112]⟩, false, d.pos == 0, true, numP d.pos⟩)) (fun w v => FIT B t w v (objSpec ⟨#[113]⟩ (partSpecs d.root d.wt d.first d.life d.keys))) (fun w v => FIT B t w v (objSpec ⟨#[115]⟩ (slotSpecs d.L d.signed d.idx d.ws d.ps))) (FITs B t (partSpecs d.root d.wt d.first d.life d.keys)) (FITs B t (slotSpecs d.L d.signed d.idx d.ws d.ps)) (fun w' hb => ?p0) (fit_lasts B t _) (fits_lasts B t (partSpecs d.root d.wt d.first d.life d.keys)) (fun w' hb => ?r1) (fun w' g c l hb hF hc hR => ?p1) (fit_lasts B t (objSpec ⟨#[113]⟩ (partSpecs d.root d.wt d.first d.life d.keys))) (fits_lasts B t (slotSpecs d.L d.signed d.idx d.ws d.ps)) (fun w' hb => ?r2) (fun w' g c l hb hF hc hR => ?p2) (fit_lasts B t (objSpec ⟨#[115]⟩ (slotSpecs d.L d.signed d.idx d.ws d.ps)))).mono ?_
  case p0 => exact tnum_any ⟨#[112]⟩ sb (so) d.pos (by decide) (Nat.le_trans hB hb.size) ht (hT.below hb).lt (h.c0.below hb) bd.pos
  case r1 => exact tpart_any sb (so + 6) d.root d.wt d.first d.life d.keys (Nat.le_trans hB hb.size) ht (hT.below hb) (h.c6.below hb) (h.c7.below hb) (h.c8.below hb) (h.c9.below hb) (h.c10.below hb) bd.root bd.wt bd.first bd.life bd.keys
  case p1 => exact tobj_any ⟨#[113]⟩ g c l (partSpecs d.root d.wt d.first d.life d.keys) (by decide) (hT.below hb).lt ((hT.below hb).ne hF) hF (by show 0 < 5; decide) (by show 5 ≤ 1000; decide) hR
  case r2 => exact tslot_any sb (so + 1) d.L d.signed d.idx d.ws d.ps (Nat.le_trans hB hb.size) ht (hT.below hb) (h.c1.below hb) (h.c2.below hb) (h.c3.below hb) ⟨a1, k1, q1.below hb, StrsOff.below s1 hb⟩ ⟨a2, k2, q2.below hb, StrsOff.below s2 hb⟩ bd.L bd.idx bd.ws bd.ps
  case p2 => exact tobj_any ⟨#[115]⟩ g c l (slotSpecs d.L d.signed d.idx d.ws d.ps) (by decide) (hT.below hb).lt ((hT.below hb).ne hF) hF (by show 0 < 3; decide) (by show 3 ≤ 1000; decide) hR
  rintro e w' ⟨u, he, hR, hb⟩
  exact ⟨u, he, hR.imp (fun l ⟨x0, x1, x2, hl, p0, p1, p2⟩ => by subst hl; exact fits3 p0 p1 p2), hb⟩
set_option maxRecDepth 100000 in
theorem oc4_any (pb po : Nat) (d : RevD) (hB : B ≤ w.heap.size) (ht : B ≤ t) (hT : NoRow t w) (h : RevCl (CellOff B t w) pb po d) (bd : RvBd d) :
    Calls Tryz.prog 154 #[.pointer (some ⟨pb, po, none⟩)] w fun e w' => e = .returned (.bool (allMay (revSpecs d))) ∧ Below w.heap.size w w' := by
  have H := Lib.hid (trev_any pb po d hB ht hT h bd)
  have HL3 : Hid (len (revSpecs d) = 3) := Lib.hid rfl
  clear h
  generalize revSpecs d = fs at H HL3 ⊢
  go_enter Tryz.func154, Tryz.ntmps154
  go_wp2_with fail
  refine H.out.mono ?_
  rintro e w1 ⟨u, rfl, ⟨g, c, l, rfl, hc, hF, hS⟩, hb⟩
  have HF := Lib.hid hF
  have HS := Lib.hid hS
  have HB := Lib.hid hb
  have HLN : Hid (len l = 3) := Lib.hid (hS.sems.1.symm.trans HL3.out)
  clear hF hS hb H
  go_wp2_with fail
  refine (all_any B w1 (some ⟨g, 0, none⟩) c l fs w1 HF.out.flds (by have := HLN.out; omega) HS.out.sems (Keep8.refl HS.out.1)).mono ?_
  rintro e w2 ⟨rfl, hb⟩
  have HB2 := Lib.hid (bnext HB.out hb)
  clear hb
  go_wp2
  go_ret
  exact ⟨rfl, HB2.out⟩
end
theorem off_blank {B b base : Nat} {w : World} (hB : B ≤ base) (hb : base ≤ b) (hs : B ≤ w.heap.size) : Keep8 B (putB w b (.cells #[] 5 (0, 0))) w ∧ Off8 (putB w b (.cells #[] 5 (0, 0))) b := by
  refine ⟨⟨by rw [putB_size]; exact hs, by rw [putB_size]; exact Nat.le_refl _, fun k hk => (putB_ne (by omega)).symm, fun k x hx hn => ?_⟩, fun x hx hn => ?_⟩
  · have e : k ≠ b := fun e => by
      subst e
      exact hn _ _ (putB_at hx)
    rw [putB_ne e] at hx; exact hx
  · exact hn _ _ (putB_at hx)
set_option maxRecDepth 100000 in
set_option maxHeartbeats 4000000 in
theorem oc5_any (B b base pb po : Nat) (d : RevD) (s : ByteArray) (w : World) (hBw : B ≤ w.heap.size) (h : RevCl (CellOff B b w) pb po d) (bd : RvBd d) (hm : allMay (revSpecs d) = true) (ht : PTab B w) (hB : B ≤ base) (hW : WrB w b base s) (hs : s.size + (revB d).size ≤ 60000000000000) :
    Calls Tryz.prog 156 #[.pointer (some ⟨b, 0, none⟩), .pointer (some ⟨pb, po, none⟩)] w fun e w' => e = .returned (.tuple #[]) ∧ WrB w' b base (s ++ revB d) ∧ WK base b w w' := by
  have hbb : base ≤ b := hW.1
  have hNR : NoRow b w := by obtain ⟨_, v, h1, _⟩ := hW; exact ⟨_, _, _, h1, by decide⟩
  have hbw : base ≤ w.heap.size := by have := hW.lt; omega
  have H := Lib.hid (trev_any pb po d hBw (Nat.le_trans hB hbb) hNR h bd)
  have HT := Lib.hid ht
  have HW := Lib.hid hW
  clear h ht hW hNR
  unfold revB at hs ⊢
  have HL3 : Hid (len (revSpecs d) = 3) := Lib.hid rfl
  generalize revSpecs d = fs at H HL3 hm hs ⊢
  have HM := Lib.hid hm
  have HSZ := Lib.hid hs
  clear hm hs
  go_enter Tryz.func156, Tryz.ntmps156
  go_wp2_with fail
  refine H.out.mono ?_
  rintro e w1 ⟨u, rfl, ⟨g, c, l, rfl, hc, hF, hS⟩, hb⟩
  have HF := Lib.hid hF
  have HS := Lib.hid hS
  have HB := Lib.hid hb
  have HT1 := Lib.hid (HT.out.keep hb HT.out.size)
  have HW1 := Lib.hid (HW.out.below hb)
  have HLN : Hid (len l = 3) := Lib.hid (hS.sems.1.symm.trans HL3.out)
  have hof := off_blank (w := w1) hB hbb hS.1
  have HOF := Lib.hid hof
  clear hF hS hb H hof
  go_wp2_with fail
  refine (lay_any B b base g 0 c (putB w1 b (.cells #[] 5 (0, 0))) l fs s w1 HF.out.flds (by have := HLN.out; omega) (by have := HLN.out; omega) (HS.out.2.2 _) HM.out HOF.out.1 HOF.out.2 HT1.out hB HW1.out HSZ.out).mono ?_
  rintro e w2 ⟨rfl, h3, h4⟩
  have H3 := Lib.hid h3
  have H4 : Hid (WK base b w w2) := Lib.hid ((WK.of_below HB.out hbw).trans h4)
  clear h3 h4
  go_wp2
  go_end0
  exact ⟨rfl, H3.out, H4.out⟩
structure CLasts (C : World → CP) : Prop where
  below : ∀ w w' b o x, Below w.heap.size w w' → C w b o x → C w' b o x
  cell : ∀ w b o x, C w b o x → w.cell? ⟨b, o, none⟩ = some x
theorem cellOff_lasts (B t : Nat) : CLasts (CellOff B t) := ⟨fun w w' b o x hb h => h.below hb, fun w b o x h => h.1.cell⟩
def SaysR (C : World → CP) (w : World) (l : List RevD) (g : Nat) (lb : Array Value) (p : Nat → Bool) : Prop :=
  (∀ args w', (callFunc g args).run Tryz.prog w' = .ok (.enter g args) w') ∧ ∀ i, i < len l → ∀ w' v, Below w.heap.size w w' → RevV (C w') v (lth l i) → Calls Tryz.prog g (#[v] ++ lb) w' fun e w'' => e = .returned (.bool (p i)) ∧ Below w'.heap.size w' w''
set_option maxRecDepth 100000 in
set_option maxHeartbeats 4000000 in
theorem idxr_any (C : World → CP) (hC : CLasts C) (a : Option Addr) (c : Nat) (l : List RevD) (g : Nat) (lb : Array Value) (p : Nat → Bool) (w : World) (hl : RvsC (C w) a l) (hn : len l ≤ 100000) (hp : SaysR C w l g lb p) :
    Calls Tryz.prog 197 #[.slice a (len l) c, .func (.func g) #[] lb] w (IdxOut (len l) p w) := by
  have HL := Lib.hid hl
  have HP := Lib.hid hp.2
  have eg := hp.1
  clear hl hp
  go_enter Tryz.func197, Tryz.ntmps197
  go_wp2
  go_loopg [8] (len l) (fun g i wr => ∃ m : Nat, g + m = len l ∧ i = .int .i64 m ∧ Hid (∀ i, i < m → p i = false) ∧ Hid (Below w.heap.size w wr))
  case atStart => exact ⟨0, rfl, rfl, fun i hi => by omega, Below.refl _ _⟩
  case round =>
    obtain ⟨m, hm, rfl, HN, HB⟩ := hrel
    by_cases hlt : m < len l
    · obtain ⟨b, off, rfl, hc⟩ := (HL.out.imp fun _ _ _ h => hC.below _ _ _ _ _ HB.out h) m hlt
      have i1 : (m : Int) < len l := by omega
      have hcall := HP.out m hlt wr
      obtain ⟨d, hd⟩ : ∃ d, lth l m = d := ⟨_, rfl⟩
      rw [hd] at hc hcall
      clear hd
      obtain ⟨a4, k4, h4, s4⟩ := hc.c4
      obtain ⟨a5, k5, h5, s5⟩ := hc.c5
      have HC := Lib.hid (hcall _ HB.out ⟨a4, k4, a5, k5, rfl, s4, s5⟩)
      have c0 := hC.cell _ _ _ _ hc.c0
      have c1 := hC.cell _ _ _ _ hc.c1
      have c2 := hC.cell _ _ _ _ hc.c2
      have c3 := hC.cell _ _ _ _ hc.c3
      have c4 := hC.cell _ _ _ _ h4
      have c5 := hC.cell _ _ _ _ h5
      have c6 := hC.cell _ _ _ _ hc.c6
      have c7 := hC.cell _ _ _ _ hc.c7
      have c8 := hC.cell _ _ _ _ hc.c8
      have c9 := hC.cell _ _ _ _ hc.c9
      have c10 := hC.cell _ _ _ _ hc.c10
      clear hc hcall h4 h5 s4 s5
      go_wp2_with fail
      refine HC.out.mono ?_
      rintro e w1 ⟨rfl, hb⟩
      have HB1 : Hid (Below w.heap.size w w1) := Lib.hid (bnext HB.out hb)
      clear hb c0 c1 c2 c3 c4 c5 c6 c7 c8 c9 c10
      cases hpm : p m with
      | true =>
        go_wp2
        go_ret
        exact ⟨m, rfl, .inr ⟨m, hlt, rfl, hpm, HN.out⟩, HB1.out⟩
      | false =>
        have HN2 : Hid (∀ i, i < m + 1 → p i = false) := Lib.hid (fun i hi => by
          by_cases e : i = m
          · subst e; exact hpm
          · exact HN.out i (by omega))
        clear hpm
        go_wp2
        go_roundg (len l - (m + 1))
        case rel => exact ⟨m + 1, by omega, by go_num, HN2.out, HB1.out⟩
        case measure => omega
    · obtain rfl : m = len l := by omega
      have i1 : ¬ ((len l : Nat) : Int) < len l := by omega
      go_wp2
      go_ret
      exact ⟨-1, rfl, .inl ⟨rfl, HN.out⟩, HB.out⟩
theorem containsr_any (C : World → CP) (hC : CLasts C) (a : Option Addr) (c : Nat) (l : List RevD) (g : Nat) (lb : Array Value) (p : Nat → Bool) (w : World) (hl : RvsC (C w) a l) (hn : len l ≤ 100000) (hp : SaysR C w l g lb p) :
    Calls Tryz.prog 119 #[.slice a (len l) c, .func (.func g) #[] lb] w fun e w' => ∃ b, e = .returned (.bool b) ∧ (b = true ↔ ∃ i, i < len l ∧ p i = true) ∧ Below w.heap.size w w' := by
  have H := Lib.hid (idxr_any C hC a c l g lb p w hl hn hp)
  clear hl hp
  go_enter Tryz.func119, Tryz.ntmps119
  go_wp2_with fail
  refine H.out.mono ?_
  rintro e w1 ⟨r, rfl, hr, hb⟩
  have HB := Lib.hid hb
  clear hb
  rcases hr with ⟨rfl, hall⟩ | ⟨k, hk, rfl, hpk, -⟩
  · have HA := Lib.hid hall
    clear hall
    go_wp2
    go_ret
    exact ⟨false, rfl, ⟨fun h => (by cases h), fun ⟨i, hi, h⟩ => by rw [HA.out i hi] at h; cases h⟩, HB.out⟩
  · have HK := Lib.hid hpk
    clear hpk
    go_wp2
    go_ret
    exact ⟨true, rfl, ⟨fun _ => ⟨k, hk, HK.out⟩, fun _ => rfl⟩, HB.out⟩
set_option maxRecDepth 100000 in
theorem many21r_any (B b9 : Nat) (v : Value) (d : RevD) (w : World) (hBw : B ≤ w.heap.size) (hb9 : B ≤ b9) (hT : NoRow b9 w) (h1 : CellAt B w b9 0 (.func (.func 154) #[] #[])) (hv : RevV (CellOff B b9 w) v d) (bd : RvBd d) : Calls Tryz.prog 229 #[v, .pointer (some ⟨b9, 0, none⟩)] w fun e w' => e = .returned (.bool (!allMay (revSpecs d))) ∧ Below w.heap.size w w' := by
  have c1 := h1.cell
  have l1 := h1.lt
  have eg := enters_of Tryz.func154 (by kernel_rfl) rfl
  obtain ⟨a4, k4, a5, k5, rfl, s4, s5⟩ := hv
  have S4 := Lib.hid s4
  have S5 := Lib.hid s5
  have HOC := Lib.hid (fun (V : World) (pb : Nat) (h1 : Below w.heap.size w V) (h : RevCl (CellOff B b9 V) pb 0 d) => oc4_any (B := B) (t := b9) (w := V) pb 0 d (Nat.le_trans hBw h1.size) hb9 (hT.below h1) h bd)
  generalize revSpecs d = fs at HOC ⊢
  clear h1 s4 s5
  go_enter Tryz.func229, Tryz.ntmps229
  go_wp2_with fail
  obtain ⟨V, hV⟩ : ∃ V, w.alloc (.cells #[.int .u64 d.pos, .int .u64 d.L, .bool d.signed, .int .u64 d.idx, .slice a4 (len d.ws) k4, .slice a5 (len d.ps) k5, .string d.root, .int .u64 d.wt, .int .u64 d.first, .int .u64 d.life, .int .u64 d.keys] 48) = V := ⟨_, rfl⟩
  have hB1 : Below w.heap.size w V := by rw [← hV]; exact balloc (Below.refl _ _) _
  have hN : V.heap[w.heap.size]? = some (.cells #[.int .u64 d.pos, .int .u64 d.L, .bool d.signed, .int .u64 d.idx, .slice a4 (len d.ws) k4, .slice a5 (len d.ps) k5, .string d.root, .int .u64 d.wt, .int .u64 d.first, .int .u64 d.life, .int .u64 d.keys] 48 (0, 0)) := by rw [← hV]; exact heap_alloc_new _ _
  try rw [hV]
  clear hV
  have hne : w.heap.size ≠ b9 := by omega
  have C := fun (o : Nat) (x : Value) (hx : (#[.int .u64 d.pos, .int .u64 d.L, .bool d.signed, .int .u64 d.idx, .slice a4 (len d.ws) k4, .slice a5 (len d.ps) k5, .string d.root, .int .u64 d.wt, .int .u64 d.first, .int .u64 d.life, .int .u64 d.keys] : Array Value)[o]? = some x) => (⟨cellAt_new hN (by decide) hx, hne⟩ : CellOff B b9 V w.heap.size o x)
  refine (HOC.out V w.heap.size hB1 ⟨C 0 _ rfl, C 1 _ rfl, C 2 _ rfl, C 3 _ rfl, ⟨a4, k4, C 4 _ rfl, S4.out.imp fun _ _ _ h => h.below hB1⟩, ⟨a5, k5, C 5 _ rfl, S5.out.imp fun _ _ _ h => h.below hB1⟩, C 6 _ rfl, C 7 _ rfl, C 8 _ rfl, C 9 _ rfl, C 10 _ rfl⟩).mono ?_
  rintro e w1 ⟨rfl, hb⟩
  have HB : Hid (Below w.heap.size w w1) := Lib.hid (bnext hB1 hb)
  clear hb C hN hB1 S4 S5
  go_wp2
  go_ret
  exact ⟨rfl, HB.out⟩
theorem mayR_no (l : List RevD) : ((l.all fun r => allMay (revSpecs r)) = false ↔ ∃ i, i < len l ∧ (!allMay (revSpecs (lth l i))) = true) := by
  rw [List.all_eq_false]
  constructor
  · rintro ⟨x, hx, hm⟩
    obtain ⟨i, hi, rfl⟩ := List.getElem_of_mem hx
    exact ⟨i, hi, by rw [lth_eq l i hi]; simpa using hm⟩
  · rintro ⟨i, hi, hm⟩
    have hi' : i < l.length := hi
    exact ⟨l[i], List.getElem_mem _, by rw [lth_eq l i hi'] at hm; simpa using hm⟩
theorem mayR_at {l : List RevD} {most : Nat} (h : mayR l most = true) : len l ≤ most ∧ ∀ i, i < len l → allMay (revSpecs (lth l i)) = true := by
  obtain ⟨h1, h2⟩ := (mayR_iff l most).1 h
  exact ⟨h1, fun i hi => by rw [lth_eq l i hi]; exact h2 _ (List.getElem_mem _)⟩
set_option maxRecDepth 100000 in
set_option maxHeartbeats 4000000 in
theorem many2r_any (B b7 b8 b9 pb po c most : Nat) (a : Option Addr) (l : List RevD) (w : World) (h1 : CellAt B w b7 0 (.pointer (some ⟨pb, po, none⟩))) (h2 : CellAt B w pb po (.slice a (len l) c)) (h3 : CellAt B w b8 0 (.int .i64 most)) (h4 : CellAt B w b9 0 (.func (.func 154) #[] #[]))
    (hBw : B ≤ w.heap.size) (hb9 : B ≤ b9) (hT : NoRow b9 w) (hl : RvsC (CellOff B b9 w) a l) (hbd : ∀ i, i < len l → RvBd (lth l i)) (hn : len l ≤ 100000) : Calls Tryz.prog 228 #[.pointer (some ⟨b7, 0, none⟩), .pointer (some ⟨b8, 0, none⟩), .pointer (some ⟨b9, 0, none⟩)] w fun e w' => e = .returned (.bool (mayR l most)) ∧ Below w.heap.size w w' := by
  have c1 := h1.cell
  have c2 := h2.cell
  have c3 := h3.cell
  have H4 := Lib.hid h4
  have HT := Lib.hid hT
  have HL := Lib.hid hl
  have eg := enters_of Tryz.func229 (by kernel_rfl) rfl
  clear h1 h2 h3 h4 hl hT
  have HCF : Hid (∀ w', Below w.heap.size w w' → Calls Tryz.prog 119 #[.slice a (len l) c, .func (.func 229) #[] #[.pointer (some ⟨b9, 0, none⟩)]] w' fun e w'' => ∃ b, e = .returned (.bool b) ∧ (b = true ↔ ∃ i, i < len l ∧ (!allMay (revSpecs (lth l i))) = true) ∧ Below w'.heap.size w' w'') :=
    Lib.hid (fun w' hb => containsr_any (CellOff B b9) (cellOff_lasts B b9) a c l _ _ (fun i => !allMay (revSpecs (lth l i))) w' (HL.out.imp fun _ _ _ h => h.below hb) hn ⟨eg, fun i hi w'' v hb2 hv => many21r_any B b9 v (lth l i) w'' (Nat.le_trans hBw (bnext hb hb2).size) hb9 (HT.out.below (bnext hb hb2)) ((H4.out.below hb).below hb2) hv (hbd i hi)⟩)
  by_cases hm : len l ≤ most
  · have i1 : decide (len l ≤ most) = true := decide_eq_true hm
    have i2 : (len l : Int) ≤ most := by omega
    have HM := Lib.hid i1
    clear i1 hm
    go_enter Tryz.func228, Tryz.ntmps228
    go_wp2_with fail
    go_still_tail 11, (by kernel_rfl)
    go_wp2_with fail
    refine (HCF.out _ (bdrew (Below.refl _ _))).mono ?_
    rintro e w1 ⟨q, rfl, hq, hb⟩
    have HB : Hid (Below w.heap.size w w1) := Lib.hid (bnext (bdrew (Below.refl _ _)) hb)
    have HE : Hid ((!q) = mayR l most) := Lib.hid (by
      unfold mayR
      rw [HM.out, Bool.true_and]
      have h := mayR_no l
      cases q with
      | true => rw [h.2 (hq.1 rfl)]; rfl
      | false =>
        cases hm : (l.all fun r => allMay (revSpecs r)) with
        | true => rfl
        | false => exact absurd (hq.2 (h.1 hm)) (by decide))
    clear hb hq c1 c2 c3
    go_wp2
    go_ret
    exact ⟨ret_bool HE.out, HB.out⟩
  · have i1 : decide (len l ≤ most) = false := decide_eq_false hm
    have HM := Lib.hid i1
    have i2 : ¬ (len l : Int) ≤ most := by omega
    go_enter Tryz.func228, Tryz.ntmps228
    go_wp2_with fail
    go_quiet (fail)
    go_wp2
    go_ret
    exact ⟨ret_bool (by unfold mayR; rw [HM.out]; rfl), by (repeat (first | exact Below.refl _ _ | assumption | (refine bdrew ?_) | (refine bdrewN ?_ _) | (refine balloc ?_ _) | (refine bset ?_ (by first | omega | (simp; done) | (simp; omega)) _) | (refine bnext ?_ (by assumption))))⟩
def rvsP (l : List RevD) : ByteArray := listP (len l) ++ catB (l.map revB)
set_option maxRecDepth 100000 in
set_option maxHeartbeats 4000000 in
theorem many3r_any (B b base b7 b10 pb po c : Nat) (a : Option Addr) (l : List RevD) (s : ByteArray) (W0 w : World) (h1 : CellAt B W0 b7 0 (.pointer (some ⟨pb, po, none⟩))) (h2 : CellAt B W0 pb po (.slice a (len l) c)) (h3 : CellAt B W0 b10 0 (.func (.func 156) #[] #[]))
    (hl : RvsC (CellAt B W0) a l) (hbd : ∀ i, i < len l → RvBd (lth l i)) (hn : len l ≤ 60000) (h32 : ∀ i, i < len l → allMay (revSpecs (lth l i)) = true) (hk : Keep8 B W0 w) (hb0 : Off8 W0 b)
    (ht : PTab B w) (hB : B ≤ base) (hW : WrB w b base s) (hs : s.size + (rvsP l).size ≤ 60000000000000) :
    Calls Tryz.prog 230 #[.pointer (some ⟨b, 0, none⟩), .pointer (some ⟨b7, 0, none⟩), .pointer (some ⟨b10, 0, none⟩)] w fun e w' => e = .returned (.tuple #[]) ∧ WrB w' b base (s ++ rvsP l) ∧ WK base b w w' := by
  have H1 := Lib.hid h1
  have H2 := Lib.hid h2
  have H3 := Lib.hid h3
  have HL := Lib.hid hl
  have H32 := Lib.hid h32
  have HK := Lib.hid hk
  have HT := Lib.hid ht
  have HWR := Lib.hid hW
  have HBS : Hid (base ≤ w.heap.size) := Lib.hid (by have := hW.1; have := hW.lt; omega)
  have HS : Hid (s.size + (listP (len l)).size + (catB (l.map revB)).size ≤ 60000000000000) := Lib.hid (by unfold rvsP at hs; rw [ByteArray.size_append] at hs; omega)
  have hs0 : s.size ≤ 60000000000000 := by omega
  have c1 := (h1.keep hk).cell
  have c2 := (h2.keep hk).cell
  have eg := enters_of Tryz.func156 (by kernel_rfl) rfl
  clear h1 h2 h3 hl h32 hk ht hW hs
  go_enter Tryz.func230, Tryz.ntmps230
  go_wp2_with fail
  refine (List_w B b base (len l) s w HT.out hB HWR.out (by omega) (by omega)).mono ?_
  rintro e w3 ⟨rfl, hw3, hk3⟩
  have HW3 : Hid (WrB w3 b base (s ++ listP (len l) ++ catB ((l.map revB).take 0))) := Lib.hid (by
    have e : s ++ listP (len l) ++ catB ((l.map revB).take 0) = s ++ listP (len l) := ba_ext (by simp [catB])
    rw [e]; exact hw3)
  have HK3 : Hid (WK base b w w3) := Lib.hid hk3
  have hk8 := HK.out.wk hk3 hb0 hB
  have d1 := (H1.out.keep hk8).cell
  have d2 := (H2.out.keep hk8).cell
  clear hw3 hk3 hk8 c1 c2
  go_wp2
  clear d1 d2
  go_loopg [15] (len l) (fun gg i wr => ∃ m : Nat, gg + m = len l ∧ i = .int .i64 m ∧ Hid (WrB wr b base (s ++ listP (len l) ++ catB ((l.map revB).take m))) ∧ Hid (WK base b w wr))
  case atStart => exact ⟨0, rfl, rfl, HW3.out, HK3.out⟩
  case round =>
    clear HW3 HK3
    obtain ⟨m, hm2, rfl, HWW, HWK⟩ := hrel
    by_cases hlt : m < len l
    · have i1 : (m : Int) < len l := by omega
      have hml : m < l.length := hlt
      have hk8 := HK.out.wk HWK.out hb0 hB
      have HK8 := Lib.hid hk8
      have d1 := (H1.out.keep hk8).cell
      have d2 := (H2.out.keep hk8).cell
      have d3 := (H3.out.keep hk8).cell
      have hBD := hbd m hlt
      have hbb : base ≤ b := HWR.out.1
      obtain ⟨gb, go, rfl, hcell⟩ := (HL.out.imp (D := CellOff B b wr) fun _ _ _ h => ⟨h.keep hk8, CellOff.of h hb0 (Nat.le_trans hB hbb)⟩) m hlt
      have HCL := Lib.hid hcell
      have hsn : (l.map revB).take (m + 1) = (l.map revB).take m ++ [revB (lth l m)] := by
        rw [List.take_succ_eq_append_getElem (by simpa using hml), List.getElem_map, lth_eq l m hml]
      have hct := catB_take (L := l.map revB) (t := m) (by simpa using hml)
      have hfm : (l.map revB)[m]'(by simpa using hml) = revB (lth l m) := by rw [List.getElem_map, lth_eq l m hml]
      rw [hfm] at hct
      have h32m := H32.out m hlt
      obtain ⟨x, hx⟩ : ∃ x, lth l m = x := ⟨_, rfl⟩
      rw [hx] at hsn hct h32m HCL hBD
      obtain ⟨s1, hs1⟩ : ∃ s1, s ++ listP (len l) ++ catB ((l.map revB).take m) = s1 := ⟨_, rfl⟩
      rw [hs1] at HWW
      have hs1s : s1.size + (revB x).size ≤ 60000000000000 := by
        rw [← hs1, ByteArray.size_append, ByteArray.size_append]
        have := HS.out
        omega
      have HSN : Hid (s ++ listP (len l) ++ catB ((l.map revB).take (m + 1)) = s1 ++ revB x) := Lib.hid (by
        rw [hsn, catB_snoc, ← hs1]; simp only [ByteArray.append_assoc])
      have HTR : Hid (PTab B wr) := Lib.hid (HT.out.keep HWK.out.bel hB)
      have hbr : base ≤ wr.heap.size := by have := HWK.out.bel.size; have := HBS.out; omega
      have HBR := Lib.hid hbr
      clear hk8 hcell hsn hct hfm hx hs1 hbr
      go_upto_region 4 with fail
      go_still_tail 7, (by kernel_rfl)
      go_wp2_with fail
      refine (oc5_any B b base gb (go + m * 11) x s1 _ (Nat.le_trans HTR.out.size (bdrew (Below.refl _ _)).size) (HCL.out.imp fun _ _ _ h => h.below (bdrew (Below.refl _ _))) hBD h32m (HTR.out.keep (bdrew (Below.refl _ _)) HTR.out.size) hB (HWW.out.below (bdrew (Below.refl _ _))) hs1s).mono ?_
      rintro e w5 ⟨rfl, hw5, hk5⟩
      have HW5 : Hid (WrB w5 b base (s ++ listP (len l) ++ catB ((l.map revB).take (m + 1)))) := Lib.hid (by rw [HSN.out]; exact hw5)
      have HK5 : Hid (WK base b w w5) := Lib.hid ((HWK.out.trans (WK.of_below (bdrew (Below.refl _ _)) HBR.out)).trans hk5)
      clear hw5 hk5 HWW HWK d1 d2 d3 HCL
      go_wp2
      go_roundg (len l - (m + 1))
      case rel => exact ⟨m + 1, by omega, by go_num, HW5.out, HK5.out⟩
      case measure => omega
    · obtain rfl : m = len l := by omega
      have i1 : ¬ ((len l : Nat) : Int) < len l := by omega
      go_wp2
      go_end0
      refine ⟨rfl, ?_, HWK.out⟩
      have h := HWW.out
      rw [List.take_of_length_le (by rw [List.length_map]; exact Nat.le_refl _), ByteArray.append_assoc] at h
      exact h
theorem frevs_any (B : Nat) (key : ByteArray) (pb po c most : Nat) (a : Option Addr) (l : List RevD) (w : World) (hk : key.size < 65536) (hBw : B ≤ w.heap.size) (hc : CellAt B w pb po (.slice a (len l) c)) (hl : RvsC (CellAt B w) a l) (hn : len l ≤ 100000) (hbd : ∀ i, i < len l → RvBd (lth l i)) (hm : most ≤ 60000) :
    Calls Tryz.prog 153 #[.string key, .pointer (some ⟨pb, po, none⟩), .int .i64 most, .func (.func 154) #[] #[], .func (.func 156) #[] #[], .func (.func 157) #[] #[]] w fun e w' => ∃ v : FVal, e = .returned v.val ∧ FSem B w' v ⟨key, false, decide (len l = 0), mayR l most, rvsP l⟩ ∧ Below w.heap.size w w' := by
  refine (smanyr_any key pb po most w).mono ?_
  rintro e V ⟨v, rfl, ⟨bx, hlo, hM, rfl⟩, hb⟩
  have C0 : CellAt B V bx 0 (.pointer (some ⟨pb, po, none⟩)) := cellAt_new hM.b0 (by decide) rfl
  have C1 : CellAt B V (bx + 1) 0 (.int .i64 most) := cellAt_new hM.b1 (by decide) rfl
  have C2 : CellAt B V (bx + 1 + 1) 0 (.func (.func 154) #[] #[]) := cellAt_new hM.b2 (by decide) rfl
  have C3 : CellAt B V (bx + 1 + 1 + 1) 0 (.func (.func 156) #[] #[]) := cellAt_new hM.b3 (by decide) rfl
  have CP : CellAt B V pb po (.slice a (len l) c) := hc.below hb
  have SL : RvsC (CellAt B V) a l := hl.imp fun _ _ _ h => h.below hb
  have HN : NoRow (bx + 1 + 1) V := ⟨_, _, _, hM.b2, by decide⟩
  refine ⟨_, rfl, ?_, hb⟩
  refine ⟨rfl, rfl, hk, enters_of Tryz.func227 (by kernel_rfl) rfl, enters_of Tryz.func228 (by kernel_rfl) rfl, enters_of Tryz.func230 (by kernel_rfl) rfl, fun w' hw => many1r_any B bx pb po (len l) c a w' (C0.keep hw) (CP.keep hw), fun w' hw => ?_, fun hm1 he w' b base s hw hb ht hB hW hs => many3r_any B b base bx (bx + 1 + 1 + 1) pb po c a l s V w' C0 CP C3 SL hbd (by have := (mayR_at hm1).1; omega) (mayR_at hm1).2 hw hb ht hB hW hs⟩
  exact many2r_any B bx (bx + 1) (bx + 1 + 1) pb po c most a l w' (C0.keep hw) (CP.keep hw) (C1.keep hw) (C2.keep hw) (by have := hw.s0; have := hw.s1; omega) (by omega) ⟨_, _, _, hw.keep _ _ hM.b2 (not8_cells (by decide)), by decide⟩ (hl.imp fun b o x h => ⟨(h.below hb).keep hw, by have := h.lt; omega⟩) hbd hn
end Go.Proofs.YtihiaopilnjonaaGreatDoor
namespace Go.Proofs.YtihiaopilnjonaaGreatDoor
open Go.RowKit
set_option linter.unusedSimpArgs false
set_option linter.unusedVariables false
theorem fin_sems6 {B : Nat} {w : World} {x0 x1 x2 x3 x4 x5 : FVal} {S0 S1 S2 S3 S4 S5 : FSpec} (p0 : FIn B w x0 S0) (p1 : FIn B w x1 S1) (p2 : FIn B w x2 S2) (p3 : FIn B w x3 S3) (p4 : FIn B w x4 S4) (p5 : FIn B w x5 S5) : FSems B w [x0, x1, x2, x3, x4, x5] [S0, S1, S2, S3, S4, S5] :=
  ⟨rfl, fun i hi => by
    have hi : i < 6 := by simpa [len] using hi
    match i, hi with
    | 0, _ => exact p0.2
    | 1, _ => exact p1.2
    | 2, _ => exact p2.2
    | 3, _ => exact p3.2
    | 4, _ => exact p4.2
    | 5, _ => exact p5.2⟩
structure CtBd (root : ByteArray) (sg : Int) (rs : List RevD) (cs : List Int) (sp pp : List ByteArray) : Prop where
  root : root.size ≤ 9223372036854775807
  sg : U64i sg
  rl : len rs ≤ 100000
  rs : ∀ i, i < len rs → RvBd (lth rs i)
  cl : len cs ≤ 100000
  cs : ∀ i, i < len cs → U64i (nth cs i)
  sp : len sp ≤ 100000
  pp : len pp ≤ 100000
set_option maxRecDepth 100000 in
theorem ofcert_any (B sb so : Nat) (root : ByteArray) (sg : Int) (rs : List RevD) (cs : List Int) (sp pp : List ByteArray) (a2 a3 a4 a5 : Option Addr) (k2 k3 k4 k5 : Nat) (w : World) (hB : B ≤ w.heap.size)
    (c0 : CellAt B w sb so (.string root)) (c1 : CellAt B w sb (so + 1) (.int .u64 sg)) (c2 : CellAt B w sb (so + 2) (.slice a2 (len rs) k2)) (c3 : CellAt B w sb (so + 3) (.slice a3 (len cs) k3)) (c4 : CellAt B w sb (so + 4) (.slice a4 (len sp) k4)) (c5 : CellAt B w sb (so + 5) (.slice a5 (len pp) k5))
    (s2 : RvsC (CellAt B w) a2 rs) (s3 : Nms B w a3 cs) (s4 : Strs B w a4 sp) (s5 : Strs B w a5 pp) (bd : CtBd root sg rs cs sp pp) :
    Calls Tryz.prog 93 #[.pointer (some ⟨sb, so, none⟩)] w (RowOf B (certSpecs root sg rs cs sp pp) w) := by
  refine (gofCert_any sb so w (fun w v => FIn B w v ⟨⟨#[80]⟩, false, decide (len pp = 0), mayB pp 10240, dgsP pp⟩) (fun w v => FIn B w v ⟨⟨#[83]⟩, false, decide (len sp = 0), mayB sp 10240, dgsP sp⟩) (fun w v => FIn B w v ⟨⟨#[99]⟩, true, false, decide (root.size = 32), binP root⟩) (fun w v => FIn B w v ⟨⟨#[112]⟩, false, decide (len cs = 0), decide (len cs ≤ 640), nmsP cs⟩) (fun w v => FIn B w v ⟨⟨#[114]⟩, false, decide (len rs = 0), mayR rs 640, rvsP rs⟩) (fun w v => FIn B w v ⟨⟨#[119]⟩, false, sg == 0, true, numP sg⟩)
    (fun w' hb => ?p0) (fin_lasts B _) (fun w' hb => ?p1) (fin_lasts B _) (fun w' hb => ?p2) (fin_lasts B _) (fun w' hb => ?p3) (fin_lasts B _) (fun w' hb => ?p4) (fin_lasts B _) (fun w' hb => ?p5) (fin_lasts B _)).mono ?_
  case p0 => exact (fdigests_any B ⟨#[80]⟩ sb (so + 5) k5 10240 a5 pp w' (by decide) (Nat.le_trans hB hb.size) (c5.below hb) (s5.below hb) bd.pp (by decide)).mono (fun e w'' hh => madeF (Nat.le_trans hB hb.size) hh)
  case p1 => exact (fdigests_any B ⟨#[83]⟩ sb (so + 4) k4 10240 a4 sp w' (by decide) (Nat.le_trans hB hb.size) (c4.below hb) (s4.below hb) bd.sp (by decide)).mono (fun e w'' hh => madeF (Nat.le_trans hB hb.size) hh)
  case p2 => exact (fdigest_any B ⟨#[99]⟩ sb so root w' (by decide) (Nat.le_trans hB hb.size) (c0.below hb) bd.root).mono (fun e w'' hh => madeF (Nat.le_trans hB hb.size) hh)
  case p3 => exact (fnums_any B ⟨#[112]⟩ sb (so + 3) k3 640 a3 cs w' (by decide) (Nat.le_trans hB hb.size) (c3.below hb) (s3.below hb) bd.cl bd.cs (by decide)).mono (fun e w'' hh => madeF (Nat.le_trans hB hb.size) hh)
  case p4 => exact (frevs_any B ⟨#[114]⟩ sb (so + 2) k2 640 a2 rs w' (by decide) (Nat.le_trans hB hb.size) (c2.below hb) (s2.imp fun _ _ _ h => h.below hb) bd.rl bd.rs (by decide)).mono (fun e w'' hh => madeF (Nat.le_trans hB hb.size) hh)
  case p5 => exact (fnum_any B ⟨#[119]⟩ sb (so + 1) sg w' (by decide) (Nat.le_trans hB hb.size) (c1.below hb) bd.sg.1 bd.sg.2).mono (fun e w'' hh => madeF (Nat.le_trans hB hb.size) hh)
  rintro e w' ⟨u, rfl, ⟨g, c, l, rfl, hc, hF, ⟨x0, x1, x2, x3, x4, x5, rfl, p0, p1, p2, p3, p4, p5⟩⟩, hb⟩
  exact ⟨g, c, [x0, x1, x2, x3, x4, x5], rfl, hF, fin_sems6 p0 p1 p2 p3 p4 p5, hb⟩
set_option maxRecDepth 100000 in
theorem wcert2_any (B : Nat) (root : ByteArray) (sg : Int) (rs : List RevD) (cs : List Int) (sp pp : List ByteArray) (a2 a3 a4 a5 : Option Addr) (k2 k3 k4 k5 : Nat) (w : World) (ht : PTab B w)
    (s2 : RvsC (CellAt B w) a2 rs) (s3 : Nms B w a3 cs) (s4 : Strs B w a4 sp) (s5 : Strs B w a5 pp) (bd : CtBd root sg rs cs sp pp)
    (hsz : allMay (certSpecs root sg rs cs sp pp) = true → (layP (certSpecs root sg rs cs sp pp)).size ≤ 60000000000000) :
    Calls Tryz.prog 48 #[.agg #[.string root, .int .u64 sg, .slice a2 (len rs) k2, .slice a3 (len cs) k3, .slice a4 (len sp) k4, .slice a5 (len pp) k5]] w (LaidIs (certSpecs root sg rs cs sp pp) w) := by
  have HT := Lib.hid ht
  have HBD := Lib.hid bd
  have S2 := Lib.hid s2
  have S3 := Lib.hid s3
  have S4 := Lib.hid s4
  have S5 := Lib.hid s5
  clear ht bd s2 s3 s4 s5
  obtain ⟨fs, hfs⟩ : ∃ fs, certSpecs root sg rs cs sp pp = fs := ⟨_, rfl⟩
  have HL6 : Hid (len fs = 6) := Lib.hid (by rw [← hfs]; rfl)
  have HO : Hid (∀ (sb : Nat) (V : World), B ≤ V.heap.size → Below w.heap.size w V → V.heap[sb]? = some (.cells #[.string root, .int .u64 sg, .slice a2 (len rs) k2, .slice a3 (len cs) k3, .slice a4 (len sp) k4, .slice a5 (len pp) k5] 28 (0, 0)) → Calls Tryz.prog 93 #[.pointer (some ⟨sb, 0, none⟩)] V (RowOf B fs V)) := Lib.hid (fun sb V hV hb h => by
    rw [← hfs]
    exact ofcert_any B sb 0 root sg rs cs sp pp a2 a3 a4 a5 k2 k3 k4 k5 V hV (cellAt_new h (by decide) rfl) (cellAt_new h (by decide) rfl) (cellAt_new h (by decide) rfl) (cellAt_new h (by decide) rfl) (cellAt_new h (by decide) rfl) (cellAt_new h (by decide) rfl) (S2.out.imp fun _ _ _ h => h.below hb) (S3.out.below hb) (S4.out.below hb) (S5.out.below hb) HBD.out)
  rw [hfs] at hsz ⊢
  clear hfs
  have HSZ := Lib.hid hsz
  clear hsz
  generalize len rs = n2 at HO ⊢
  generalize len cs = n3 at HO ⊢
  generalize len sp = n4 at HO ⊢
  generalize len pp = n5 at HO ⊢
  go_enter Tryz.func48, Tryz.ntmps48
  go_wp2_with fail
  obtain ⟨V, hV⟩ : ∃ V, w.alloc (.cells #[.string root, .int .u64 sg, .slice a2 n2 k2, .slice a3 n3 k3, .slice a4 n4 k4, .slice a5 n5 k5] 28) = V := ⟨_, rfl⟩
  have HB : Hid (Below w.heap.size w V) := Lib.hid (by rw [← hV]; exact balloc (Below.refl _ _) _)
  have hblk : V.heap[w.heap.size]? = some (.cells #[.string root, .int .u64 sg, .slice a2 n2 k2, .slice a3 n3 k3, .slice a4 n4 k4, .slice a5 n5 k5] 28 (0, 0)) := by rw [← hV]; exact heap_alloc_new _ _
  have HBK := Lib.hid hblk
  have HTV := Lib.hid (HT.out.keep HB.out HT.out.size)
  try rw [hV]
  clear hV hblk HT
  refine (HO.out w.heap.size V HTV.out.size HB.out HBK.out).mono ?_
  rintro e w1 ⟨g, c, l, rfl, hF, hS, hb⟩
  have HF := Lib.hid hF
  have HS := Lib.hid hS
  have HB1 : Hid (Below w.heap.size w w1) := Lib.hid (bnext HB.out hb)
  have HT1 := Lib.hid (HTV.out.keep hb HTV.out.size)
  have HL : Hid (len l = 6) := Lib.hid (hS.1.symm.trans HL6.out)
  clear hF hS hb HTV HO
  go_wp2_with fail
  refine (wlaid2_any B g 0 c w1 l fs w1 HF.out.flds (by rw [HL.out]; decide) (by rw [HL.out]; decide) HS.out (Keep8.refl HT1.out.size) HT1.out HSZ.out).mono ?_
  rintro e w2 ⟨rfl, hb2⟩
  have HB2 : Hid (Below w.heap.size w w2) := Lib.hid (bnext HB1.out hb2)
  clear hb2
  cases hm : allMay fs with
  | true =>
    have HM := Lib.hid hm
    clear hm
    rw [if_pos rfl]
    go_wp2
    go_ret2
    exact ⟨by rw [HM.out]; rfl, HB2.out⟩
  | false =>
    have HM := Lib.hid hm
    clear hm
    rw [if_neg (by decide)]
    go_wp2
    go_ret2
    exact ⟨by rw [HM.out]; rfl, HB2.out⟩
theorem catB_size_le {α : Type} (f : α → ByteArray) (M : Nat) : ∀ l : List α, (∀ x ∈ l, (f x).size ≤ M) → (catB (l.map f)).size ≤ l.length * M
  | [], _ => by simp [catB]
  | x :: r, h => by
    rw [List.map_cons, catB, ByteArray.size_append, List.length_cons, Nat.succ_mul]
    have h1 := h x (List.mem_cons_self ..)
    have h2 := catB_size_le f M r (fun y hy => h y (List.mem_cons_of_mem _ hy))
    omega
theorem layP_size (fs : List FSpec) (M : Nat) (h : ∀ f ∈ fs, f.key.size ≤ 1 ∧ f.bytes.size ≤ M) : (layP fs).size ≤ 9 + fs.length * (M + 10) := by
  unfold layP
  rw [ByteArray.size_append]
  have h1 : (mapP (keptF fs).length).size ≤ 9 := laidP_len 4 _ ByteArray.empty
  have h2 := catB_size_le fieldP (M + 10) (keptF fs) (fun f hf => by
    obtain ⟨h3, h4⟩ := h f (List.mem_filter.1 hf).1
    unfold fieldP
    rw [ByteArray.size_append]
    have h5 : (strP f.key).size ≤ 9 + f.key.size := laidP_len 2 _ _
    omega)
  have h3 := Nat.mul_le_mul_right (M + 10) (kept_le fs)
  omega
theorem dgsP_size {l : List ByteArray} {n : Nat} (h : mayB l n = true) : (dgsP l).size ≤ 9 + n * 41 := by
  obtain ⟨h1, h2⟩ := (mayB_iff l n).1 h
  unfold dgsP
  rw [ByteArray.size_append]
  have h3 : (listP (len l)).size ≤ 9 := laidP_len 3 _ ByteArray.empty
  have h4 := catB_size_le binP 41 l (fun x hx => by have := binP_len x; rw [h2 x hx] at this; exact this)
  have h5 := Nat.mul_le_mul_right 41 h1
  rw [len_eq] at h5
  omega
theorem numP_size (n : Int) : (numP n).size ≤ 9 := laidP_len 0 _ ByteArray.empty
theorem may_all {fs : List FSpec} (h : allMay fs = true) : ∀ f ∈ fs, f.may = true := List.all_eq_true.1 h
theorem partSz {root : ByteArray} {weight first life keys : Int} (h : allMay (partSpecs root weight first life keys) = true) : (layP (partSpecs root weight first life keys)).size ≤ 300 := by
  have hr : root.size = 32 := of_decide_eq_true (may_all h ⟨⟨#[114]⟩, true, false, decide (root.size = 32), binP root⟩ (by unfold partSpecs; simp))
  have hb := binP_len root
  refine Nat.le_trans (layP_size _ 41 fun f hf => ?_) (show 9 + 5 * 51 ≤ 300 by decide)
  unfold partSpecs at hf
  simp only [List.mem_cons, List.not_mem_nil, or_false] at hf
  rcases hf with rfl | rfl | rfl | rfl | rfl
  · exact ⟨Nat.le_refl _, Nat.le_trans (numP_size _) (by decide)⟩
  · exact ⟨Nat.le_refl _, Nat.le_trans (numP_size _) (by decide)⟩
  · exact ⟨Nat.le_refl _, Nat.le_trans (numP_size _) (by decide)⟩
  · exact ⟨Nat.le_refl _, by show (binP root).size ≤ 41; omega⟩
  · exact ⟨Nat.le_refl _, Nat.le_trans (numP_size _) (by decide)⟩
theorem sigSz {idx : Int} {ws ps : List ByteArray} (h : allMay (sigSpecs idx ws ps) = true) : (layP (sigSpecs idx ws ps)).size ≤ 9000 := by
  have h1 := may_all h ⟨⟨#[112]⟩, false, decide (len ps = 0), mayB ps 16, dgsP ps⟩ (by unfold sigSpecs; simp)
  have h2 := may_all h ⟨⟨#[118]⟩, false, decide (len ws = 0), mayB ws 67, dgsP ws⟩ (by unfold sigSpecs; simp)
  refine Nat.le_trans (layP_size _ 2756 fun f hf => ?_) (show 9 + 3 * 2766 ≤ 9000 by decide)
  unfold sigSpecs at hf
  simp only [List.mem_cons, List.not_mem_nil, or_false] at hf
  rcases hf with rfl | rfl | rfl
  · exact ⟨Nat.le_refl _, Nat.le_trans (numP_size _) (by decide)⟩
  · exact ⟨Nat.le_refl _, Nat.le_trans (dgsP_size h1) (by decide)⟩
  · exact ⟨Nat.le_refl _, Nat.le_trans (dgsP_size h2) (by decide)⟩
theorem slotSz {L : Int} {q : Bool} {idx : Int} {ws ps : List ByteArray} (h : allMay (slotSpecs L q idx ws ps) = true) : (layP (slotSpecs L q idx ws ps)).size ≤ 28000 := by
  have h1 : allMay (sigSpecs idx ws ps) = true := may_all h (objSpec ⟨#[103]⟩ (sigSpecs idx ws ps)) (by unfold slotSpecs; simp)
  refine Nat.le_trans (layP_size _ 9000 fun f hf => ?_) (show 9 + 3 * 9010 ≤ 28000 by decide)
  unfold slotSpecs at hf
  simp only [List.mem_cons, List.not_mem_nil, or_false] at hf
  rcases hf with rfl | rfl | rfl
  · exact ⟨Nat.le_refl _, sigSz h1⟩
  · exact ⟨Nat.le_refl _, Nat.le_trans (numP_size _) (by decide)⟩
  · exact ⟨Nat.le_refl _, Nat.le_trans (numP_size _) (by decide)⟩
theorem revSz {d : RevD} (h : allMay (revSpecs d) = true) : (revB d).size ≤ 90000 := by
  have h1 : allMay (partSpecs d.root d.wt d.first d.life d.keys) = true := may_all h (objSpec ⟨#[113]⟩ (partSpecs d.root d.wt d.first d.life d.keys)) (by unfold revSpecs; simp)
  have h2 : allMay (slotSpecs d.L d.signed d.idx d.ws d.ps) = true := may_all h (objSpec ⟨#[115]⟩ (slotSpecs d.L d.signed d.idx d.ws d.ps)) (by unfold revSpecs; simp)
  refine Nat.le_trans (layP_size _ 28000 fun f hf => ?_) (show 9 + 3 * 28010 ≤ 90000 by decide)
  unfold revSpecs at hf
  simp only [List.mem_cons, List.not_mem_nil, or_false] at hf
  rcases hf with rfl | rfl | rfl
  · exact ⟨Nat.le_refl _, Nat.le_trans (numP_size _) (by decide)⟩
  · exact ⟨Nat.le_refl _, Nat.le_trans (partSz h1) (by decide)⟩
  · exact ⟨Nat.le_refl _, slotSz h2⟩
theorem certSz {root : ByteArray} {sg : Int} {rs : List RevD} {cs : List Int} {sp pp : List ByteArray} (h : allMay (certSpecs root sg rs cs sp pp) = true) : (layP (certSpecs root sg rs cs sp pp)).size ≤ 400000000 := by
  have h1 := may_all h ⟨⟨#[80]⟩, false, decide (len pp = 0), mayB pp 10240, dgsP pp⟩ (by unfold certSpecs; simp)
  have h2 := may_all h ⟨⟨#[83]⟩, false, decide (len sp = 0), mayB sp 10240, dgsP sp⟩ (by unfold certSpecs; simp)
  have hr : root.size = 32 := of_decide_eq_true (may_all h ⟨⟨#[99]⟩, true, false, decide (root.size = 32), binP root⟩ (by unfold certSpecs; simp))
  have h3 : len cs ≤ 640 := of_decide_eq_true (may_all h ⟨⟨#[112]⟩, false, decide (len cs = 0), decide (len cs ≤ 640), listP (len cs) ++ catB (cs.map numP)⟩ (by unfold certSpecs; simp))
  have h4 := (mayR_iff rs 640).1 (may_all h ⟨⟨#[114]⟩, false, decide (len rs = 0), mayR rs 640, listP (len rs) ++ catB (rs.map revB)⟩ (by unfold certSpecs; simp))
  have hb := binP_len root
  refine Nat.le_trans (layP_size _ 57600009 fun f hf => ?_) (show 9 + 6 * 57600019 ≤ 400000000 by decide)
  unfold certSpecs at hf
  simp only [List.mem_cons, List.not_mem_nil, or_false] at hf
  rcases hf with rfl | rfl | rfl | rfl | rfl | rfl
  · exact ⟨Nat.le_refl _, Nat.le_trans (dgsP_size h1) (by decide)⟩
  · exact ⟨Nat.le_refl _, Nat.le_trans (dgsP_size h2) (by decide)⟩
  · exact ⟨Nat.le_refl _, by show (binP root).size ≤ 57600009; omega⟩
  · refine ⟨Nat.le_refl _, ?_⟩
    show (listP (len cs) ++ catB (cs.map numP)).size ≤ 57600009
    rw [ByteArray.size_append]
    have q1 : (listP (len cs)).size ≤ 9 := laidP_len 3 _ ByteArray.empty
    have q2 := catB_size_le numP 9 cs (fun x _ => numP_size x)
    rw [len_eq] at h3
    omega
  · refine ⟨Nat.le_refl _, ?_⟩
    show (listP (len rs) ++ catB (rs.map revB)).size ≤ 57600009
    rw [ByteArray.size_append]
    have q1 : (listP (len rs)).size ≤ 9 := laidP_len 3 _ ByteArray.empty
    have q2 := catB_size_le revB 90000 rs (fun x hx => revSz (h4.2 x hx))
    have q3 := h4.1
    rw [len_eq] at q3
    omega
  · exact ⟨Nat.le_refl _, Nat.le_trans (numP_size _) (by decide)⟩
end Go.Proofs.YtihiaopilnjonaaGreatDoor
namespace Go.Proofs.YtihiaopilnjonaaGreatDoor
open Go.RowKit
set_option linter.unusedSimpArgs false
set_option linter.unusedVariables false
def fullC (c : UInt8) : ByteArray := ⟨(Go.Lib.repeatL [c] 32).toArray⟩
theorem fullC_size (c : UInt8) : (fullC c).size = 32 := rfl
abbrev kA : ByteArray := fullC 97
abbrev kB : ByteArray := fullC 98
abbrev kC : ByteArray := fullC 99
def kr1 : RevD := ⟨0, 0, false, 0, [], [], kA, 5, 0, 0, 0⟩
def kr2 : RevD := ⟨1, 5, false, 0, [], [], kA, 5, 0, 0, 0⟩
def kr0 : RevD := ⟨0, 0, false, 0, [], [], ⟨#[]⟩, 0, 0, 0, 0⟩
def kd (x : ByteArray) : ByteArray := (⟨#[196, 32]⟩ : ByteArray) ++ x
def ksig : ByteArray := (((((⟨#[161, 103, 131, 161, 105, 7, 161, 112, 146]⟩ : ByteArray) ++ kd kB) ++ kd kC) ++ ⟨#[161, 118, 145]⟩) ++ kd kA)
def kpart : ByteArray := ((⟨#[130, 161, 114]⟩ : ByteArray) ++ kd kA) ++ ⟨#[161, 119, 5]⟩
def kwant : ByteArray := ((((((((((((⟨#[134, 161, 80, 145]⟩ : ByteArray) ++ kd kB) ++ ⟨#[161, 83, 145]⟩) ++ kd kA) ++ ⟨#[161, 99]⟩) ++ kd kC) ++ ⟨#[161, 112, 146, 0, 1, 161, 114, 146, 129, 161, 113]⟩) ++ kpart) ++ ⟨#[131, 161, 112, 1, 161, 113]⟩) ++ kpart) ++ ⟨#[161, 115, 129, 161, 108, 5, 161, 119, 6]⟩))
theorem kw_mayS1 : allMay (slotSpecs 1 true 7 [kA] [kB, kC]) = true := by kernel_rfl
theorem kw_mayM : allMay (msgSpecs kA kB 3 4 1 2) = true := by kernel_rfl
theorem kw_mayH : allMay (headerSpecs 9 kA kB kC) = true := by kernel_rfl
theorem kw_mayK : allMay (certSpecs kC 6 [kr1, kr2] [0, 1] [kA] [kB]) = true := by kernel_rfl
theorem kw_mayn : allMay (slotSpecs 0 false 0 (List.replicate 68 kA) []) = false := by kernel_rfl
theorem kw_mayo : allMay (slotSpecs 0 false 0 [] (List.replicate 17 kA)) = false := by kernel_rfl
theorem kw_mayp : allMay (slotSpecs 0 false 0 (List.replicate 67 kA) (List.replicate 16 kA)) = true := by kernel_rfl
theorem kw_mayq : allMay (slotSpecs 0 false 0 [⟨#[120]⟩] []) = false := by kernel_rfl
theorem kw_mayr : allMay (certSpecs kA 0 [] (List.replicate 641 0) [] []) = false := by kernel_rfl
theorem kw_mays : allMay (certSpecs kA 0 [] (List.replicate 640 0) [] []) = true := by kernel_rfl
theorem kw_mayt : allMay (certSpecs kA 0 [kr0] [] [] []) = false := by kernel_rfl
theorem kw_mayu : allMay (headerSpecs 0 kA kB ⟨#[]⟩) = false := by kernel_rfl
theorem kw_sameS1 : ((layP (slotSpecs 1 true 7 [kA] [kB, kC])).toList == (((⟨#[131]⟩ : ByteArray) ++ ksig) ++ ⟨#[161, 108, 1, 161, 115, 1]⟩).toList) = true := by kernel_rfl
theorem kw_sameM : ((layP (msgSpecs kA kB 3 4 1 2)).toList == (((((⟨#[134, 161, 102, 1, 161, 104]⟩ : ByteArray) ++ kd kA) ++ ⟨#[161, 108, 2, 161, 110, 3, 161, 118]⟩) ++ kd kB) ++ ⟨#[161, 119, 4]⟩).toList) = true := by kernel_rfl
theorem kw_sameH : ((layP (headerSpecs 9 kA kB kC)).toList == (((((⟨#[132, 161, 112]⟩ : ByteArray) ++ kd kA) ++ ⟨#[161, 114, 9, 161, 115]⟩) ++ kd kC ++ ⟨#[161, 116]⟩) ++ kd kB).toList) = true := by kernel_rfl
theorem kw_sameK : ((layP (certSpecs kC 6 [kr1, kr2] [0, 1] [kA] [kB])).toList == (kwant).toList) = true := by kernel_rfl
theorem kw_rd0 : readR ⟨#[129, 161, 120, 1]⟩ (slotGs ⟨#[129, 161, 120, 1]⟩ 0) slot0 = .error (5, 0) := by kernel_rfl
theorem kw_rd1 : readR ⟨#[130, 161, 108, 5, 161, 108, 5]⟩ (slotGs ⟨#[130, 161, 108, 5, 161, 108, 5]⟩ 0) slot0 = .error (5, 0) := by kernel_rfl
theorem kw_rd2 : readR ⟨#[129, 161, 103, 128]⟩ (slotGs ⟨#[129, 161, 103, 128]⟩ 0) slot0 = .error (5, 0) := by kernel_rfl
theorem kw_rd3 : readR ⟨#[129, 161, 103, 129, 161, 112, 144]⟩ (slotGs ⟨#[129, 161, 103, 129, 161, 112, 144]⟩ 0) slot0 = .error (5, 0) := by kernel_rfl
theorem kw_rd4 : readR ⟨#[129, 161, 103, 129, 161, 112, 145, 196, 1, 120]⟩ (slotGs ⟨#[129, 161, 103, 129, 161, 112, 145, 196, 1, 120]⟩ 0) slot0 = .error (5, 0) := by kernel_rfl
theorem kw_rd5 : readR ⟨#[129, 160, 1]⟩ (slotGs ⟨#[129, 160, 1]⟩ 0) slot0 = .error (5, 0) := by kernel_rfl
theorem kw_rd6 : readR ⟨#[129, 162, 108, 108, 1]⟩ (slotGs ⟨#[129, 162, 108, 108, 1]⟩ 0) slot0 = .error (5, 0) := by kernel_rfl
theorem kw_long : readR ⟨#[129, 161, 103, 129, 161, 112, 220, 0, 17]⟩ (slotGs ⟨#[129, 161, 103, 129, 161, 112, 220, 0, 17]⟩ 0) slot0 = .error (3, 0) := by kernel_rfl
theorem kw_short : readR ⟨#[129, 161, 103, 129, 161, 112, 145, 196, 32]⟩ (slotGs ⟨#[129, 161, 103, 129, 161, 112, 145, 196, 32]⟩ 0) slot0 = .error (4, 7) := by kernel_rfl
theorem kw_other : readR ⟨#[129, 161, 108, 161, 120]⟩ (slotGs ⟨#[129, 161, 108, 161, 120]⟩ 0) slot0 = .error (5, 3) := by kernel_rfl
theorem kw_huge : readR ⟨#[129, 161, 80, 220, 255, 255]⟩ (certGs ⟨#[129, 161, 80, 220, 255, 255]⟩) cert0 = .error (3, 3) := by kernel_rfl
def kf : Nat → ByteArray
  | 0 => ⟨#[129, 161, 120, 1]⟩
  | 1 => ⟨#[130, 161, 108, 5, 161, 108, 5]⟩
  | 2 => ⟨#[129, 161, 103, 128]⟩
  | 3 => ⟨#[129, 161, 103, 129, 161, 112, 144]⟩
  | 4 => ⟨#[129, 161, 103, 129, 161, 112, 145, 196, 1, 120]⟩
  | 5 => ⟨#[129, 160, 1]⟩
  | _ => ⟨#[129, 162, 108, 108, 1]⟩
theorem kf_rd (m : Nat) : readR (kf m) (slotGs (kf m) 0) slot0 = .error (5, 0) := by
  match m with
  | 0 => exact kw_rd0
  | 1 => exact kw_rd1
  | 2 => exact kw_rd2
  | 3 => exact kw_rd3
  | 4 => exact kw_rd4
  | 5 => exact kw_rd5
  | _ + 6 => exact kw_rd6
theorem kf_size (m : Nat) : (kf m).size ≤ 9223372036854775807 := by
  match m with
  | 0 => exact (show (4 : Nat) ≤ 9223372036854775807 by decide)
  | 1 => exact (show (7 : Nat) ≤ 9223372036854775807 by decide)
  | 2 => exact (show (4 : Nat) ≤ 9223372036854775807 by decide)
  | 3 => exact (show (7 : Nat) ≤ 9223372036854775807 by decide)
  | 4 => exact (show (10 : Nat) ≤ 9223372036854775807 by decide)
  | 5 => exact (show (3 : Nat) ≤ 9223372036854775807 by decide)
  | _ + 6 => exact (show (5 : Nat) ≤ 9223372036854775807 by decide)
theorem kf_at (m : Nat) (h : m < 7) : (#[Value.string ⟨#[129, 161, 120, 1]⟩, Value.string ⟨#[130, 161, 108, 5, 161, 108, 5]⟩, Value.string ⟨#[129, 161, 103, 128]⟩, Value.string ⟨#[129, 161, 103, 129, 161, 112, 144]⟩, Value.string ⟨#[129, 161, 103, 129, 161, 112, 145, 196, 1, 120]⟩, Value.string ⟨#[129, 160, 1]⟩, Value.string ⟨#[129, 162, 108, 108, 1]⟩] : Array Value)[m]? = some (.string (kf m)) := by
  match m, h with
  | 0, _ => rfl
  | 1, _ => rfl
  | 2, _ => rfl
  | 3, _ => rfl
  | 4, _ => rfl
  | 5, _ => rfl
  | 6, _ => rfl
end Go.Proofs.YtihiaopilnjonaaGreatDoor
namespace Go.Proofs.YtihiaopilnjonaaGreatDoor
set_option linter.unusedSimpArgs false
set_option linter.unusedVariables false
open Go.RowKit
def RefB (w : World) (b : Nat) (s : ByteArray) (a : Nat) (most : Int) : Prop := w.heap[b]? = some (.cells #[.string s, .int .i64 a, .int .i64 most] 210 (0, 0))
end Go.Proofs.YtihiaopilnjonaaGreatDoor
namespace Go.Proofs.YtihiaopilnjonaaGreatDoor
open Go.RowKit
set_option linter.unusedSimpArgs false
set_option linter.unusedVariables false
abbrev Cst := Except Flt Nat
def Cst.flt : Cst → Flt
  | .ok _ => (0, 0)
  | .error f => f
def CurB (w : World) (cb rb : Nat) (f : Flt) : Prop := w.heap[cb]? = some (.cells #[.pointer (some ⟨rb, 0, none⟩), .int .i64 f.1, .int .i64 f.2] 205 (0, 0))
structure CurIs (w : World) (cb rb : Nat) (s : ByteArray) (σ : Cst) : Prop where
  c : CurB w cb rb σ.flt
  ne : cb ≠ rb
  sz : s.size ≤ 140737488355328
  st : match σ with | .ok a => RefB w rb s a 10240 ∧ a ≤ s.size | .error f => f.1 ≠ 0 ∧ ∃ a, RefB w rb s a 10240 ∧ a ≤ s.size
theorem CurIs.below {w w' : World} {cb rb : Nat} {s : ByteArray} {σ : Cst} (h : CurIs w cb rb s σ) (hb : Below w.heap.size w w') : CurIs w' cb rb s σ := by
  refine ⟨(hb.block _ (lt_of_block h.c)).trans h.c, h.ne, h.sz, ?_⟩
  have hs := h.st
  cases σ with
  | ok a => exact ⟨(hb.block _ (lt_of_block hs.1)).trans hs.1, hs.2⟩
  | error f => obtain ⟨h1, a, h2, h3⟩ := hs; exact ⟨h1, a, (hb.block _ (lt_of_block h2)).trans h2, h3⟩
theorem CurIs.rd {w : World} {cb rb : Nat} {s : ByteArray} {σ : Cst} (h : CurIs w cb rb s σ) : ∃ a, RefB w rb s a 10240 ∧ a ≤ s.size := by
  have hs := h.st
  cases σ with
  | ok a => exact ⟨a, hs⟩
  | error f => exact hs.2
theorem CurIs.set {w : World} {cb rb : Nat} {s : ByteArray} {σ : Cst} (h : CurIs w cb rb s σ) (f : Flt) (hf : f.1 ≠ 0) : CurIs ((w.setCell ⟨cb, 1, none⟩ (.int .i64 f.1)).setCell ⟨cb, 2, none⟩ (.int .i64 f.2)) cb rb s (.error f) := by
  obtain ⟨a, h1, h2⟩ := h.rd
  exact ⟨block_setCell (block_setCell h.c _) _, h.ne, h.sz, hf, a, block_setCell_ne (block_setCell_ne h1 (by exact fun e => h.ne e.symm) _) (by exact fun e => h.ne e.symm) _, h2⟩
end Go.Proofs.YtihiaopilnjonaaGreatDoor
namespace Go.Proofs.YtihiaopilnjonaaGreatDoor
open Go.RowKit
set_option linter.unusedSimpArgs false
set_option linter.unusedVariables false
def isKey (all k : ByteArray) (n : Nat) : Bool := (List.range n).any fun i => (all.extract i (i + 1)).toList == k.toList
end Go.Proofs.YtihiaopilnjonaaGreatDoor
namespace Go.Proofs.YtihiaopilnjonaaGreatDoor
open Go.RowKit
set_option linter.unusedSimpArgs false
set_option linter.unusedVariables false
abbrev RStep := Rcd → Cst → Rcd × Cst
theorem CurIs.keep {w w' : World} {cb rb : Nat} {s : ByteArray} {σ : Cst} (h : CurIs w cb rb s σ) (h1 : w'.heap[cb]? = w.heap[cb]?) (h2 : w'.heap[rb]? = w.heap[rb]?) : CurIs w' cb rb s σ := by
  refine ⟨h1.trans h.c, h.ne, h.sz, ?_⟩
  have hst := h.st
  cases σ with
  | ok a => exact ⟨h2.trans hst.1, hst.2⟩
  | error f => obtain ⟨h3, a, h4, h5⟩ := hst; exact ⟨h3, a, h2.trans h4, h5⟩
theorem CurIs.rlt {w : World} {cb rb : Nat} {s : ByteArray} {σ : Cst} (h : CurIs w cb rb s σ) : rb < w.heap.size := by obtain ⟨a, h2, -⟩ := h.rd; exact lt_of_block h2
end Go.Proofs.YtihiaopilnjonaaGreatDoor
namespace Go.Proofs.YtihiaopilnjonaaGreatDoor
open Go.RowKit
set_option linter.unusedSimpArgs false
set_option linter.unusedVariables false
structure StepOk (x0 : Rcd) (g : GSpec) (f : RStep) : Prop where
  good : ∀ x a, fresh x0 g x → match g.read x a with
    | .error e => (f x (.ok a)).2 = .error e
    | .ok y => if g.empty y.1 = true then (f x (.ok a)).2 = .error (5, 0) else f x (.ok a) = (y.1, .ok y.2)
  bad : ∀ x e, (f x (.error e)).2 = .error e
def rth (l : List (UInt8 × RStep)) (i : Nat) : UInt8 × RStep := l.getD i (0, fun x σ => (x, σ))
structure SpecsOk (x0 : Rcd) (all : ByteArray) (specs : List (UInt8 × RStep)) (gs : List GSpec) : Prop where
  len : specs.length = gs.length
  keys : ∀ i, i < gs.length → (gth gs i).key.toList = [(rth specs i).1]
  all : ∀ k : ByteArray, isKey all k all.size = true ↔ ∃ i, i < gs.length ∧ k.toList = [(rth specs i).1]
  rise : ∀ i j, i < j → j < gs.length → (rth specs i).1 < (rth specs j).1
  steps : ∀ i, i < gs.length → StepOk x0 (gth gs i) (rth specs i).2
section
variable {x0 : Rcd} {s all : ByteArray} {specs : List (UInt8 × RStep)} {gs : List GSpec}
theorem SpecsOk.inj (h : SpecsOk x0 all specs gs) {i j : Nat} (hi : i < gs.length) (hj : j < gs.length) (e : (rth specs i).1 = (rth specs j).1) : i = j := by
  rcases Nat.lt_trichotomy i j with h1 | h1 | h1
  · have := h.rise i j h1 hj; rw [e] at this; exact absurd this (UInt8.lt_irrefl _)
  · exact h1
  · have := h.rise j i h1 hi; rw [e] at this; exact absurd this (UInt8.lt_irrefl _)
end
end Go.Proofs.YtihiaopilnjonaaGreatDoor
namespace Go.Proofs.YtihiaopilnjonaaGreatDoor
open Go.RowKit
set_option linter.unusedSimpArgs false
set_option linter.unusedVariables false
theorem Chg.low {rb cb : Nat} {w w1 w' : World} (h : Below w.heap.size w w1) (hc : Chg rb cb w1 w') (h1 : w.heap.size ≤ rb) (h2 : w.heap.size ≤ cb) : Below w.heap.size w w' :=
  ⟨hc.os.trans h.os, hc.tape.trans h.tape, hc.output.trans h.output, Nat.le_trans h.size hc.size, fun i hi => (hc.block i (Nat.lt_of_lt_of_le hi h.size) (by omega) (by omega)).trans (h.block i hi)⟩
end Go.Proofs.YtihiaopilnjonaaGreatDoor
namespace Go.Proofs.YtihiaopilnjonaaGreatDoor
open Go.RowKit
set_option linter.unusedSimpArgs false
set_option linter.unusedVariables false
def TextOf (fs : List FSpec) : ByteArray := if allMay fs then layP fs else ⟨#[]⟩
def CodeOf (fs : List FSpec) : Int := if allMay fs then 0 else 2
theorem LaidIs.both {fs : List FSpec} {w w' : World} {e : Ending} (h : LaidIs fs w e w') : e = .returned (.tuple #[.string (TextOf fs), .int .i64 (CodeOf fs)]) ∧ Below w.heap.size w w' := by
  obtain ⟨h1, h2⟩ := h
  refine ⟨h1.trans ?_, h2⟩
  unfold TextOf CodeOf
  cases allMay fs <;> rfl
end Go.Proofs.YtihiaopilnjonaaGreatDoor
namespace Go.Proofs.YtihiaopilnjonaaGreatDoor
open Go.RowKit Go.ChangeShapes Go.WideShapes Go.ChangeAt Go.Deep
set_option linter.unusedSimpArgs false
set_option linter.unusedVariables false
def CW (w : World) : CP := fun b o x => w.cell? ⟨b, o, none⟩ = some x
theorem CW.at {w : World} {b o : Nat} {x : Value} (h : CW w b o x) : CellAt w.heap.size w b o x := ⟨h, .inl (lt_of_cell h)⟩
section
variable {H : Type} {enc : TypeId × Value → H} {P : Program} {w : World}
end
section
variable {H : Type} {enc : TypeId × Value → H} {w : World}
structure RvOp (d : RevD) : Prop where
  pos : U64i d.pos
  L : U64i d.L
  idx : U64i d.idx
  wt : U64i d.wt
  first : U64i d.first
  life : U64i d.life
  keys : U64i d.keys
  ws : len d.ws ≤ maxLen
  wz : ∀ i, i < len d.ws → (sth d.ws i).size ≤ maxLen
  ps : len d.ps ≤ maxLen
  pz : ∀ i, i < len d.ps → (sth d.ps i).size ≤ maxLen
  root : d.root.size ≤ maxLen
structure RvX where
  d : RevD
  wa : Option Addr
  wc : Nat
  pa : Option Addr
  pc : Nat
def RvX.cells (x : RvX) : List Value := [.int .u64 x.d.pos, .int .u64 x.d.L, .bool x.d.signed, .int .u64 x.d.idx, .slice x.wa (len x.d.ws) x.wc, .slice x.pa (len x.d.ps) x.pc, .string x.d.root, .int .u64 x.d.wt, .int .u64 x.d.first, .int .u64 x.d.life, .int .u64 x.d.keys]
end
end Go.Proofs.YtihiaopilnjonaaGreatDoor
namespace Go.Proofs.YtihiaopilnjonaaGreatDoor
open Go.RowKit
set_option linter.unusedSimpArgs false
set_option linter.unusedVariables false
def cut40 (x : ByteArray) : ByteArray := x.extract 0 (min x.size 40)
def textsP (l : List ByteArray) (n : Nat) : List ByteArray := (l.take n).map cut40
theorem textsP_len (l : List ByteArray) (n : Nat) : len (textsP l n) = min (len l) n := by unfold textsP; simp only [len, List.length_map, List.length_take]; omega
def CWS (w : World) : CP := fun b o x => w.cell? ⟨b, o, none⟩ = some x ∧ ∃ cs, w.heap[b]? = some (.cells cs 9 (0, 0))
theorem strs_of_own {w : World} {base n : Nat} {v : Value} {l : List ByteArray} (h : w.ownsRow base 9 1 v n (l.map Value.string)) : ∃ a c, v = .slice a (len l) c ∧ StrsC (CWS w) a l ∧ ∀ b off, a = some ⟨b, off, none⟩ → base ≤ b := by
  obtain ⟨a, c, rfl, h1⟩ := own_txs h
  refine ⟨a, c, rfl, fun i hi => ?_, fun b off e => (h.lt b (by rw [e]; rfl)).1⟩
  obtain ⟨b, off, rfl, hc⟩ := h1 i hi
  obtain ⟨cs, hcs⟩ := own_type h b rfl
  exact ⟨b, off, rfl, hc, cs, hcs⟩
end Go.Proofs.YtihiaopilnjonaaGreatDoor
namespace Go.Proofs.YtihiaopilnjonaaGreatDoor
open Go.RowKit
set_option linter.unusedSimpArgs false
set_option linter.unusedVariables false
theorem StrsC.low {w w' : World} {a : Option Addr} {l : List ByteArray} (h : StrsC (CW w) a l) (hb : Below w.heap.size w w') : StrsC (CW w') a l := h.imp fun b o x hc => (hb.cell (p := ⟨b, o, none⟩) (lt_of_cell hc)).trans hc
theorem Strs.cw {B : Nat} {w : World} {a : Option Addr} {l : List ByteArray} (h : Strs B w a l) : StrsC (CW w) a l := StrsC.imp (C := CellAt B w) (fun _ _ _ h => h.cell) h
end Go.Proofs.YtihiaopilnjonaaGreatDoor
namespace Go.Proofs.YtihiaopilnjonaaGreatDoor
open Go.RowKit
set_option linter.unusedSimpArgs false
set_option linter.unusedVariables false
def recV (r : Except Flt Rcd) (x0 : Rcd) : Rcd := match r with | .ok x => x | .error _ => x0
def fltV (r : Except Flt Rcd) : Flt := match r with | .ok _ => (0, 0) | .error f => f
def NeV (r : Except Flt Rcd) : Prop := match r with | .ok _ => True | .error f => f.1 ≠ 0
def Tells (B : Nat) (ev : Value) (r : Except Flt Rcd) (w : World) : Prop := NeV r → ∀ w', Below w.heap.size w w' → TE7 B w' → Calls Tryz.prog 31 #[ev, .agg #[.int .i64 (fltV r).1, .int .i64 (fltV r).2]] w' fun e w'' => e = .returned (.bool true) ∧ Below w'.heap.size w' w''
theorem tells_ok (B : Nat) (x : Rcd) (w : World) : Tells B .nilIface (.ok x) w := fun _ w' _ _ => told_none w'
theorem tells_no {B fb : Nat} {f : Flt} {w : World} (h : FltB w fb f.1 f.2) : Tells B (.iface 127 (.pointer (some ⟨fb, 0, none⟩))) (.error f) w := fun hn w' hb ht =>
  told_fault fb f.1 f.2 w' ht.e (h.below hb) hn (Nat.lt_of_lt_of_le ht.g ht.s)
theorem Tells.below {B : Nat} {ev : Value} {r : Except Flt Rcd} {w w' : World} (h : Tells B ev r w) (hb : Below w.heap.size w w') : Tells B ev r w' := fun hn w'' hb2 ht => h hn w'' (bnext hb hb2) ht
end Go.Proofs.YtihiaopilnjonaaGreatDoor
namespace Go.Proofs.YtihiaopilnjonaaGreatDoor
open Go.RowKit
set_option linter.unusedSimpArgs false
set_option linter.unusedVariables false
theorem textOf_yes {fs : List FSpec} (h : allMay fs = true) : TextOf fs = layP fs := by unfold TextOf; rw [h]; rfl
theorem codeOf_yes {fs : List FSpec} (h : allMay fs = true) : CodeOf fs = 0 := by unfold CodeOf; rw [h]; rfl
def EvOf (r : Except Flt Rcd) (ev : Value) : Prop := match r with
  | .ok _ => ev = .nilIface
  | .error _ => ∃ fb, ev = .iface 127 (.pointer (some ⟨fb, 0, none⟩))
theorem TE7.up {B : Nat} {w : World} (h : TE7 B w) : PTab w.heap.size w := ⟨Nat.lt_of_lt_of_le h.p.glob h.p.size, Nat.le_refl _, fun k hk => by
  obtain ⟨tb, tq, rc, h1, h2, h3⟩ := h.p.tab k hk
  exact ⟨tb, tq, rc, Nat.lt_of_lt_of_le h1 h.p.size, h2, h3⟩⟩
theorem StrsC.at {w : World} {a : Option Addr} {l : List ByteArray} (h : StrsC (CW w) a l) : Strs w.heap.size w a l := h.imp fun b o x hc => CW.at hc
def NmsC (C : CP) (a : Option Addr) (l : List Int) : Prop := ∀ i, i < len l → ∃ b off, a = some ⟨b, off, none⟩ ∧ C b (off + i) (.int .u64 (nth l i))
theorem NmsC.imp {C D : CP} (h : ∀ b o x, C b o x → D b o x) {a : Option Addr} {l : List Int} (hs : NmsC C a l) : NmsC D a l := fun i hi => by
  obtain ⟨b, off, e, hc⟩ := hs i hi; exact ⟨b, off, e, h _ _ _ hc⟩
theorem cw_low {w w' : World} (hb : Below w.heap.size w w') (b o : Nat) (x : Value) (hc : CW w b o x) : CW w' b o x := (hb.cell (p := ⟨b, o, none⟩) (lt_of_cell hc)).trans hc
theorem holds_strs {rb tb : Nat} {w : World} {a : Option Addr} {c n : Nat} {d : DV} (hk : kindD d = 3) (h : HoldsD rb tb w (.slice a n c) d) : StrsC (CW w) a d.l := by
  cases d <;> first | cases hk | skip
  obtain ⟨a', c', e, _, _, ht⟩ := h
  cases e
  exact fun i hi => ht.1 i hi
theorem holds_nums {rb tb : Nat} {w : World} {a : Option Addr} {c n : Nat} {d : DV} (hk : kindD d = 4) (h : HoldsD rb tb w (.slice a n c) d) : NmsC (CW w) a d.ns := by
  cases d <;> first | cases hk | skip
  obtain ⟨a', c', e, _, _, ht⟩ := h
  cases e
  exact fun i hi => ht.1 i hi
theorem holds_revs {rb tb : Nat} {w : World} {a : Option Addr} {c n : Nat} {d : DV} (hk : kindD d = 5) (h : HoldsD rb tb w (.slice a n c) d) : RvsC (CW w) a d.rs := by
  cases d <;> first | cases hk | skip
  obtain ⟨a', c', e, _, _, rs, hl, hr, hi⟩ := h
  cases e
  intro i hi'
  obtain ⟨b, off, e, hc⟩ := hr i (by rw [hl]; exact hi')
  have h := hi i hi'
  refine ⟨b, off, e, ?_⟩
  show RevCl (CW w) b (off + i * 11) (lth _ i)
  have q0 := hc.c0
  rw [h.pos] at q0
  have q1 := hc.c1
  rw [h.L] at q1
  have q2 := hc.c2
  rw [h.signed] at q2
  have q3 := hc.c3
  rw [h.idx] at q3
  have q4 := hc.c4
  rw [h.wn] at q4
  have q5 := hc.c5
  rw [h.pn] at q5
  have q6 := hc.c6
  rw [h.root] at q6
  have q7 := hc.c7
  rw [h.wt] at q7
  have q8 := hc.c8
  rw [h.first] at q8
  have q9 := hc.c9
  rw [h.life] at q9
  have q10 := hc.c10
  rw [h.keys] at q10
  exact ⟨q0, q1, q2, q3, ⟨_, _, q4, fun j hj => h.ws.1 j hj⟩, ⟨_, _, q5, fun j hj => h.ps.1 j hj⟩, q6, q7, q8, q9, q10⟩
theorem strsC_nil (C : CP) (a : Option Addr) : StrsC C a [] := fun i hi => absurd hi (by simp [len])
theorem rqCert_any (B : Nat) (s : ByteArray) (w : World) (h : TE7 B w) (hs : s.size ≤ 9223372036854775807) : Calls Tryz.prog 50 #[.string s] w fun e w' => ∃ ev a2 c2 a3 c3 a4 c4 a5 c5, e = .returned (.tuple #[.agg (cellsCert (recV (readR s (certGs s) cert0) cert0) a2 c2 a3 c3 a4 c4 a5 c5), ev]) ∧ EvOf (readR s (certGs s) cert0) ev ∧ Tells B ev (readR s (certGs s) cert0) w' ∧ RvsC (CW w') a2 (recV (readR s (certGs s) cert0) cert0 2).rs ∧ NmsC (CW w') a3 (recV (readR s (certGs s) cert0) cert0 3).ns ∧ StrsC (CW w') a4 (recV (readR s (certGs s) cert0) cert0 4).l ∧ StrsC (CW w') a5 (recV (readR s (certGs s) cert0) cert0 5).l ∧ Below w.heap.size w w' := by
  refine (reaCert_any B s w h.t h.e h.s h.g hs).mono ?_
  rintro e w' ⟨hb, hh⟩
  cases hr : readR s (certGs s) cert0 with
  | error f =>
    rw [hr] at hh
    obtain ⟨fb, he, hf⟩ := hh
    exact ⟨_, none, 0, none, 0, none, 0, none, 0, he, ⟨fb, rfl⟩, tells_no hf, fun i hi => absurd hi (by simp [len, recV, cert0, DV.rs]), fun i hi => absurd hi (by simp [len, recV, cert0, DV.ns]), strsC_nil _ _, strsC_nil _ _, hb⟩
  | ok y =>
    rw [hr] at hh
    obtain ⟨hk, a2, c2, a3, c3, a4, c4, a5, c5, ⟨rb, tb, hL⟩, he⟩ := hh
    exact ⟨_, a2, c2, a3, c3, a4, c4, a5, c5, he, rfl, tells_ok B y w', holds_revs (hk 2) hL.1, holds_nums (hk 3) hL.2.1, holds_strs (hk 4) hL.2.2.1, holds_strs (hk 5) hL.2.2.2, hb⟩
end Go.Proofs.YtihiaopilnjonaaGreatDoor
namespace Go.Proofs.YtihiaopilnjonaaGreatDoor
open Go.RowKit
set_option linter.unusedSimpArgs false
set_option linter.unusedVariables false
def slotCut (d : RevD) : RevD := { d with ws := textsP d.ws 70, ps := textsP d.ps 20 }
def certRs (l : List RevD) : List RevD := (l.take 8).map slotCut
theorem certRs_len (l : List RevD) : len (certRs l) = min (len l) 8 := by unfold certRs; simp only [len, List.length_map, List.length_take]; omega
theorem certRs_at (l : List RevD) {i : Nat} (hi : i < len (certRs l)) : lth (certRs l) i = slotCut (lth l i) := by
  have hl := certRs_len l
  have h' : i < ((l.take 8).map slotCut).length := hi
  have h2 : i < l.length := by rw [hl, len_eq] at hi; omega
  show lth ((l.take 8).map slotCut) i = _
  rw [lth_eq _ i h', List.getElem_map, List.getElem_take, lth_eq l i h2]
theorem CWS.cw {w : World} {b o : Nat} {x : Value} (h : CWS w b o x) : CW w b o x := h.1
def CW2 (n : Nat) (w : World) : CP := fun b o x => CW w b o x ∧ (n ≤ b ∨ ∃ cs, w.heap[b]? = some (.cells cs 9 (0, 0)))
theorem CW2.cw {n : Nat} {w : World} {b o : Nat} {x : Value} (h : CW2 n w b o x) : CW w b o x := h.1
theorem CW2.set {n : Nat} {w : World} {b o t j : Nat} {x : Value} {cs : Array Value} {T : TypeId} {fr : Nat × Nat} (h : CW2 n w b o x) (ht : t < n) (hb : w.heap[t]? = some (.cells cs T fr)) (hT : T ≠ 9) (v : Value) : CW2 n (w.setCell ⟨t, j, none⟩ v) b o x := by
  have hne : b ≠ t := fun e => by
    subst e
    rcases h.2 with h2 | ⟨cs', h2⟩
    · omega
    · rw [hb] at h2; cases h2; exact hT rfl
  have hk : (w.setCell ⟨t, j, none⟩ v).heap[b]? = w.heap[b]? := Below.heap_setCell _ _ _ _ hne
  exact ⟨(World.cell?_of_block (a := ⟨b, o, none⟩) hk).trans h.1, h.2.imp id (fun ⟨cs', h2⟩ => ⟨cs', hk.trans h2⟩)⟩
def KeepS (w w' : World) : Prop := ∀ (b : Nat) (cs : Array Value), w.heap[b]? = some (.cells cs 9 (0, 0)) → w'.heap[b]? = w.heap[b]?
theorem KeepS.trans {a b c : World} (h : KeepS a b) (k : KeepS b c) : KeepS a c := fun i cs hi => (k i cs ((h i cs hi).trans hi)).trans (h i cs hi)
theorem KeepS.low {w w' : World} (hb : Below w.heap.size w w') : KeepS w w' := fun b cs h => hb.block b (lt_of_block h)
theorem KeepS.set {w : World} {t j : Nat} {cs : Array Value} {T : TypeId} {fr : Nat × Nat} (h : w.heap[t]? = some (.cells cs T fr)) (hT : T ≠ 9) (v : Value) : KeepS w (w.setCell ⟨t, j, none⟩ v) := fun b cs' hb => Below.heap_setCell _ _ _ _ (show b ≠ t from fun e => by subst e; rw [h] at hb; cases hb; exact hT rfl)
theorem KeepS.row {w w' : World} {v : Value} {base n k : Nat} {T : TypeId} {xs : List Value} (ho : w.ownsRow base T k v n xs) (hT : T ≠ 9) (hE : ExtB v.ownBlock w w') : KeepS w w' := fun b cs hb => hE.block b (lt_of_block hb) (fun e => by
  obtain ⟨cs', h⟩ := own_type ho b e.symm
  rw [h] at hb; cases hb; exact hT rfl)
end Go.Proofs.YtihiaopilnjonaaGreatDoor
namespace Go.Proofs.YtihiaopilnjonaaGreatDoor
open Go.RowKit
set_option linter.unusedSimpArgs false
set_option linter.unusedVariables false
theorem msgSz {hd pt : ByteArray} {cnt prv fst lst : Int} (h : allMay (msgSpecs hd pt cnt prv fst lst) = true) : (layP (msgSpecs hd pt cnt prv fst lst)).size ≤ 1000 := by
  have h1 : hd.size = 32 := of_decide_eq_true (may_all h ⟨⟨#[104]⟩, true, false, decide (hd.size = 32), binP hd⟩ (by unfold msgSpecs; simp))
  have h2 : pt.size = 32 := of_decide_eq_true (may_all h ⟨⟨#[118]⟩, true, false, decide (pt.size = 32), binP pt⟩ (by unfold msgSpecs; simp))
  have b1 := binP_len hd
  have b2 := binP_len pt
  refine Nat.le_trans (layP_size _ 41 fun f hf => ?_) (show 9 + 6 * 51 ≤ 1000 by decide)
  unfold msgSpecs at hf
  simp only [List.mem_cons, List.not_mem_nil, or_false] at hf
  rcases hf with rfl | rfl | rfl | rfl | rfl | rfl
  · exact ⟨Nat.le_refl _, Nat.le_trans (numP_size _) (by decide)⟩
  · exact ⟨Nat.le_refl _, by show (binP hd).size ≤ 41; omega⟩
  · exact ⟨Nat.le_refl _, Nat.le_trans (numP_size _) (by decide)⟩
  · exact ⟨Nat.le_refl _, Nat.le_trans (numP_size _) (by decide)⟩
  · exact ⟨Nat.le_refl _, by show (binP pt).size ≤ 41; omega⟩
  · exact ⟨Nat.le_refl _, Nat.le_trans (numP_size _) (by decide)⟩
theorem headerSz {rnd : Int} {prev txns seed : ByteArray} (h : allMay (headerSpecs rnd prev txns seed) = true) : (layP (headerSpecs rnd prev txns seed)).size ≤ 1000 := by
  have h1 : prev.size = 32 := of_decide_eq_true (may_all h ⟨⟨#[112]⟩, true, false, decide (prev.size = 32), binP prev⟩ (by unfold headerSpecs; simp))
  have h2 : seed.size = 32 := of_decide_eq_true (may_all h ⟨⟨#[115]⟩, true, false, decide (seed.size = 32), binP seed⟩ (by unfold headerSpecs; simp))
  have h3 : txns.size = 32 := of_decide_eq_true (may_all h ⟨⟨#[116]⟩, true, false, decide (txns.size = 32), binP txns⟩ (by unfold headerSpecs; simp))
  have b1 := binP_len prev
  have b2 := binP_len seed
  have b3 := binP_len txns
  refine Nat.le_trans (layP_size _ 41 fun f hf => ?_) (show 9 + 4 * 51 ≤ 1000 by decide)
  unfold headerSpecs at hf
  simp only [List.mem_cons, List.not_mem_nil, or_false] at hf
  rcases hf with rfl | rfl | rfl | rfl
  · exact ⟨Nat.le_refl _, by show (binP prev).size ≤ 41; omega⟩
  · exact ⟨Nat.le_refl _, Nat.le_trans (numP_size _) (by decide)⟩
  · exact ⟨Nat.le_refl _, by show (binP seed).size ≤ 41; omega⟩
  · exact ⟨Nat.le_refl _, by show (binP txns).size ≤ 41; omega⟩
end Go.Proofs.YtihiaopilnjonaaGreatDoor
namespace Go.Proofs.YtihiaopilnjonaaGreatDoor
open Go.RowKit
set_option linter.unusedSimpArgs false
set_option linter.unusedVariables false
structure CertArg (w : World) (root : ByteArray) (sg : Int) (a2 : Option Addr) (rs : List RevD) (a3 : Option Addr) (k3 : Nat) (cs : List Int) (a4 : Option Addr) (sp : List ByteArray) (a5 : Option Addr) (pp : List ByteArray) : Prop where
  root : root.size ≤ maxLen
  sg : U64i sg
  r : RvsC (CW w) a2 rs
  rn : len rs ≤ maxLen
  ro : ∀ i, i < len rs → RvOp (lth rs i)
  c : NmsC (CW w) a3 cs
  cn : len cs ≤ k3
  ck : k3 ≤ maxLen
  cu : ∀ i, i < len cs → U64i (nth cs i)
  s : StrsC (CW w) a4 sp
  sn : len sp ≤ maxLen
  p : StrsC (CW w) a5 pp
  pn : len pp ≤ maxLen
theorem maxLen_le {n : Nat} (h : n ≤ maxLen) : n ≤ 9223372036854775807 := by unfold maxLen at h; omega
theorem CertArg.low {w w' : World} {root : ByteArray} {sg : Int} {a2 : Option Addr} {rs : List RevD} {a3 : Option Addr} {k3 : Nat} {cs : List Int} {a4 : Option Addr} {sp : List ByteArray} {a5 : Option Addr} {pp : List ByteArray} (h : CertArg w root sg a2 rs a3 k3 cs a4 sp a5 pp) (hb : Below w.heap.size w w') : CertArg w' root sg a2 rs a3 k3 cs a4 sp a5 pp :=
  ⟨h.root, h.sg, h.r.imp (cw_low hb), h.rn, h.ro, h.c.imp (cw_low hb), h.cn, h.ck, h.cu, h.s.imp (cw_low hb), h.sn, h.p.imp (cw_low hb), h.pn⟩
structure CertFit (root : ByteArray) (sg : Int) (rs : List RevD) (cs : List Int) (sp pp : List ByteArray) : Prop where
  bd : CtBd root sg rs cs sp pp
  ok : CertOkD sg rs cs
theorem textsP_le (l : List ByteArray) (n : Nat) (hn : n ≤ 100000) : len (textsP l n) ≤ 100000 := by rw [textsP_len]; omega
theorem rvbd_cut {d : RevD} (h : RvOp d) : RvBd (slotCut d) := ⟨h.pos, h.L, h.idx, h.wt, h.first, h.life, h.keys, textsP_le _ _ (by decide), textsP_le _ _ (by decide), maxLen_le h.root⟩
theorem rvok_of {d : RevD} (h : RvBd d) : RvOk d := fun o => by
  unfold revC
  split <;> first | exact h.pos | exact h.L | trivial | exact h.idx | exact h.wt | exact h.first | exact h.life | exact h.keys
theorem fit_of {root : ByteArray} {sg : Int} {rs : List RevD} {cs : List Int} {sp pp : List ByteArray} (h : CtBd root sg rs cs sp pp) : CertFit root sg rs cs sp pp := by
  refine ⟨h, h.sg, fun n hn => ?_, fun r hr => ?_⟩
  · obtain ⟨i, hi, rfl⟩ := List.getElem_of_mem hn
    rw [← nth_eq cs i hi]; exact h.cs i hi
  · obtain ⟨i, hi, rfl⟩ := List.getElem_of_mem hr
    rw [← lth_eq rs i hi]; exact rvok_of (h.rs i hi)
theorem CertArg.fit {w : World} {root : ByteArray} {sg : Int} {a2 : Option Addr} {rs : List RevD} {a3 : Option Addr} {k3 : Nat} {cs : List Int} {a4 : Option Addr} {sp : List ByteArray} {a5 : Option Addr} {pp : List ByteArray} (h : CertArg w root sg a2 rs a3 k3 cs a4 sp a5 pp) : CertFit root sg (certRs rs) (cs.take 650) (textsP sp 20) (textsP pp 20) := by
  refine fit_of ⟨maxLen_le h.root, h.sg, by rw [certRs_len]; omega, fun i hi => ?_, ?_, fun i hi => ?_, textsP_le _ _ (by decide), textsP_le _ _ (by decide)⟩
  · rw [certRs_at rs hi]
    exact rvbd_cut (h.ro i (by rw [certRs_len] at hi; omega))
  · simp only [len, List.length_take]; omega
  · have hi' : i < (cs.take 650).length := hi
    have hil : i < cs.length := by rw [List.length_take] at hi'; omega
    rw [nth_eq _ i hi', List.getElem_take, ← nth_eq cs i hil]
    exact h.cu i (by rw [len_eq]; exact hil)
theorem wcert_now (B : Nat) {root : ByteArray} {sg : Int} {rs : List RevD} {cs : List Int} {sp pp : List ByteArray} (hf : CertFit root sg rs cs sp pp) (a2 a3 a4 a5 : Option Addr) (k2 k3 k4 k5 : Nat) (w : World) (h : TE7 B w) (s2 : RvsC (CW w) a2 rs) (s3 : NmsC (CW w) a3 cs) (s4 : StrsC (CW w) a4 sp) (s5 : StrsC (CW w) a5 pp) :
    Calls Tryz.prog 48 #[.agg #[.string root, .int .u64 sg, .slice a2 (len rs) k2, .slice a3 (len cs) k3, .slice a4 (len sp) k4, .slice a5 (len pp) k5]] w (LaidIs (certSpecs root sg rs cs sp pp) w) :=
  wcert2_any w.heap.size root sg rs cs sp pp a2 a3 a4 a5 k2 k3 k4 k5 w h.up (s2.imp fun _ _ _ h => CW.at h) (s3.imp fun _ _ _ h => CW.at h) s4.at s5.at hf.bd (fun h => Nat.le_trans (certSz h) (by decide))
end Go.Proofs.YtihiaopilnjonaaGreatDoor
