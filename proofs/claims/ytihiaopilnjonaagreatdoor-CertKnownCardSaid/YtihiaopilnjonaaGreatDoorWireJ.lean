/- Package wire: a signature's fields. -/
import Derived.Test.YtihiaopilnjonaaGreatDoorWireI
namespace Go.Proofs.YtihiaopilnjonaaGreatDoor
open Go.RowKit
set_option linter.unusedSimpArgs false
set_option linter.unusedVariables false

theorem wp_of_callP {P : Program} {o : Oper} {a : Act} {w : World} {f : FuncId} {args : Array Value} {R : Value → World → Prop} {K : Act → World → Prop} {Q : Exit → Act → World → Prop} (h : (execOp a.eval o).run P w = .ok (.enter f args) w)
    (hc : Calls P f args w (fun e w' => ∃ v, e = .returned v ∧ R v w')) (hK : ∀ v w', R v w' → K (a.put o.dst v) w') : o.wp P a w K Q := by
  unfold Oper.wp; rw [h]
  exact hc.mono fun e w' ⟨v, he, hR⟩ => by subst he; exact hK v w' hR
/-- A field's meaning, with room for B. -/
def FIn (B : Nat) (w : World) (v : FVal) (f : FSpec) : Prop := B ≤ w.heap.size ∧ FSem B w v f
theorem FIn.below {B : Nat} {w w' : World} {v : FVal} {f : FSpec} (h : FIn B w v f) (hb : Below w.heap.size w w') : FIn B w' v f := ⟨Nat.le_trans h.1 hb.size, h.2.later (Keep8.of_below hb h.1)⟩
/-- What a field's maker hands back. -/
def MadeF (B : Nat) (f : FSpec) (w : World) (e : Ending) (w' : World) : Prop := ∃ u, e = .returned u ∧ ∃ v : FVal, u = v.val ∧ FIn B w' v f ∧ Below w.heap.size w w'
theorem madeF {B : Nat} {f : FSpec} {w w' : World} {e : Ending} (hB : B ≤ w.heap.size) (h : ∃ v : FVal, e = .returned v.val ∧ FSem B w' v f ∧ Below w.heap.size w w') : MadeF B f w e w' := by
  obtain ⟨v, he, hs, hb⟩ := h
  exact ⟨v.val, he, v, rfl, ⟨Nat.le_trans hB hb.size, hs⟩, hb⟩

/-- A signature, as it lies. -/
structure SigAt (B : Nat) (w : World) (b o : Nat) (idx : Int) (wots path : List ByteArray) : Prop where
  c0 : CellAt B w b o (.int .u64 idx)
  c1 : ∃ a c, CellAt B w b (o + 1) (.slice a (len wots) c) ∧ Strs B w a wots
  c2 : ∃ a c, CellAt B w b (o + 2) (.slice a (len path) c) ∧ Strs B w a path
theorem SigAt.below {B : Nat} {w w' : World} {b o : Nat} {idx : Int} {wots path : List ByteArray} (h : SigAt B w b o idx wots path) (hb : Below w.heap.size w w') : SigAt B w' b o idx wots path := by
  obtain ⟨h0, ⟨a1, k1, h1, s1⟩, ⟨a2, k2, h2, s2⟩⟩ := h
  exact ⟨h0.below hb, ⟨a1, k1, h1.below hb, s1.below hb⟩, ⟨a2, k2, h2.below hb, s2.below hb⟩⟩
def sigSpecs (idx : Int) (wots path : List ByteArray) : List FSpec :=
  [⟨⟨#[105]⟩, false, idx == 0, true, numP idx⟩, ⟨⟨#[112]⟩, false, decide (len path = 0), mayB path 16, dgsP path⟩, ⟨⟨#[118]⟩, false, decide (len wots = 0), mayB wots 67, dgsP wots⟩]
/-- What is handed back: a row of fields that mean these. -/
def RowOf (B : Nat) (specs : List FSpec) (w : World) (e : Ending) (w' : World) : Prop :=
  ∃ g c, ∃ l : List FVal, e = .returned (.slice (some ⟨g, 0, none⟩) (len l) c) ∧ FRow w' g l ∧ FSems B w' l specs ∧ Below w.heap.size w w'

set_option maxRecDepth 100000 in
set_option maxHeartbeats 4000000 in
theorem ofsig_any (B sb so : Nat) (idx : Int) (wots path : List ByteArray) (w : World) (hB : B ≤ w.heap.size) (h : SigAt B w sb so idx wots path) (h0 : 0 ≤ idx) (h1 : idx ≤ 18446744073709551615) (hw : len wots ≤ 100000) (hp : len path ≤ 100000) :
    Calls Tryz.prog 108 #[.pointer (some ⟨sb, so, none⟩)] w (RowOf B (sigSpecs idx wots path) w) := by
  obtain ⟨S0, hS0⟩ : ∃ S0 : FSpec, (⟨⟨#[105]⟩, false, idx == 0, true, numP idx⟩ : FSpec) = S0 := ⟨_, rfl⟩
  obtain ⟨S1, hS1⟩ : ∃ S1 : FSpec, (⟨⟨#[112]⟩, false, decide (len path = 0), mayB path 16, dgsP path⟩ : FSpec) = S1 := ⟨_, rfl⟩
  obtain ⟨S2, hS2⟩ : ∃ S2 : FSpec, (⟨⟨#[118]⟩, false, decide (len wots = 0), mayB wots 67, dgsP wots⟩ : FSpec) = S2 := ⟨_, rfl⟩
  have HSP : Hid (sigSpecs idx wots path = [S0, S1, S2]) := Lib.hid (by unfold sigSpecs; rw [hS0, hS1, hS2])
  obtain ⟨a1, k1, hc1, hs1⟩ := h.c1
  obtain ⟨a2, k2, hc2, hs2⟩ := h.c2
  have HS0 : Hid (∀ w', Below w.heap.size w w' → Calls Tryz.prog 109 #[.string ⟨#[105]⟩, .pointer (some ⟨sb, so, none⟩)] w' (MadeF B S0 w')) := Lib.hid (fun w' hb => by
    rw [← hS0]
    exact (fnum_any B ⟨#[105]⟩ sb so idx w' (by decide) (Nat.le_trans hB hb.size) (h.c0.below hb) h0 h1).mono (fun e w'' hh => madeF (Nat.le_trans hB hb.size) hh))
  have HS1 : Hid (∀ w', Below w.heap.size w w' → Calls Tryz.prog 145 #[.string ⟨#[112]⟩, .pointer (some ⟨sb, so + 2, none⟩), .int .i64 16] w' (MadeF B S1 w')) := Lib.hid (fun w' hb => by
    rw [← hS1]
    exact (fdigests_any B ⟨#[112]⟩ sb (so + 2) k2 16 a2 path w' (by decide) (Nat.le_trans hB hb.size) (hc2.below hb) (hs2.below hb) hp (by decide)).mono (fun e w'' hh => madeF (Nat.le_trans hB hb.size) hh))
  have HS2 : Hid (∀ w', Below w.heap.size w w' → Calls Tryz.prog 145 #[.string ⟨#[118]⟩, .pointer (some ⟨sb, so + 1, none⟩), .int .i64 67] w' (MadeF B S2 w')) := Lib.hid (fun w' hb => by
    rw [← hS2]
    exact (fdigests_any B ⟨#[118]⟩ sb (so + 1) k1 67 a1 wots w' (by decide) (Nat.le_trans hB hb.size) (hc1.below hb) (hs1.below hb) hw (by decide)).mono (fun e w'' hh => madeF (Nat.le_trans hB hb.size) hh))
  clear h hc1 hs1 hc2 hs2 hS0 hS1 hS2
  go_enter Tryz.func108, Tryz.ntmps108
  go_upto_region 1 with fail
  --REGION sextant/wire.ofSig 1 ofsig
  refine wp_region_tail 12 1000 (none) (phis [fun u _ => u = (.pointer (some ⟨sb, so, none⟩)), fun u _ => u = (.pointer (some ⟨sb, so, none⟩)), fun u _ => u = (.pointer (some ⟨sb, so, none⟩)), fun u w' => ∃ v : FVal, u = v.val ∧ FIn B w' v S0, fun u _ => u = (.pointer (some ⟨sb, so, none⟩)), fun u _ => u = (.pointer (some ⟨sb, so, none⟩)), fun u _ => u = (.pointer (some ⟨sb, so + 2, none⟩)), fun u w' => ∃ v : FVal, u = v.val ∧ FIn B w' v S1, fun u _ => u = (.pointer (some ⟨sb, so, none⟩)), fun u _ => u = (.pointer (some ⟨sb, so, none⟩)), fun u _ => u = (.pointer (some ⟨sb, so + 1, none⟩)), fun u w' => ∃ v : FVal, u = v.val ∧ FIn B w' v S2]) rfl (by kernel_rfl) (by kernel_rfl) (mono_of ⟨mono_eq, mono_eq, mono_eq, ?m3, mono_eq, mono_eq, mono_eq, ?m7, mono_eq, mono_eq, mono_eq, ?m11, trivial⟩) (steps_of 12 ⟨?s0, ?s1, ?s2, ?s3, ?s4, ?s5, ?s6, ?s7, ?s8, ?s9, ?s10, ?s11, trivial⟩) ?_
  case m3 =>
    exact ⟨fun u w1 w2 h ⟨v, h1, h2⟩ => ⟨v, h1, h2.below h⟩, fun _ u w1 w2 h ⟨v, h1, h2⟩ => ⟨v, h1, h2.below (extB_none h)⟩⟩
  case m7 =>
    exact ⟨fun u w1 w2 h ⟨v, h1, h2⟩ => ⟨v, h1, h2.below h⟩, fun _ u w1 w2 h ⟨v, h1, h2⟩ => ⟨v, h1, h2.below (extB_none h)⟩⟩
  case m11 =>
    exact ⟨fun u w1 w2 h ⟨v, h1, h2⟩ => ⟨v, h1, h2.below h⟩, fun _ u w1 w2 h ⟨v, h1, h2⟩ => ⟨v, h1, h2.below (extB_none h)⟩⟩
  case s0 =>
    refine step_val (v := (.pointer (some ⟨sb, so, none⟩))) (fun av wv hE hS hO hD => ?_) (fun _ => rfl)
    have h0 : av.eval (.tmp 0) = (.pointer (some ⟨sb, so, none⟩)) := hO.2.2 0 rfl
    have f0 := (ev_form av 0).symm.trans h0
    refine ⟨rfl, ?_⟩
    simp [go_sem, f0]
  case s1 =>
    refine step_val (v := (.pointer (some ⟨sb, so, none⟩))) (fun av wv hE hS hO hD => ?_) (fun _ => rfl)
    have d3 : av.eval (.tmp 3) = (.pointer (some ⟨sb, so, none⟩)) := hD.1 rfl _ rfl
    have f3 := (ev_form av 3).symm.trans d3
    refine ⟨rfl, ?_⟩
    simp [go_sem, f3]
  case s2 =>
    refine step_val (v := (.pointer (some ⟨sb, so, none⟩))) (fun av wv hE hS hO hD => ?_) (fun _ => rfl)
    have d4 : av.eval (.tmp 4) = (.pointer (some ⟨sb, so, none⟩)) := hD.1 rfl _ rfl
    have f4 := (ev_form av 4).symm.trans d4
    refine ⟨rfl, ?_⟩
    simp [go_sem, f4]
  case s3 =>
    refine step_wp (fun av wv hE hS hO hD => ?_)
    have d5 : av.eval (.tmp 5) = (.pointer (some ⟨sb, so, none⟩)) := hD.1 rfl _ rfl
    have f5 := (ev_form av 5).symm.trans d5
    refine ⟨rfl, ?_⟩
    refine wp_of_callP (f := 109) (args := #[.string ⟨#[105]⟩, .pointer (some ⟨sb, so, none⟩)]) (by simp [go_sem, f5]) (HS0.out wv (of_drew hE)) (fun u w2 ⟨v, hu, hs, hb⟩ => ⟨u, rfl, es_of_ext hb, v, hu, hs⟩)
  case s4 =>
    refine step_val (v := (.pointer (some ⟨sb, so, none⟩))) (fun av wv hE hS hO hD => ?_) (fun _ => rfl)
    have h0 : av.eval (.tmp 0) = (.pointer (some ⟨sb, so, none⟩)) := hO.2.2 0 rfl
    have f0 := (ev_form av 0).symm.trans h0
    refine ⟨rfl, ?_⟩
    simp [go_sem, f0]
  case s5 =>
    refine step_val (v := (.pointer (some ⟨sb, so, none⟩))) (fun av wv hE hS hO hD => ?_) (fun _ => rfl)
    have d7 : av.eval (.tmp 7) = (.pointer (some ⟨sb, so, none⟩)) := hD.1 rfl _ rfl
    have f7 := (ev_form av 7).symm.trans d7
    refine ⟨rfl, ?_⟩
    simp [go_sem, f7]
  case s6 =>
    refine step_val (v := (.pointer (some ⟨sb, so + 2, none⟩))) (fun av wv hE hS hO hD => ?_) (fun _ => rfl)
    have d8 : av.eval (.tmp 8) = (.pointer (some ⟨sb, so, none⟩)) := hD.1 rfl _ rfl
    have f8 := (ev_form av 8).symm.trans d8
    refine ⟨rfl, ?_⟩
    simp [go_sem, f8]
  case s7 =>
    refine step_wp (fun av wv hE hS hO hD => ?_)
    have d9 : av.eval (.tmp 9) = (.pointer (some ⟨sb, so + 2, none⟩)) := hD.1 rfl _ rfl
    have f9 := (ev_form av 9).symm.trans d9
    refine ⟨rfl, ?_⟩
    refine wp_of_callP (f := 145) (args := #[.string ⟨#[112]⟩, .pointer (some ⟨sb, so + 2, none⟩), .int .i64 16]) (by simp [go_sem, f9]) (HS1.out wv (of_drew hE)) (fun u w2 ⟨v, hu, hs, hb⟩ => ⟨u, rfl, es_of_ext hb, v, hu, hs⟩)
  case s8 =>
    refine step_val (v := (.pointer (some ⟨sb, so, none⟩))) (fun av wv hE hS hO hD => ?_) (fun _ => rfl)
    have h0 : av.eval (.tmp 0) = (.pointer (some ⟨sb, so, none⟩)) := hO.2.2 0 rfl
    have f0 := (ev_form av 0).symm.trans h0
    refine ⟨rfl, ?_⟩
    simp [go_sem, f0]
  case s9 =>
    refine step_val (v := (.pointer (some ⟨sb, so, none⟩))) (fun av wv hE hS hO hD => ?_) (fun _ => rfl)
    have d11 : av.eval (.tmp 11) = (.pointer (some ⟨sb, so, none⟩)) := hD.1 rfl _ rfl
    have f11 := (ev_form av 11).symm.trans d11
    refine ⟨rfl, ?_⟩
    simp [go_sem, f11]
  case s10 =>
    refine step_val (v := (.pointer (some ⟨sb, so + 1, none⟩))) (fun av wv hE hS hO hD => ?_) (fun _ => rfl)
    have d12 : av.eval (.tmp 12) = (.pointer (some ⟨sb, so, none⟩)) := hD.1 rfl _ rfl
    have f12 := (ev_form av 12).symm.trans d12
    refine ⟨rfl, ?_⟩
    simp [go_sem, f12]
  case s11 =>
    refine step_wp (fun av wv hE hS hO hD => ?_)
    have d13 : av.eval (.tmp 13) = (.pointer (some ⟨sb, so + 1, none⟩)) := hD.1 rfl _ rfl
    have f13 := (ev_form av 13).symm.trans d13
    refine ⟨rfl, ?_⟩
    refine wp_of_callP (f := 145) (args := #[.string ⟨#[118]⟩, .pointer (some ⟨sb, so + 1, none⟩), .int .i64 67]) (by simp [go_sem, f13]) (HS2.out wv (of_drew hE)) (fun u w2 ⟨v, hu, hs, hb⟩ => ⟨u, rfl, es_of_ext hb, v, hu, hs⟩)
  intro a' w' hE hO hall
  have hA := act_of_outer (ds := [3, 4, 5, 6, 7, 8, 9, 10, 11, 12, 13, 14]) rfl hO (by kernel_rfl)
  have e3 : (fun u _ => u = (.pointer (some ⟨sb, so, none⟩))) (a'.eval (.tmp 3)) w' := hall.1 _ rfl
  have e4 : (fun u _ => u = (.pointer (some ⟨sb, so, none⟩))) (a'.eval (.tmp 4)) w' := hall.2.1 _ rfl
  have e5 : (fun u _ => u = (.pointer (some ⟨sb, so, none⟩))) (a'.eval (.tmp 5)) w' := hall.2.2.1 _ rfl
  have e6 : (fun u w' => ∃ v : FVal, u = v.val ∧ FIn B w' v S0) (a'.eval (.tmp 6)) w' := hall.2.2.2.1 _ rfl
  have e7 : (fun u _ => u = (.pointer (some ⟨sb, so, none⟩))) (a'.eval (.tmp 7)) w' := hall.2.2.2.2.1 _ rfl
  have e8 : (fun u _ => u = (.pointer (some ⟨sb, so, none⟩))) (a'.eval (.tmp 8)) w' := hall.2.2.2.2.2.1 _ rfl
  have e9 : (fun u _ => u = (.pointer (some ⟨sb, so + 2, none⟩))) (a'.eval (.tmp 9)) w' := hall.2.2.2.2.2.2.1 _ rfl
  have e10 : (fun u w' => ∃ v : FVal, u = v.val ∧ FIn B w' v S1) (a'.eval (.tmp 10)) w' := hall.2.2.2.2.2.2.2.1 _ rfl
  have e11 : (fun u _ => u = (.pointer (some ⟨sb, so, none⟩))) (a'.eval (.tmp 11)) w' := hall.2.2.2.2.2.2.2.2.1 _ rfl
  have e12 : (fun u _ => u = (.pointer (some ⟨sb, so, none⟩))) (a'.eval (.tmp 12)) w' := hall.2.2.2.2.2.2.2.2.2.1 _ rfl
  have e13 : (fun u _ => u = (.pointer (some ⟨sb, so + 1, none⟩))) (a'.eval (.tmp 13)) w' := hall.2.2.2.2.2.2.2.2.2.2.1 _ rfl
  have e14 : (fun u w' => ∃ v : FVal, u = v.val ∧ FIn B w' v S2) (a'.eval (.tmp 14)) w' := hall.2.2.2.2.2.2.2.2.2.2.2.1 _ rfl
  obtain ⟨v6, hv6⟩ : ∃ v, a'.eval (.tmp 6) = v := ⟨_, rfl⟩
  rw [hv6] at e6
  obtain ⟨v10, hv10⟩ : ∃ v, a'.eval (.tmp 10) = v := ⟨_, rfl⟩
  rw [hv10] at e10
  obtain ⟨v14, hv14⟩ : ∃ v, a'.eval (.tmp 14) = v := ⟨_, rfl⟩
  rw [hv14] at e14
  simp only [List.foldl_cons, List.foldl_nil, Act.put, List.setIfInBounds_toArray, List.set_cons_succ, List.set_cons_zero, e3, e4, e5, hv6, e7, e8, e9, hv10, e11, e12, e13, hv14] at hA
  clear hO hall e3 e4 e5 hv6 e7 e8 e9 hv10 e11 e12 e13 hv14
  subst hA
  --ENDREGION
  obtain ⟨x0, rfl, s0⟩ := e6
  obtain ⟨x1, rfl, s1⟩ := e10
  obtain ⟨x2, rfl, s2⟩ := e14
  have HSS : Hid (FSems B w' [x0, x1, x2] [S0, S1, S2]) := Lib.hid ⟨rfl, fun i hi => by
    have : i = 0 ∨ i = 1 ∨ i = 2 := by simp [len] at hi; omega
    rcases this with rfl | rfl | rfl
    · exact s0.2
    · exact s1.2
    · exact s2.2⟩
  have HBW : Hid (Below w.heap.size w w' ∧ B ≤ w'.heap.size) := Lib.hid ⟨of_drew hE, s0.1⟩
  clear s0 s1 s2 hE
  unfold FVal.val
  go_wp2
  go_ret
  refine ⟨w'.heap.size, 3, [x0, x1, x2], rfl, ⟨Flds.block (l := [x0, x1, x2]) (heap_alloc_new w' _), _, heap_alloc_new w' _⟩, ?_, bnext HBW.out.1 (balloc (Below.refl _ _) _)⟩
  rw [HSP.out]
  exact HSS.out.later (Keep8.of_below (balloc (Below.refl _ _) _) HBW.out.2)
end Go.Proofs.YtihiaopilnjonaaGreatDoor
