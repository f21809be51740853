/- Package wire: a slot's fields, a participant's; Slot, Part. -/
import Derived.Test.YtihiaopilnjonaaGreatDoorWireJ
namespace Go.Proofs.YtihiaopilnjonaaGreatDoor
open Go.RowKit
set_option linter.unusedSimpArgs false
set_option linter.unusedVariables false

/-- A row of fields that mean these, with room for B. -/
def RowIn (B : Nat) (specs : List FSpec) (u : Value) (w : World) : Prop := ∃ g c, ∃ l : List FVal, u = .slice (some ⟨g, 0, none⟩) (len l) c ∧ FRow w g l ∧ B ≤ w.heap.size ∧ FSems B w l specs
theorem RowIn.below {B : Nat} {specs : List FSpec} {u : Value} {w w' : World} (h : RowIn B specs u w) (hb : Below w.heap.size w w') : RowIn B specs u w' := by
  obtain ⟨g, c, l, hu, hF, hB, hS⟩ := h
  exact ⟨g, c, l, hu, hF.below hb, Nat.le_trans hB hb.size, hS.later (Keep8.of_below hb hB)⟩
theorem rowIn_of {B : Nat} {specs : List FSpec} {w w' : World} {e : Ending} (hB : B ≤ w.heap.size) (h : RowOf B specs w e w') : ∃ u, e = .returned u ∧ RowIn B specs u w' ∧ Below w.heap.size w w' := by
  obtain ⟨g, c, l, he, hF, hS, hb⟩ := h
  exact ⟨_, he, ⟨g, c, l, rfl, hF, Nat.le_trans hB hb.size, hS⟩, hb⟩

/-- A slot, as it lies. -/
structure SlotAt (B : Nat) (w : World) (b o : Nat) (L : Int) (q : Bool) (idx : Int) (wots path : List ByteArray) : Prop where
  c0 : CellAt B w b o (.int .u64 L)
  c1 : CellAt B w b (o + 1) (.bool q)
  c2 : SigAt B w b (o + 2) idx wots path
theorem SlotAt.below {B : Nat} {w w' : World} {b o : Nat} {L : Int} {q : Bool} {idx : Int} {wots path : List ByteArray} (h : SlotAt B w b o L q idx wots path) (hb : Below w.heap.size w w') : SlotAt B w' b o L q idx wots path := ⟨h.c0.below hb, h.c1.below hb, h.c2.below hb⟩
def slotSpecs (L : Int) (q : Bool) (idx : Int) (wots path : List ByteArray) : List FSpec :=
  [objSpec ⟨#[103]⟩ (sigSpecs idx wots path), ⟨⟨#[108]⟩, false, L == 0, true, numP L⟩, ⟨⟨#[115]⟩, false, !q, true, numP 1⟩]

set_option maxRecDepth 100000 in
set_option maxHeartbeats 4000000 in
theorem ofslot_any (B sb so : Nat) (L : Int) (q : Bool) (idx : Int) (wots path : List ByteArray) (w : World) (hB : B ≤ w.heap.size) (h : SlotAt B w sb so L q idx wots path) (h0 : 0 ≤ idx) (h1 : idx ≤ 18446744073709551615) (hL0 : 0 ≤ L) (hL1 : L ≤ 18446744073709551615) (hw : len wots ≤ 100000) (hp : len path ≤ 100000) :
    Calls Tryz.prog 61 #[.pointer (some ⟨sb, so, none⟩)] w (RowOf B (slotSpecs L q idx wots path) w) := by
  obtain ⟨S3, hS3⟩ : ∃ S3, sigSpecs idx wots path = S3 := ⟨_, rfl⟩
  obtain ⟨S0, hS0⟩ : ∃ S0 : FSpec, objSpec ⟨#[103]⟩ S3 = S0 := ⟨_, rfl⟩
  obtain ⟨S1, hS1⟩ : ∃ S1 : FSpec, (⟨⟨#[108]⟩, false, L == 0, true, numP L⟩ : FSpec) = S1 := ⟨_, rfl⟩
  obtain ⟨S2, hS2⟩ : ∃ S2 : FSpec, (⟨⟨#[115]⟩, false, !q, true, numP 1⟩ : FSpec) = S2 := ⟨_, rfl⟩
  have HSP : Hid (slotSpecs L q idx wots path = [S0, S1, S2]) := Lib.hid (by unfold slotSpecs; rw [hS3, hS0, hS1, hS2])
  have HL3 : Hid (len S3 = 3) := Lib.hid (by rw [← hS3]; rfl)
  have HSG : Hid (∀ w', Below w.heap.size w w' → Calls Tryz.prog 108 #[.pointer (some ⟨sb, so + 2, none⟩)] w' (fun e w'' => ∃ u, e = .returned u ∧ RowIn B S3 u w'' ∧ Below w'.heap.size w' w'')) := Lib.hid (fun w' hb => by
    rw [← hS3]
    exact (ofsig_any B sb (so + 2) idx wots path w' (Nat.le_trans hB hb.size) (h.c2.below hb) h0 h1 hw hp).mono (fun e w'' hh => rowIn_of (Nat.le_trans hB hb.size) hh))
  have HOB : Hid (∀ w' g c, ∀ l : List FVal, FRow w' g l → len l = 3 → FSems B w' l S3 → B ≤ w'.heap.size → Calls Tryz.prog 107 #[.string ⟨#[103]⟩, .slice (some ⟨g, 0, none⟩) (len l) c] w' (MadeF B S0 w')) := Lib.hid (fun w' g c l hF hl hS hB' => by
    rw [← hS0]
    exact (fobject_any B ⟨#[103]⟩ g c w' l S3 w' (by decide) hF (by omega) (by omega) hS (Keep8.refl hB')).mono (fun e w'' hh => madeF hB' hh))
  have HS1 : Hid (∀ w', Below w.heap.size w w' → Calls Tryz.prog 109 #[.string ⟨#[108]⟩, .pointer (some ⟨sb, so, none⟩)] w' (MadeF B S1 w')) := Lib.hid (fun w' hb => by
    rw [← hS1]
    exact (fnum_any B ⟨#[108]⟩ sb so L w' (by decide) (Nat.le_trans hB hb.size) (h.c0.below hb) hL0 hL1).mono (fun e w'' hh => madeF (Nat.le_trans hB hb.size) hh))
  have HS2 : Hid (∀ w', Below w.heap.size w w' → Calls Tryz.prog 110 #[.string ⟨#[115]⟩, .pointer (some ⟨sb, so + 1, none⟩)] w' (MadeF B S2 w')) := Lib.hid (fun w' hb => by
    rw [← hS2]
    exact (fflag_any B ⟨#[115]⟩ sb (so + 1) q w' (by decide) (Nat.le_trans hB hb.size) (h.c1.below hb)).mono (fun e w'' hh => madeF (Nat.le_trans hB hb.size) hh))
  clear h hS3 hS0 hS1 hS2
  go_enter Tryz.func61, Tryz.ntmps61
  go_upto_region 1 with fail
  --REGION sextant/wire.ofSlot 1 ofslot
  refine wp_region_tail 13 1000 (none) (phis [fun u _ => u = (.pointer (some ⟨sb, so, none⟩)), fun u _ => u = (.pointer (some ⟨sb, so, none⟩)), fun u _ => u = (.pointer (some ⟨sb, so + 2, none⟩)), fun u w' => RowIn B S3 u w', fun u w' => ∃ v : FVal, u = v.val ∧ FIn B w' v S0, fun u _ => u = (.pointer (some ⟨sb, so, none⟩)), fun u _ => u = (.pointer (some ⟨sb, so, none⟩)), fun u _ => u = (.pointer (some ⟨sb, so, none⟩)), fun u w' => ∃ v : FVal, u = v.val ∧ FIn B w' v S1, fun u _ => u = (.pointer (some ⟨sb, so, none⟩)), fun u _ => u = (.pointer (some ⟨sb, so, none⟩)), fun u _ => u = (.pointer (some ⟨sb, so + 1, none⟩)), fun u w' => ∃ v : FVal, u = v.val ∧ FIn B w' v S2]) rfl (by kernel_rfl) (by kernel_rfl) (mono_of ⟨mono_eq, mono_eq, mono_eq, ?m3, ?m4, mono_eq, mono_eq, mono_eq, ?m8, mono_eq, mono_eq, mono_eq, ?m12, trivial⟩) (steps_of 13 ⟨?s0, ?s1, ?s2, ?s3, ?s4, ?s5, ?s6, ?s7, ?s8, ?s9, ?s10, ?s11, ?s12, trivial⟩) ?_
  case m3 =>
    exact ⟨fun u w1 w2 h h1 => h1.below h, fun _ u w1 w2 h h1 => h1.below (extB_none h)⟩
  case m4 =>
    exact ⟨fun u w1 w2 h ⟨v, h1, h2⟩ => ⟨v, h1, h2.below h⟩, fun _ u w1 w2 h ⟨v, h1, h2⟩ => ⟨v, h1, h2.below (extB_none h)⟩⟩
  case m8 =>
    exact ⟨fun u w1 w2 h ⟨v, h1, h2⟩ => ⟨v, h1, h2.below h⟩, fun _ u w1 w2 h ⟨v, h1, h2⟩ => ⟨v, h1, h2.below (extB_none h)⟩⟩
  case m12 =>
    exact ⟨fun u w1 w2 h ⟨v, h1, h2⟩ => ⟨v, h1, h2.below h⟩, fun _ u w1 w2 h ⟨v, h1, h2⟩ => ⟨v, h1, h2.below (extB_none h)⟩⟩
  case s0 =>
    refine step_val (v := (.pointer (some ⟨sb, so, none⟩))) (fun av wv hE hS hO hD => ?_) (fun _ => rfl)
    have h0 : av.eval (.tmp 0) = (.pointer (some ⟨sb, so, none⟩)) := hO.2.2 0 rfl
    have f0 := (ev_form av 0).symm.trans h0
    refine ⟨rfl, ?_⟩
    simp [go_sem, f0]
  case s1 =>
    refine step_val (v := (.pointer (some ⟨sb, so, none⟩))) (fun av wv hE hS hO hD => ?_) (fun _ => rfl)
    have d3 : av.eval (.tmp 3) = (.pointer (some ⟨sb, so, none⟩)) := hD.1 rfl _ rfl
    have f3 := (ev_form av 3).symm.trans d3
    refine ⟨rfl, ?_⟩
    simp [go_sem, f3]
  case s2 =>
    refine step_val (v := (.pointer (some ⟨sb, so + 2, none⟩))) (fun av wv hE hS hO hD => ?_) (fun _ => rfl)
    have d4 : av.eval (.tmp 4) = (.pointer (some ⟨sb, so, none⟩)) := hD.1 rfl _ rfl
    have f4 := (ev_form av 4).symm.trans d4
    refine ⟨rfl, ?_⟩
    simp [go_sem, f4]
  case s3 =>
    refine step_wp (fun av wv hE hS hO hD => ?_)
    have d5 : av.eval (.tmp 5) = (.pointer (some ⟨sb, so + 2, none⟩)) := hD.1 rfl _ rfl
    have f5 := (ev_form av 5).symm.trans d5
    refine ⟨rfl, ?_⟩
    refine wp_of_callP (f := 108) (args := #[.pointer (some ⟨sb, so + 2, none⟩)]) (by simp [go_sem, f5]) (HSG.out wv (of_drew hE)) (fun u w2 ⟨h1, hb⟩ => ⟨u, rfl, es_of_ext hb, h1⟩)
  case s4 =>
    refine step_wp (fun av wv hE hS hO hD => ?_)
    have d6 : (fun u w' => RowIn B S3 u w') (av.eval (.tmp 6)) wv := hD.1 rfl _ rfl
    refine ⟨rfl, ?_⟩
    obtain ⟨g6, c6, l6, hu6, hF6, hB6, hS6⟩ := d6
    have f6 := (ev_form av 6).symm.trans hu6
    have hl6 : len l6 = 3 := by rw [← hS6.1]; exact HL3.out
    refine wp_of_callP (f := 107) (args := #[.string ⟨#[103]⟩, .slice (some ⟨g6, 0, none⟩) (len l6) c6]) (by simp [go_sem, f6]) (HOB.out wv g6 c6 l6 hF6 hl6 hS6 hB6) (fun u w2 ⟨v, hu, hs, hb⟩ => ⟨u, rfl, es_of_ext hb, v, hu, hs⟩)
  case s5 =>
    refine step_val (v := (.pointer (some ⟨sb, so, none⟩))) (fun av wv hE hS hO hD => ?_) (fun _ => rfl)
    have h0 : av.eval (.tmp 0) = (.pointer (some ⟨sb, so, none⟩)) := hO.2.2 0 rfl
    have f0 := (ev_form av 0).symm.trans h0
    refine ⟨rfl, ?_⟩
    simp [go_sem, f0]
  case s6 =>
    refine step_val (v := (.pointer (some ⟨sb, so, none⟩))) (fun av wv hE hS hO hD => ?_) (fun _ => rfl)
    have d8 : av.eval (.tmp 8) = (.pointer (some ⟨sb, so, none⟩)) := hD.1 rfl _ rfl
    have f8 := (ev_form av 8).symm.trans d8
    refine ⟨rfl, ?_⟩
    simp [go_sem, f8]
  case s7 =>
    refine step_val (v := (.pointer (some ⟨sb, so, none⟩))) (fun av wv hE hS hO hD => ?_) (fun _ => rfl)
    have d9 : av.eval (.tmp 9) = (.pointer (some ⟨sb, so, none⟩)) := hD.1 rfl _ rfl
    have f9 := (ev_form av 9).symm.trans d9
    refine ⟨rfl, ?_⟩
    simp [go_sem, f9]
  case s8 =>
    refine step_wp (fun av wv hE hS hO hD => ?_)
    have d10 : av.eval (.tmp 10) = (.pointer (some ⟨sb, so, none⟩)) := hD.1 rfl _ rfl
    have f10 := (ev_form av 10).symm.trans d10
    refine ⟨rfl, ?_⟩
    refine wp_of_callP (f := 109) (args := #[.string ⟨#[108]⟩, .pointer (some ⟨sb, so, none⟩)]) (by simp [go_sem, f10]) (HS1.out wv (of_drew hE)) (fun u w2 ⟨v, hu, hs, hb⟩ => ⟨u, rfl, es_of_ext hb, v, hu, hs⟩)
  case s9 =>
    refine step_val (v := (.pointer (some ⟨sb, so, none⟩))) (fun av wv hE hS hO hD => ?_) (fun _ => rfl)
    have h0 : av.eval (.tmp 0) = (.pointer (some ⟨sb, so, none⟩)) := hO.2.2 0 rfl
    have f0 := (ev_form av 0).symm.trans h0
    refine ⟨rfl, ?_⟩
    simp [go_sem, f0]
  case s10 =>
    refine step_val (v := (.pointer (some ⟨sb, so, none⟩))) (fun av wv hE hS hO hD => ?_) (fun _ => rfl)
    have d12 : av.eval (.tmp 12) = (.pointer (some ⟨sb, so, none⟩)) := hD.1 rfl _ rfl
    have f12 := (ev_form av 12).symm.trans d12
    refine ⟨rfl, ?_⟩
    simp [go_sem, f12]
  case s11 =>
    refine step_val (v := (.pointer (some ⟨sb, so + 1, none⟩))) (fun av wv hE hS hO hD => ?_) (fun _ => rfl)
    have d13 : av.eval (.tmp 13) = (.pointer (some ⟨sb, so, none⟩)) := hD.1 rfl _ rfl
    have f13 := (ev_form av 13).symm.trans d13
    refine ⟨rfl, ?_⟩
    simp [go_sem, f13]
  case s12 =>
    refine step_wp (fun av wv hE hS hO hD => ?_)
    have d14 : av.eval (.tmp 14) = (.pointer (some ⟨sb, so + 1, none⟩)) := hD.1 rfl _ rfl
    have f14 := (ev_form av 14).symm.trans d14
    refine ⟨rfl, ?_⟩
    refine wp_of_callP (f := 110) (args := #[.string ⟨#[115]⟩, .pointer (some ⟨sb, so + 1, none⟩)]) (by simp [go_sem, f14]) (HS2.out wv (of_drew hE)) (fun u w2 ⟨v, hu, hs, hb⟩ => ⟨u, rfl, es_of_ext hb, v, hu, hs⟩)
  intro a' w' hE hO hall
  have hA := act_of_outer (ds := [3, 4, 5, 6, 7, 8, 9, 10, 11, 12, 13, 14, 15]) rfl hO (by kernel_rfl)
  have e3 : (fun u _ => u = (.pointer (some ⟨sb, so, none⟩))) (a'.eval (.tmp 3)) w' := hall.1 _ rfl
  have e4 : (fun u _ => u = (.pointer (some ⟨sb, so, none⟩))) (a'.eval (.tmp 4)) w' := hall.2.1 _ rfl
  have e5 : (fun u _ => u = (.pointer (some ⟨sb, so + 2, none⟩))) (a'.eval (.tmp 5)) w' := hall.2.2.1 _ rfl
  have e6 : (fun u w' => RowIn B S3 u w') (a'.eval (.tmp 6)) w' := hall.2.2.2.1 _ rfl
  have e7 : (fun u w' => ∃ v : FVal, u = v.val ∧ FIn B w' v S0) (a'.eval (.tmp 7)) w' := hall.2.2.2.2.1 _ rfl
  have e8 : (fun u _ => u = (.pointer (some ⟨sb, so, none⟩))) (a'.eval (.tmp 8)) w' := hall.2.2.2.2.2.1 _ rfl
  have e9 : (fun u _ => u = (.pointer (some ⟨sb, so, none⟩))) (a'.eval (.tmp 9)) w' := hall.2.2.2.2.2.2.1 _ rfl
  have e10 : (fun u _ => u = (.pointer (some ⟨sb, so, none⟩))) (a'.eval (.tmp 10)) w' := hall.2.2.2.2.2.2.2.1 _ rfl
  have e11 : (fun u w' => ∃ v : FVal, u = v.val ∧ FIn B w' v S1) (a'.eval (.tmp 11)) w' := hall.2.2.2.2.2.2.2.2.1 _ rfl
  have e12 : (fun u _ => u = (.pointer (some ⟨sb, so, none⟩))) (a'.eval (.tmp 12)) w' := hall.2.2.2.2.2.2.2.2.2.1 _ rfl
  have e13 : (fun u _ => u = (.pointer (some ⟨sb, so, none⟩))) (a'.eval (.tmp 13)) w' := hall.2.2.2.2.2.2.2.2.2.2.1 _ rfl
  have e14 : (fun u _ => u = (.pointer (some ⟨sb, so + 1, none⟩))) (a'.eval (.tmp 14)) w' := hall.2.2.2.2.2.2.2.2.2.2.2.1 _ rfl
  have e15 : (fun u w' => ∃ v : FVal, u = v.val ∧ FIn B w' v S2) (a'.eval (.tmp 15)) w' := hall.2.2.2.2.2.2.2.2.2.2.2.2.1 _ rfl
  obtain ⟨v6, hv6⟩ : ∃ v, a'.eval (.tmp 6) = v := ⟨_, rfl⟩
  rw [hv6] at e6
  obtain ⟨v7, hv7⟩ : ∃ v, a'.eval (.tmp 7) = v := ⟨_, rfl⟩
  rw [hv7] at e7
  obtain ⟨v11, hv11⟩ : ∃ v, a'.eval (.tmp 11) = v := ⟨_, rfl⟩
  rw [hv11] at e11
  obtain ⟨v15, hv15⟩ : ∃ v, a'.eval (.tmp 15) = v := ⟨_, rfl⟩
  rw [hv15] at e15
  simp only [List.foldl_cons, List.foldl_nil, Act.put, List.setIfInBounds_toArray, List.set_cons_succ, List.set_cons_zero, e3, e4, e5, hv6, hv7, e8, e9, e10, hv11, e12, e13, e14, hv15] at hA
  clear hO hall e3 e4 e5 hv6 hv7 e8 e9 e10 hv11 e12 e13 e14 hv15
  subst hA
  --ENDREGION
  obtain ⟨x0, rfl, s0⟩ := e7
  obtain ⟨x1, rfl, s1⟩ := e11
  obtain ⟨x2, rfl, s2⟩ := e15
  have HSS : Hid (FSems B w' [x0, x1, x2] [S0, S1, S2]) := Lib.hid ⟨rfl, fun i hi => by
    have : i = 0 ∨ i = 1 ∨ i = 2 := by simp [len] at hi; omega
    rcases this with rfl | rfl | rfl
    · exact s0.2
    · exact s1.2
    · exact s2.2⟩
  have HBW : Hid (Below w.heap.size w w' ∧ B ≤ w'.heap.size) := Lib.hid ⟨of_drew hE, s0.1⟩
  clear s0 s1 s2 hE e6
  unfold FVal.val
  go_wp2
  go_ret
  refine ⟨w'.heap.size, 3, [x0, x1, x2], rfl, ⟨Flds.block (l := [x0, x1, x2]) (heap_alloc_new w' _), _, heap_alloc_new w' _⟩, ?_, bnext HBW.out.1 (balloc (Below.refl _ _) _)⟩
  rw [HSP.out]
  exact HSS.out.later (Keep8.of_below (balloc (Below.refl _ _) _) HBW.out.2)

/-- A participant, as it lies. -/
structure PartAt (B : Nat) (w : World) (b o : Nat) (root : ByteArray) (weight first life keys : Int) : Prop where
  c0 : CellAt B w b o (.string root)
  c1 : CellAt B w b (o + 1) (.int .u64 weight)
  c2 : CellAt B w b (o + 2) (.int .u64 first)
  c3 : CellAt B w b (o + 3) (.int .u64 life)
  c4 : CellAt B w b (o + 4) (.int .u64 keys)
theorem PartAt.below {B : Nat} {w w' : World} {b o : Nat} {root : ByteArray} {weight first life keys : Int} (h : PartAt B w b o root weight first life keys) (hb : Below w.heap.size w w') : PartAt B w' b o root weight first life keys := ⟨h.c0.below hb, h.c1.below hb, h.c2.below hb, h.c3.below hb, h.c4.below hb⟩
def partSpecs (root : ByteArray) (weight first life keys : Int) : List FSpec :=
  [⟨⟨#[102]⟩, false, first == 0, true, numP first⟩, ⟨⟨#[107]⟩, false, keys == 0, true, numP keys⟩, ⟨⟨#[108]⟩, false, life == 0, true, numP life⟩, ⟨⟨#[114]⟩, true, false, decide (root.size = 32), binP root⟩, ⟨⟨#[119]⟩, false, weight == 0, true, numP weight⟩]
def U64i (x : Int) : Prop := 0 ≤ x ∧ x ≤ 18446744073709551615

set_option maxRecDepth 100000 in
set_option maxHeartbeats 4000000 in
theorem ofpart_any (B sb so : Nat) (root : ByteArray) (weight first life keys : Int) (w : World) (hB : B ≤ w.heap.size) (h : PartAt B w sb so root weight first life keys) (hr : root.size ≤ 9223372036854775807) (hw : U64i weight) (hf : U64i first) (hl : U64i life) (hk : U64i keys) :
    Calls Tryz.prog 62 #[.pointer (some ⟨sb, so, none⟩)] w (RowOf B (partSpecs root weight first life keys) w) := by
  obtain ⟨S0, hS0⟩ : ∃ S : FSpec, (⟨⟨#[102]⟩, false, first == 0, true, numP first⟩ : FSpec) = S := ⟨_, rfl⟩
  obtain ⟨S1, hS1⟩ : ∃ S : FSpec, (⟨⟨#[107]⟩, false, keys == 0, true, numP keys⟩ : FSpec) = S := ⟨_, rfl⟩
  obtain ⟨S2, hS2⟩ : ∃ S : FSpec, (⟨⟨#[108]⟩, false, life == 0, true, numP life⟩ : FSpec) = S := ⟨_, rfl⟩
  obtain ⟨S3, hS3⟩ : ∃ S : FSpec, (⟨⟨#[114]⟩, true, false, decide (root.size = 32), binP root⟩ : FSpec) = S := ⟨_, rfl⟩
  obtain ⟨S4, hS4⟩ : ∃ S : FSpec, (⟨⟨#[119]⟩, false, weight == 0, true, numP weight⟩ : FSpec) = S := ⟨_, rfl⟩
  have HSP : Hid (partSpecs root weight first life keys = [S0, S1, S2, S3, S4]) := Lib.hid (by unfold partSpecs; rw [hS0, hS1, hS2, hS3, hS4])
  have HS0 : Hid (∀ w', Below w.heap.size w w' → Calls Tryz.prog 109 #[.string ⟨#[102]⟩, .pointer (some ⟨sb, so + 2, none⟩)] w' (MadeF B S0 w')) := Lib.hid (fun w' hb => by
    rw [← hS0]
    exact (fnum_any B ⟨#[102]⟩ sb (so + 2) first w' (by decide) (Nat.le_trans hB hb.size) (h.c2.below hb) hf.1 hf.2).mono (fun e w'' hh => madeF (Nat.le_trans hB hb.size) hh))
  have HS1 : Hid (∀ w', Below w.heap.size w w' → Calls Tryz.prog 109 #[.string ⟨#[107]⟩, .pointer (some ⟨sb, so + 4, none⟩)] w' (MadeF B S1 w')) := Lib.hid (fun w' hb => by
    rw [← hS1]
    exact (fnum_any B ⟨#[107]⟩ sb (so + 4) keys w' (by decide) (Nat.le_trans hB hb.size) (h.c4.below hb) hk.1 hk.2).mono (fun e w'' hh => madeF (Nat.le_trans hB hb.size) hh))
  have HS2 : Hid (∀ w', Below w.heap.size w w' → Calls Tryz.prog 109 #[.string ⟨#[108]⟩, .pointer (some ⟨sb, so + 3, none⟩)] w' (MadeF B S2 w')) := Lib.hid (fun w' hb => by
    rw [← hS2]
    exact (fnum_any B ⟨#[108]⟩ sb (so + 3) life w' (by decide) (Nat.le_trans hB hb.size) (h.c3.below hb) hl.1 hl.2).mono (fun e w'' hh => madeF (Nat.le_trans hB hb.size) hh))
  have HS3 : Hid (∀ w', Below w.heap.size w w' → Calls Tryz.prog 111 #[.string ⟨#[114]⟩, .pointer (some ⟨sb, so, none⟩)] w' (MadeF B S3 w')) := Lib.hid (fun w' hb => by
    rw [← hS3]
    exact (fdigest_any B ⟨#[114]⟩ sb so root w' (by decide) (Nat.le_trans hB hb.size) (h.c0.below hb) hr).mono (fun e w'' hh => madeF (Nat.le_trans hB hb.size) hh))
  have HS4 : Hid (∀ w', Below w.heap.size w w' → Calls Tryz.prog 109 #[.string ⟨#[119]⟩, .pointer (some ⟨sb, so + 1, none⟩)] w' (MadeF B S4 w')) := Lib.hid (fun w' hb => by
    rw [← hS4]
    exact (fnum_any B ⟨#[119]⟩ sb (so + 1) weight w' (by decide) (Nat.le_trans hB hb.size) (h.c1.below hb) hw.1 hw.2).mono (fun e w'' hh => madeF (Nat.le_trans hB hb.size) hh))
  clear h hS3 hS0 hS1 hS2 hS4
  go_enter Tryz.func62, Tryz.ntmps62
  go_upto_region 1 with fail
  --REGION sextant/wire.ofPart 1 ofpart
  refine wp_region_tail 20 1000 (none) (phis [fun u _ => u = (.pointer (some ⟨sb, so, none⟩)), fun u _ => u = (.pointer (some ⟨sb, so, none⟩)), fun u _ => u = (.pointer (some ⟨sb, so + 2, none⟩)), fun u w' => ∃ v : FVal, u = v.val ∧ FIn B w' v S0, fun u _ => u = (.pointer (some ⟨sb, so, none⟩)), fun u _ => u = (.pointer (some ⟨sb, so, none⟩)), fun u _ => u = (.pointer (some ⟨sb, so + 4, none⟩)), fun u w' => ∃ v : FVal, u = v.val ∧ FIn B w' v S1, fun u _ => u = (.pointer (some ⟨sb, so, none⟩)), fun u _ => u = (.pointer (some ⟨sb, so, none⟩)), fun u _ => u = (.pointer (some ⟨sb, so + 3, none⟩)), fun u w' => ∃ v : FVal, u = v.val ∧ FIn B w' v S2, fun u _ => u = (.pointer (some ⟨sb, so, none⟩)), fun u _ => u = (.pointer (some ⟨sb, so, none⟩)), fun u _ => u = (.pointer (some ⟨sb, so, none⟩)), fun u w' => ∃ v : FVal, u = v.val ∧ FIn B w' v S3, fun u _ => u = (.pointer (some ⟨sb, so, none⟩)), fun u _ => u = (.pointer (some ⟨sb, so, none⟩)), fun u _ => u = (.pointer (some ⟨sb, so + 1, none⟩)), fun u w' => ∃ v : FVal, u = v.val ∧ FIn B w' v S4]) rfl (by kernel_rfl) (by kernel_rfl) (mono_of ⟨mono_eq, mono_eq, mono_eq, ?m3, mono_eq, mono_eq, mono_eq, ?m7, mono_eq, mono_eq, mono_eq, ?m11, mono_eq, mono_eq, mono_eq, ?m15, mono_eq, mono_eq, mono_eq, ?m19, trivial⟩) (steps_of 20 ⟨?s0, ?s1, ?s2, ?s3, ?s4, ?s5, ?s6, ?s7, ?s8, ?s9, ?s10, ?s11, ?s12, ?s13, ?s14, ?s15, ?s16, ?s17, ?s18, ?s19, trivial⟩) ?_
  case m3 =>
    exact ⟨fun u w1 w2 h ⟨v, h1, h2⟩ => ⟨v, h1, h2.below h⟩, fun _ u w1 w2 h ⟨v, h1, h2⟩ => ⟨v, h1, h2.below (extB_none h)⟩⟩
  case m7 =>
    exact ⟨fun u w1 w2 h ⟨v, h1, h2⟩ => ⟨v, h1, h2.below h⟩, fun _ u w1 w2 h ⟨v, h1, h2⟩ => ⟨v, h1, h2.below (extB_none h)⟩⟩
  case m11 =>
    exact ⟨fun u w1 w2 h ⟨v, h1, h2⟩ => ⟨v, h1, h2.below h⟩, fun _ u w1 w2 h ⟨v, h1, h2⟩ => ⟨v, h1, h2.below (extB_none h)⟩⟩
  case m15 =>
    exact ⟨fun u w1 w2 h ⟨v, h1, h2⟩ => ⟨v, h1, h2.below h⟩, fun _ u w1 w2 h ⟨v, h1, h2⟩ => ⟨v, h1, h2.below (extB_none h)⟩⟩
  case m19 =>
    exact ⟨fun u w1 w2 h ⟨v, h1, h2⟩ => ⟨v, h1, h2.below h⟩, fun _ u w1 w2 h ⟨v, h1, h2⟩ => ⟨v, h1, h2.below (extB_none h)⟩⟩
  case s0 =>
    refine step_val (v := (.pointer (some ⟨sb, so, none⟩))) (fun av wv hE hS hO hD => ?_) (fun _ => rfl)
    have h0 : av.eval (.tmp 0) = (.pointer (some ⟨sb, so, none⟩)) := hO.2.2 0 rfl
    have f0 := (ev_form av 0).symm.trans h0
    refine ⟨rfl, ?_⟩
    simp [go_sem, f0]
  case s1 =>
    refine step_val (v := (.pointer (some ⟨sb, so, none⟩))) (fun av wv hE hS hO hD => ?_) (fun _ => rfl)
    have d3 : av.eval (.tmp 3) = (.pointer (some ⟨sb, so, none⟩)) := hD.1 rfl _ rfl
    have f3 := (ev_form av 3).symm.trans d3
    refine ⟨rfl, ?_⟩
    simp [go_sem, f3]
  case s2 =>
    refine step_val (v := (.pointer (some ⟨sb, so + 2, none⟩))) (fun av wv hE hS hO hD => ?_) (fun _ => rfl)
    have d4 : av.eval (.tmp 4) = (.pointer (some ⟨sb, so, none⟩)) := hD.1 rfl _ rfl
    have f4 := (ev_form av 4).symm.trans d4
    refine ⟨rfl, ?_⟩
    simp [go_sem, f4]
  case s3 =>
    refine step_wp (fun av wv hE hS hO hD => ?_)
    have d5 : av.eval (.tmp 5) = (.pointer (some ⟨sb, so + 2, none⟩)) := hD.1 rfl _ rfl
    have f5 := (ev_form av 5).symm.trans d5
    refine ⟨rfl, ?_⟩
    refine wp_of_callP (f := 109) (args := #[.string ⟨#[102]⟩, .pointer (some ⟨sb, so + 2, none⟩)]) (by simp [go_sem, f5]) (HS0.out wv (of_drew hE)) (fun u w2 ⟨v, hu, hs, hb⟩ => ⟨u, rfl, es_of_ext hb, v, hu, hs⟩)
  case s4 =>
    refine step_val (v := (.pointer (some ⟨sb, so, none⟩))) (fun av wv hE hS hO hD => ?_) (fun _ => rfl)
    have h0 : av.eval (.tmp 0) = (.pointer (some ⟨sb, so, none⟩)) := hO.2.2 0 rfl
    have f0 := (ev_form av 0).symm.trans h0
    refine ⟨rfl, ?_⟩
    simp [go_sem, f0]
  case s5 =>
    refine step_val (v := (.pointer (some ⟨sb, so, none⟩))) (fun av wv hE hS hO hD => ?_) (fun _ => rfl)
    have d7 : av.eval (.tmp 7) = (.pointer (some ⟨sb, so, none⟩)) := hD.1 rfl _ rfl
    have f7 := (ev_form av 7).symm.trans d7
    refine ⟨rfl, ?_⟩
    simp [go_sem, f7]
  case s6 =>
    refine step_val (v := (.pointer (some ⟨sb, so + 4, none⟩))) (fun av wv hE hS hO hD => ?_) (fun _ => rfl)
    have d8 : av.eval (.tmp 8) = (.pointer (some ⟨sb, so, none⟩)) := hD.1 rfl _ rfl
    have f8 := (ev_form av 8).symm.trans d8
    refine ⟨rfl, ?_⟩
    simp [go_sem, f8]
  case s7 =>
    refine step_wp (fun av wv hE hS hO hD => ?_)
    have d9 : av.eval (.tmp 9) = (.pointer (some ⟨sb, so + 4, none⟩)) := hD.1 rfl _ rfl
    have f9 := (ev_form av 9).symm.trans d9
    refine ⟨rfl, ?_⟩
    refine wp_of_callP (f := 109) (args := #[.string ⟨#[107]⟩, .pointer (some ⟨sb, so + 4, none⟩)]) (by simp [go_sem, f9]) (HS1.out wv (of_drew hE)) (fun u w2 ⟨v, hu, hs, hb⟩ => ⟨u, rfl, es_of_ext hb, v, hu, hs⟩)
  case s8 =>
    refine step_val (v := (.pointer (some ⟨sb, so, none⟩))) (fun av wv hE hS hO hD => ?_) (fun _ => rfl)
    have h0 : av.eval (.tmp 0) = (.pointer (some ⟨sb, so, none⟩)) := hO.2.2 0 rfl
    have f0 := (ev_form av 0).symm.trans h0
    refine ⟨rfl, ?_⟩
    simp [go_sem, f0]
  case s9 =>
    refine step_val (v := (.pointer (some ⟨sb, so, none⟩))) (fun av wv hE hS hO hD => ?_) (fun _ => rfl)
    have d11 : av.eval (.tmp 11) = (.pointer (some ⟨sb, so, none⟩)) := hD.1 rfl _ rfl
    have f11 := (ev_form av 11).symm.trans d11
    refine ⟨rfl, ?_⟩
    simp [go_sem, f11]
  case s10 =>
    refine step_val (v := (.pointer (some ⟨sb, so + 3, none⟩))) (fun av wv hE hS hO hD => ?_) (fun _ => rfl)
    have d12 : av.eval (.tmp 12) = (.pointer (some ⟨sb, so, none⟩)) := hD.1 rfl _ rfl
    have f12 := (ev_form av 12).symm.trans d12
    refine ⟨rfl, ?_⟩
    simp [go_sem, f12]
  case s11 =>
    refine step_wp (fun av wv hE hS hO hD => ?_)
    have d13 : av.eval (.tmp 13) = (.pointer (some ⟨sb, so + 3, none⟩)) := hD.1 rfl _ rfl
    have f13 := (ev_form av 13).symm.trans d13
    refine ⟨rfl, ?_⟩
    refine wp_of_callP (f := 109) (args := #[.string ⟨#[108]⟩, .pointer (some ⟨sb, so + 3, none⟩)]) (by simp [go_sem, f13]) (HS2.out wv (of_drew hE)) (fun u w2 ⟨v, hu, hs, hb⟩ => ⟨u, rfl, es_of_ext hb, v, hu, hs⟩)
  case s12 =>
    refine step_val (v := (.pointer (some ⟨sb, so, none⟩))) (fun av wv hE hS hO hD => ?_) (fun _ => rfl)
    have h0 : av.eval (.tmp 0) = (.pointer (some ⟨sb, so, none⟩)) := hO.2.2 0 rfl
    have f0 := (ev_form av 0).symm.trans h0
    refine ⟨rfl, ?_⟩
    simp [go_sem, f0]
  case s13 =>
    refine step_val (v := (.pointer (some ⟨sb, so, none⟩))) (fun av wv hE hS hO hD => ?_) (fun _ => rfl)
    have d15 : av.eval (.tmp 15) = (.pointer (some ⟨sb, so, none⟩)) := hD.1 rfl _ rfl
    have f15 := (ev_form av 15).symm.trans d15
    refine ⟨rfl, ?_⟩
    simp [go_sem, f15]
  case s14 =>
    refine step_val (v := (.pointer (some ⟨sb, so, none⟩))) (fun av wv hE hS hO hD => ?_) (fun _ => rfl)
    have d16 : av.eval (.tmp 16) = (.pointer (some ⟨sb, so, none⟩)) := hD.1 rfl _ rfl
    have f16 := (ev_form av 16).symm.trans d16
    refine ⟨rfl, ?_⟩
    simp [go_sem, f16]
  case s15 =>
    refine step_wp (fun av wv hE hS hO hD => ?_)
    have d17 : av.eval (.tmp 17) = (.pointer (some ⟨sb, so, none⟩)) := hD.1 rfl _ rfl
    have f17 := (ev_form av 17).symm.trans d17
    refine ⟨rfl, ?_⟩
    refine wp_of_callP (f := 111) (args := #[.string ⟨#[114]⟩, .pointer (some ⟨sb, so, none⟩)]) (by simp [go_sem, f17]) (HS3.out wv (of_drew hE)) (fun u w2 ⟨v, hu, hs, hb⟩ => ⟨u, rfl, es_of_ext hb, v, hu, hs⟩)
  case s16 =>
    refine step_val (v := (.pointer (some ⟨sb, so, none⟩))) (fun av wv hE hS hO hD => ?_) (fun _ => rfl)
    have h0 : av.eval (.tmp 0) = (.pointer (some ⟨sb, so, none⟩)) := hO.2.2 0 rfl
    have f0 := (ev_form av 0).symm.trans h0
    refine ⟨rfl, ?_⟩
    simp [go_sem, f0]
  case s17 =>
    refine step_val (v := (.pointer (some ⟨sb, so, none⟩))) (fun av wv hE hS hO hD => ?_) (fun _ => rfl)
    have d19 : av.eval (.tmp 19) = (.pointer (some ⟨sb, so, none⟩)) := hD.1 rfl _ rfl
    have f19 := (ev_form av 19).symm.trans d19
    refine ⟨rfl, ?_⟩
    simp [go_sem, f19]
  case s18 =>
    refine step_val (v := (.pointer (some ⟨sb, so + 1, none⟩))) (fun av wv hE hS hO hD => ?_) (fun _ => rfl)
    have d20 : av.eval (.tmp 20) = (.pointer (some ⟨sb, so, none⟩)) := hD.1 rfl _ rfl
    have f20 := (ev_form av 20).symm.trans d20
    refine ⟨rfl, ?_⟩
    simp [go_sem, f20]
  case s19 =>
    refine step_wp (fun av wv hE hS hO hD => ?_)
    have d21 : av.eval (.tmp 21) = (.pointer (some ⟨sb, so + 1, none⟩)) := hD.1 rfl _ rfl
    have f21 := (ev_form av 21).symm.trans d21
    refine ⟨rfl, ?_⟩
    refine wp_of_callP (f := 109) (args := #[.string ⟨#[119]⟩, .pointer (some ⟨sb, so + 1, none⟩)]) (by simp [go_sem, f21]) (HS4.out wv (of_drew hE)) (fun u w2 ⟨v, hu, hs, hb⟩ => ⟨u, rfl, es_of_ext hb, v, hu, hs⟩)
  intro a' w' hE hO hall
  have hA := act_of_outer (ds := [3, 4, 5, 6, 7, 8, 9, 10, 11, 12, 13, 14, 15, 16, 17, 18, 19, 20, 21, 22]) rfl hO (by kernel_rfl)
  have e3 : (fun u _ => u = (.pointer (some ⟨sb, so, none⟩))) (a'.eval (.tmp 3)) w' := hall.1 _ rfl
  have e4 : (fun u _ => u = (.pointer (some ⟨sb, so, none⟩))) (a'.eval (.tmp 4)) w' := hall.2.1 _ rfl
  have e5 : (fun u _ => u = (.pointer (some ⟨sb, so + 2, none⟩))) (a'.eval (.tmp 5)) w' := hall.2.2.1 _ rfl
  have e6 : (fun u w' => ∃ v : FVal, u = v.val ∧ FIn B w' v S0) (a'.eval (.tmp 6)) w' := hall.2.2.2.1 _ rfl
  have e7 : (fun u _ => u = (.pointer (some ⟨sb, so, none⟩))) (a'.eval (.tmp 7)) w' := hall.2.2.2.2.1 _ rfl
  have e8 : (fun u _ => u = (.pointer (some ⟨sb, so, none⟩))) (a'.eval (.tmp 8)) w' := hall.2.2.2.2.2.1 _ rfl
  have e9 : (fun u _ => u = (.pointer (some ⟨sb, so + 4, none⟩))) (a'.eval (.tmp 9)) w' := hall.2.2.2.2.2.2.1 _ rfl
  have e10 : (fun u w' => ∃ v : FVal, u = v.val ∧ FIn B w' v S1) (a'.eval (.tmp 10)) w' := hall.2.2.2.2.2.2.2.1 _ rfl
  have e11 : (fun u _ => u = (.pointer (some ⟨sb, so, none⟩))) (a'.eval (.tmp 11)) w' := hall.2.2.2.2.2.2.2.2.1 _ rfl
  have e12 : (fun u _ => u = (.pointer (some ⟨sb, so, none⟩))) (a'.eval (.tmp 12)) w' := hall.2.2.2.2.2.2.2.2.2.1 _ rfl
  have e13 : (fun u _ => u = (.pointer (some ⟨sb, so + 3, none⟩))) (a'.eval (.tmp 13)) w' := hall.2.2.2.2.2.2.2.2.2.2.1 _ rfl
  have e14 : (fun u w' => ∃ v : FVal, u = v.val ∧ FIn B w' v S2) (a'.eval (.tmp 14)) w' := hall.2.2.2.2.2.2.2.2.2.2.2.1 _ rfl
  have e15 : (fun u _ => u = (.pointer (some ⟨sb, so, none⟩))) (a'.eval (.tmp 15)) w' := hall.2.2.2.2.2.2.2.2.2.2.2.2.1 _ rfl
  have e16 : (fun u _ => u = (.pointer (some ⟨sb, so, none⟩))) (a'.eval (.tmp 16)) w' := hall.2.2.2.2.2.2.2.2.2.2.2.2.2.1 _ rfl
  have e17 : (fun u _ => u = (.pointer (some ⟨sb, so, none⟩))) (a'.eval (.tmp 17)) w' := hall.2.2.2.2.2.2.2.2.2.2.2.2.2.2.1 _ rfl
  have e18 : (fun u w' => ∃ v : FVal, u = v.val ∧ FIn B w' v S3) (a'.eval (.tmp 18)) w' := hall.2.2.2.2.2.2.2.2.2.2.2.2.2.2.2.1 _ rfl
  have e19 : (fun u _ => u = (.pointer (some ⟨sb, so, none⟩))) (a'.eval (.tmp 19)) w' := hall.2.2.2.2.2.2.2.2.2.2.2.2.2.2.2.2.1 _ rfl
  have e20 : (fun u _ => u = (.pointer (some ⟨sb, so, none⟩))) (a'.eval (.tmp 20)) w' := hall.2.2.2.2.2.2.2.2.2.2.2.2.2.2.2.2.2.1 _ rfl
  have e21 : (fun u _ => u = (.pointer (some ⟨sb, so + 1, none⟩))) (a'.eval (.tmp 21)) w' := hall.2.2.2.2.2.2.2.2.2.2.2.2.2.2.2.2.2.2.1 _ rfl
  have e22 : (fun u w' => ∃ v : FVal, u = v.val ∧ FIn B w' v S4) (a'.eval (.tmp 22)) w' := hall.2.2.2.2.2.2.2.2.2.2.2.2.2.2.2.2.2.2.2.1 _ rfl
  obtain ⟨v6, hv6⟩ : ∃ v, a'.eval (.tmp 6) = v := ⟨_, rfl⟩
  rw [hv6] at e6
  obtain ⟨v10, hv10⟩ : ∃ v, a'.eval (.tmp 10) = v := ⟨_, rfl⟩
  rw [hv10] at e10
  obtain ⟨v14, hv14⟩ : ∃ v, a'.eval (.tmp 14) = v := ⟨_, rfl⟩
  rw [hv14] at e14
  obtain ⟨v18, hv18⟩ : ∃ v, a'.eval (.tmp 18) = v := ⟨_, rfl⟩
  rw [hv18] at e18
  obtain ⟨v22, hv22⟩ : ∃ v, a'.eval (.tmp 22) = v := ⟨_, rfl⟩
  rw [hv22] at e22
  simp only [List.foldl_cons, List.foldl_nil, Act.put, List.setIfInBounds_toArray, List.set_cons_succ, List.set_cons_zero, e3, e4, e5, hv6, e7, e8, e9, hv10, e11, e12, e13, hv14, e15, e16, e17, hv18, e19, e20, e21, hv22] at hA
  clear hO hall e3 e4 e5 hv6 e7 e8 e9 hv10 e11 e12 e13 hv14 e15 e16 e17 hv18 e19 e20 e21 hv22
  subst hA
  --ENDREGION
  obtain ⟨x0, rfl, s0⟩ := e6
  obtain ⟨x1, rfl, s1⟩ := e10
  obtain ⟨x2, rfl, s2⟩ := e14
  obtain ⟨x3, rfl, s3⟩ := e18
  obtain ⟨x4, rfl, s4⟩ := e22
  have HSS : Hid (FSems B w' [x0, x1, x2, x3, x4] [S0, S1, S2, S3, S4]) := Lib.hid ⟨rfl, fun i hi => by
    have : i = 0 ∨ i = 1 ∨ i = 2 ∨ i = 3 ∨ i = 4 := by simp [len] at hi; omega
    rcases this with rfl | rfl | rfl | rfl | rfl
    · exact s0.2
    · exact s1.2
    · exact s2.2
    · exact s3.2
    · exact s4.2⟩
  have HBW : Hid (Below w.heap.size w w' ∧ B ≤ w'.heap.size) := Lib.hid ⟨of_drew hE, s0.1⟩
  clear s0 s1 s2 s3 s4 hE
  unfold FVal.val
  go_wp2
  go_ret
  refine ⟨w'.heap.size, 5, [x0, x1, x2, x3, x4], rfl, ⟨Flds.block (l := [x0, x1, x2, x3, x4]) (heap_alloc_new w' _), _, heap_alloc_new w' _⟩, ?_, bnext HBW.out.1 (balloc (Below.refl _ _) _)⟩
  rw [HSP.out]
  exact HSS.out.later (Keep8.of_below (balloc (Below.refl _ _) _) HBW.out.2)
end Go.Proofs.YtihiaopilnjonaaGreatDoor
