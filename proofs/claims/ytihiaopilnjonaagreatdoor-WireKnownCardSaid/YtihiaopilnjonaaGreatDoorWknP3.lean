/- Parts of the proof, one behind the other. -/
import Derived.Test.YtihiaopilnjonaaGreatDoorWknP2
import Derived.Shelf.Strings.Builder1
import Derived.Shelf.Strings.Builder2
import Derived.Shelf.Strings.BuilderF
import Derived.Shelf.Strings.Prefix
import Derived.Shelf.Bits.Mul64
import Derived.Shelf.Strings.Repeat
import Derived.Test.YtihiaopilnjonaaGreatDoorProg
import Derived.Laws.BytesArg
import Derived.WalkMore
import Derived.Lib.SliceRun
import Derived.Laws.EntriesVeiled
import Derived.Deep.QuietTactic
import Derived.BigQuiet
import Derived.StillTailTactics
import Derived.Laws.Strings
import Derived.Maps.RangeRun
import Derived.Maps.RangeWalk
namespace Go.Proofs.YtihiaopilnjonaaGreatDoor
open Go.RowKit
set_option linter.unusedSimpArgs false
set_option linter.unusedVariables false
theorem extS_cell {VO : Nat → Option Nat} {w w1 : World} (h : ExtS VO w.drew w1) {b o : Nat} (hn : ∀ j, VO j ≠ some b) {v : Value} (hc : w.cell? ⟨b, o, none⟩ = some v) : w1.cell? ⟨b, o, none⟩ = some v := by
  rw [World.cell?_of_block (w := w) (h.block b (lt_of_cell hc) hn)]; exact hc
theorem told_none (w : World) : Calls Tryz.prog 31 #[.nilIface, .agg #[.int .i64 0, .int .i64 0]] w fun e w' => e = .returned (.bool true) ∧ Below w.heap.size w w' := by
  go_enter Tryz.func31, Tryz.ntmps31
  go_wp2
  go_ret
  exact ⟨rfl, by (repeat (first | exact Below.refl _ _ | assumption | (refine bdrew ?_) | (refine bdrewN ?_ _) | (refine balloc ?_ _) | (refine bset ?_ (by first | omega | (simp; done) | (simp; omega)) _) | (refine bnext ?_ (by assumption))))⟩
set_option maxRecDepth 100000 in
set_option maxHeartbeats 4000000 in
theorem told_fault (fb : Nat) (k : Int) (a : Nat) (w : World) (het : ErrType w) (h : FltB w fb k a) (hk : k ≠ 0) (hg : 0 < w.heap.size) : Calls Tryz.prog 31 #[.iface 127 (.pointer (some ⟨fb, 0, none⟩)), .agg #[.int .i64 k, .int .i64 a]] w fun e w' => e = .returned (.bool true) ∧ Below w.heap.size w w' := by
  have H := Lib.hid h
  have HET0 := Lib.hid het
  have hk1 : (k == 0) = false := by simpa using hk
  have hfl := lt_of_block h
  clear h het hk
  go_enter Tryz.func31, Tryz.ntmps31
  go_upto_region 4 with fail
  obtain ⟨b3, hb3⟩ : ∃ b3, w.heap.size = b3 := ⟨_, rfl⟩
  obtain ⟨W, hW⟩ : ∃ W, (w.alloc (.cells #[.int .i64 k, .int .i64 a] 63)).alloc (.cells #[.pointer none] 127) = W := ⟨_, rfl⟩
  have WB : Hid (Below w.heap.size w W) := Lib.hid (by rw [← hW]; exact balloc (balloc (Below.refl _ _) _) _)
  have W3 : Hid (W.heap[b3]? = some (.cells #[.int .i64 k, .int .i64 a] 63 (0, 0))) := Lib.hid (by rw [← hW, ← hb3]; exact block_alloc (heap_alloc_new _ _) _)
  obtain ⟨gb, hgb⟩ : ∃ gb, b3 + 1 = gb := ⟨_, rfl⟩
  have WG : Hid (W.heap[gb]? = some (.cells #[.pointer none] 127 (0, 0))) := Lib.hid (by rw [← hW, ← hgb]; exact alloc_new_at _ (by simp [hb3]))
  try rw [hW]
  try simp only [hb3, hgb]
  have hyg : fb ≠ gb := by omega
  have hzg : b3 ≠ gb := by omega
  have hgg : 0 ≠ gb := by omega
  have HET : Hid (ErrType W) := Lib.hid (HET0.out.below WB.out)
  have y0 : W.cell? ⟨fb, 0, none⟩ = some (.int .i64 k) := block_cell (H.out.below WB.out) 0
  have y1 : W.cell? ⟨fb, 1, none⟩ = some (.int .i64 a) := block_cell (H.out.below WB.out) 1
  have z0 : W.cell? ⟨b3, 0, none⟩ = some (.int .i64 k) := block_cell W3.out 0
  have z1 : W.cell? ⟨b3, 1, none⟩ = some (.int .i64 a) := block_cell W3.out 1
  have HGB : Hid (w.heap.size ≤ gb) := Lib.hid (by omega)
  clear hW hb3 hgb
  obtain ⟨VO, hVO⟩ : ∃ VO : Nat → Option Nat, VO = fun j => if j = 2 then some (gb) else none := ⟨_, rfl⟩
  have vok : VO 2 = some (gb) := by rw [hVO]; rfl
  have von : ∀ j, j ≠ 2 → VO j = none := fun j h1 => by rw [hVO]; simp [h1]
  have vob : ∀ j b, b ≠ gb → VO j ≠ some b := fun j b hb => by
    by_cases h : j = 2
    · subst h; rw [vok]; simp; exact fun e => hb e.symm
    · rw [von j h]; simp
  clear hVO
  have xrefl : ∀ j w, (fun (_ : Nat) (w1 w2 : World) => w1.heap[gb]? = some (.cells #[.pointer (some ⟨fb, 0, none⟩)] 127 (0, 0)) → w2.heap[gb]? = some (.cells #[.pointer (some ⟨fb, 0, none⟩)] 127 (0, 0))) j w w := fun j w h => h
  have voi : ∀ i j b, VO i = some b → VO j = some b → i = j := fun i j b h1 h2 => by
    by_cases e1 : i = 2
    · by_cases e2 : j = 2
      · rw [e1, e2]
      · rw [von j e2] at h2; cases h2
    · rw [von i e1] at h1; cases h1
  refine wp_region_tailV 17 VO voi (fun (_ : Nat) (w1 w2 : World) => w1.heap[gb]? = some (.cells #[.pointer (some ⟨fb, 0, none⟩)] 127 (0, 0)) → w2.heap[gb]? = some (.cells #[.pointer (some ⟨fb, 0, none⟩)] 127 (0, 0))) (fun _ => True) (fun _ _ _ _ _ => True) xrefl trivial (phis [fun u _ => u = (.iface 127 (.pointer (some ⟨fb, 0, none⟩))), fun u _ => u = (.iface 129 (.pointer (some ⟨gb, 0, none⟩))), fun u w' => u = .bool true ∧ w'.heap[gb]? = some (.cells #[.pointer (some ⟨fb, 0, none⟩)] 127 (0, 0)), fun u w' => u = .bool true ∧ w'.heap[gb]? = some (.cells #[.pointer (some ⟨fb, 0, none⟩)] 127 (0, 0)), fun u _ => u = (.pointer (some ⟨fb, 0, none⟩)), fun u _ => u = (.pointer (some ⟨fb, 0, none⟩)), fun u _ => u = (.agg #[.int .i64 k, .int .i64 a]), fun u _ => u = (.agg #[.int .i64 k, .int .i64 a]), fun u _ => u = (.bool true), fun u _ => u = (.bool true), fun u _ => u = (.bool true), fun u _ => u = (.iface 127 (.pointer (some ⟨fb, 0, none⟩))), fun u _ => u = (.pointer (some ⟨b3, 0, none⟩)), fun u _ => u = (.int .i64 k), fun u _ => u = (.iface 30 (.int .i64 k)), fun u _ => u = (.bool true), fun u _ => u = (.bool true)]) rfl (by kernel_rfl) (by kernel_rfl) (monoV_of ⟨monoV_eq, monoV_eq, ?m2, ?m3, monoV_eq, monoV_eq, monoV_eq, monoV_eq, monoV_eq, monoV_eq, monoV_eq, monoV_eq, monoV_eq, monoV_eq, monoV_eq, monoV_eq, monoV_eq, trivial⟩) (fun _ _ _ _ _ => trivial) (fun _ _ _ _ _ _ _ _ _ _ _ => trivial) (stepsV_of 17 ⟨?s0, ?s1, ?s2, ?s3, ?s4, ?s5, ?s6, ?s7, ?s8, ?s9, ?s10, ?s11, ?s12, ?s13, ?s14, ?s15, ?s16, trivial⟩) ?_
  case m2 =>
    exact fun j hj u w1 w2 he ⟨h1, h2⟩ => ⟨h1, he.2 h2⟩
  case m3 =>
    exact fun j hj u w1 w2 he ⟨h1, h2⟩ => ⟨h1, he.2 h2⟩
  case s0 =>
    refine stepV_val (v := (.iface 127 (.pointer (some ⟨fb, 0, none⟩)))) xrefl (fun _ _ _ _ => ⟨trivial, trivial⟩) (fun D av wv hE hO hD => ?_) (fun _ => rfl)
    have h0 : av.eval (.tmp 0) = (.iface 127 (.pointer (some ⟨fb, 0, none⟩))) := hO.2.2 0 rfl
    have f0 := (ev_form av 0).symm.trans h0
    refine ⟨rfl, ?_⟩
    simp [go_sem, f0]
  case s1 =>
    refine stepV_val (v := (.iface 129 (.pointer (some ⟨gb, 0, none⟩)))) xrefl (fun _ _ _ _ => ⟨trivial, trivial⟩) (fun D av wv hE hO hD => ?_) (fun _ => rfl)
    have h5 : av.eval (.tmp 5) = (.pointer (some ⟨gb, 0, none⟩)) := hO.2.2 5 rfl
    have f5 := (ev_form av 5).symm.trans h5
    refine ⟨rfl, ?_⟩
    simp [go_sem, f5]
  case s2 =>
    refine stepV_wp (fun D av wv hPP hE hO hD => ?_)
    have d20 : av.eval (.tmp 20) = (.iface 127 (.pointer (some ⟨fb, 0, none⟩))) := hD.1 rfl _ rfl
    have f20 := (ev_form av 20).symm.trans d20
    have d21 : av.eval (.tmp 21) = (.iface 129 (.pointer (some ⟨gb, 0, none⟩))) := hD.2.1 rfl _ rfl
    have f21 := (ev_form av 21).symm.trans d21
    refine ⟨rfl, ?_⟩
    have hg0 : wv.heap[gb]? = some (.cells #[.pointer none] 127 (0, 0)) := (hE.own gb vok (lt_of_block WG.out)).trans WG.out
    have het : ErrType wv := extS_cell hE.ext (fun j => vob j _ hgg) HET.out
    refine wp_of_callR (f := 71) (args := #[.iface 127 (.pointer (some ⟨fb, 0, none⟩)), .iface 129 (.pointer (some ⟨gb, 0, none⟩))]) (R := fun u w2 => (u = .bool true ∧ w2.heap[gb]? = some (.cells #[.pointer (some ⟨fb, 0, none⟩)] 127 (0, 0))) ∧ ExtB (some gb) wv w2) (by simp [go_sem, f20, f21]) ((as_fault fb gb none wv het hg0).mono (fun e w2 ⟨h1, h2, h3⟩ => ⟨_, h1, ⟨rfl, h3⟩, h2⟩)) (fun u w2 ⟨h1, h2⟩ => ⟨u, rfl, ⟨by rw [vok]; exact h2, fun _ => h1.2⟩, h1, fun _ _ _ _ _ => ⟨trivial, trivial⟩⟩)
  case s3 =>
    refine stepV_wp (fun D av wv hPP hE hO hD => ?_)
    have d22 : (fun u w' => u = .bool true ∧ w'.heap[gb]? = some (.cells #[.pointer (some ⟨fb, 0, none⟩)] 127 (0, 0))) (av.eval (.tmp 22)) wv := hD.1 rfl _ rfl
    refine ⟨rfl, ?_⟩
    obtain ⟨g1, g2⟩ := d22
    have f22 := (ev_form av 22).symm.trans g1
    exact wp_of_run (v := .bool true) (by simp [go_sem, f22]) ⟨_, rfl, esV_of_ext (Ext_refl _) (xrefl 0 _), ⟨rfl, g2⟩, fun _ _ _ _ _ => ⟨trivial, trivial⟩⟩
  case s4 =>
    refine stepV_val (v := (.pointer (some ⟨fb, 0, none⟩))) xrefl (fun _ _ _ _ => ⟨trivial, trivial⟩) (fun D av wv hE hO hD => ?_) (fun _ => rfl)
    have h5 : av.eval (.tmp 5) = (.pointer (some ⟨gb, 0, none⟩)) := hO.2.2 5 rfl
    have f5 := (ev_form av 5).symm.trans h5
    have d23 : (fun u w' => u = .bool true ∧ w'.heap[gb]? = some (.cells #[.pointer (some ⟨fb, 0, none⟩)] 127 (0, 0))) (av.eval (.tmp 23)) wv := hD.1 rfl _ rfl
    have g23 : av.eval (.tmp 23) = .bool true := d23.1
    have f23 := (ev_form av 23).symm.trans g23
    have y0 := extS_cell hE.ext (fun j => vob j _ hyg) y0
    have y1 := extS_cell hE.ext (fun j => vob j _ hyg) y1
    have z0 := extS_cell hE.ext (fun j => vob j _ hzg) z0
    have z1 := extS_cell hE.ext (fun j => vob j _ hzg) z1
    refine ⟨(wanted_of (d := 23) (b := true) (want := true) rfl rfl rfl g23), ?_⟩
    have q0 : wv.cell? ⟨gb, 0, none⟩ = some (.pointer (some ⟨fb, 0, none⟩)) := block_cell d23.2 0
    simp [go_sem, f5, q0]
  case s5 =>
    refine stepV_val (v := (.pointer (some ⟨fb, 0, none⟩))) xrefl (fun _ _ _ _ => ⟨trivial, trivial⟩) (fun D av wv hE hO hD => ?_) (fun _ => rfl)
    have d24 : av.eval (.tmp 24) = (.pointer (some ⟨fb, 0, none⟩)) := hD.1 rfl _ rfl
    have f24 := (ev_form av 24).symm.trans d24
    have d23 : (fun u w' => u = .bool true ∧ w'.heap[gb]? = some (.cells #[.pointer (some ⟨fb, 0, none⟩)] 127 (0, 0))) (av.eval (.tmp 23)) wv := hD.2.1 rfl _ rfl
    have g23 : av.eval (.tmp 23) = .bool true := d23.1
    have f23 := (ev_form av 23).symm.trans g23
    refine ⟨(wanted_of (d := 23) (b := true) (want := true) rfl rfl rfl g23), ?_⟩
    simp [go_sem, f24, f23]
  case s6 =>
    refine stepV_val (v := (.agg #[.int .i64 k, .int .i64 a])) xrefl (fun _ _ _ _ => ⟨trivial, trivial⟩) (fun D av wv hE hO hD => ?_) (fun _ => rfl)
    have d25 : av.eval (.tmp 25) = (.pointer (some ⟨fb, 0, none⟩)) := hD.1 rfl _ rfl
    have f25 := (ev_form av 25).symm.trans d25
    have d23 : (fun u w' => u = .bool true ∧ w'.heap[gb]? = some (.cells #[.pointer (some ⟨fb, 0, none⟩)] 127 (0, 0))) (av.eval (.tmp 23)) wv := hD.2.1 rfl _ rfl
    have g23 : av.eval (.tmp 23) = .bool true := d23.1
    have f23 := (ev_form av 23).symm.trans g23
    have y0 := extS_cell hE.ext (fun j => vob j _ hyg) y0
    have y1 := extS_cell hE.ext (fun j => vob j _ hyg) y1
    have z0 := extS_cell hE.ext (fun j => vob j _ hzg) z0
    have z1 := extS_cell hE.ext (fun j => vob j _ hzg) z1
    refine ⟨(wanted_of (d := 23) (b := true) (want := true) rfl rfl rfl g23), ?_⟩
    simp [go_sem, f25, f23, y0, y1, z0, z1]
  case s7 =>
    refine stepV_val (v := (.agg #[.int .i64 k, .int .i64 a])) xrefl (fun _ _ _ _ => ⟨trivial, trivial⟩) (fun D av wv hE hO hD => ?_) (fun _ => rfl)
    have h3 : av.eval (.tmp 3) = (.pointer (some ⟨b3, 0, none⟩)) := hO.2.2 3 rfl
    have f3 := (ev_form av 3).symm.trans h3
    have d23 : (fun u w' => u = .bool true ∧ w'.heap[gb]? = some (.cells #[.pointer (some ⟨fb, 0, none⟩)] 127 (0, 0))) (av.eval (.tmp 23)) wv := hD.1 rfl _ rfl
    have g23 : av.eval (.tmp 23) = .bool true := d23.1
    have f23 := (ev_form av 23).symm.trans g23
    have y0 := extS_cell hE.ext (fun j => vob j _ hyg) y0
    have y1 := extS_cell hE.ext (fun j => vob j _ hyg) y1
    have z0 := extS_cell hE.ext (fun j => vob j _ hzg) z0
    have z1 := extS_cell hE.ext (fun j => vob j _ hzg) z1
    refine ⟨(wanted_of (d := 23) (b := true) (want := true) rfl rfl rfl g23), ?_⟩
    simp [go_sem, f3, f23, y0, y1, z0, z1]
  case s8 =>
    refine stepV_val (v := (.bool true)) xrefl (fun _ _ _ _ => ⟨trivial, trivial⟩) (fun D av wv hE hO hD => ?_) (fun _ => rfl)
    have d26 : av.eval (.tmp 26) = (.agg #[.int .i64 k, .int .i64 a]) := hD.1 rfl _ rfl
    have f26 := (ev_form av 26).symm.trans d26
    have d27 : av.eval (.tmp 27) = (.agg #[.int .i64 k, .int .i64 a]) := hD.2.1 rfl _ rfl
    have f27 := (ev_form av 27).symm.trans d27
    have d23 : (fun u w' => u = .bool true ∧ w'.heap[gb]? = some (.cells #[.pointer (some ⟨fb, 0, none⟩)] 127 (0, 0))) (av.eval (.tmp 23)) wv := hD.2.2.1 rfl _ rfl
    have g23 : av.eval (.tmp 23) = .bool true := d23.1
    have f23 := (ev_form av 23).symm.trans g23
    refine ⟨(wanted_of (d := 23) (b := true) (want := true) rfl rfl rfl g23), ?_⟩
    simp [go_sem, f26, f27, f23]
  case s9 =>
    refine stepV_val (v := (.bool true)) xrefl (fun _ _ _ _ => ⟨trivial, trivial⟩) (fun D av wv hE hO hD => ?_) (fun _ => rfl)
    have d23 : (fun u w' => u = .bool true ∧ w'.heap[gb]? = some (.cells #[.pointer (some ⟨fb, 0, none⟩)] 127 (0, 0))) (av.eval (.tmp 23)) wv := hD.1 rfl _ rfl
    have g23 : av.eval (.tmp 23) = .bool true := d23.1
    have f23 := (ev_form av 23).symm.trans g23
    have d28 : av.eval (.tmp 28) = (.bool true) := hD.2.1 rfl _ rfl
    have f28 := (ev_form av 28).symm.trans d28
    refine ⟨rfl, ?_⟩
    simp [go_sem, f23, f28]
  case s10 =>
    refine stepV_val (v := (.bool true)) xrefl (fun _ _ _ _ => ⟨trivial, trivial⟩) (fun D av wv hE hO hD => ?_) (fun _ => rfl)
    have d29 : av.eval (.tmp 29) = (.bool true) := hD.1 rfl _ rfl
    have f29 := (ev_form av 29).symm.trans d29
    refine ⟨rfl, ?_⟩
    simp [go_sem, f29]
  case s11 =>
    refine stepV_val (v := (.iface 127 (.pointer (some ⟨fb, 0, none⟩)))) xrefl (fun _ _ _ _ => ⟨trivial, trivial⟩) (fun D av wv hE hO hD => ?_) (fun _ => rfl)
    have h0 : av.eval (.tmp 0) = (.iface 127 (.pointer (some ⟨fb, 0, none⟩))) := hO.2.2 0 rfl
    have f0 := (ev_form av 0).symm.trans h0
    have d30 : av.eval (.tmp 30) = (.bool true) := hD.1 rfl _ rfl
    have f30 := (ev_form av 30).symm.trans d30
    refine ⟨(wanted_of (d := 30) (b := true) (want := true) rfl rfl rfl d30), ?_⟩
    simp [go_sem, f0, f30]
  case s12 =>
    refine stepV_val (v := (.pointer (some ⟨b3, 0, none⟩))) xrefl (fun _ _ _ _ => ⟨trivial, trivial⟩) (fun D av wv hE hO hD => ?_) (fun _ => rfl)
    have h3 : av.eval (.tmp 3) = (.pointer (some ⟨b3, 0, none⟩)) := hO.2.2 3 rfl
    have f3 := (ev_form av 3).symm.trans h3
    have d30 : av.eval (.tmp 30) = (.bool true) := hD.1 rfl _ rfl
    have f30 := (ev_form av 30).symm.trans d30
    refine ⟨(wanted_of (d := 30) (b := true) (want := true) rfl rfl rfl d30), ?_⟩
    simp [go_sem, f3, f30]
  case s13 =>
    refine stepV_val (v := (.int .i64 k)) xrefl (fun _ _ _ _ => ⟨trivial, trivial⟩) (fun D av wv hE hO hD => ?_) (fun _ => rfl)
    have d32 : av.eval (.tmp 32) = (.pointer (some ⟨b3, 0, none⟩)) := hD.1 rfl _ rfl
    have f32 := (ev_form av 32).symm.trans d32
    have d30 : av.eval (.tmp 30) = (.bool true) := hD.2.1 rfl _ rfl
    have f30 := (ev_form av 30).symm.trans d30
    have y0 := extS_cell hE.ext (fun j => vob j _ hyg) y0
    have y1 := extS_cell hE.ext (fun j => vob j _ hyg) y1
    have z0 := extS_cell hE.ext (fun j => vob j _ hzg) z0
    have z1 := extS_cell hE.ext (fun j => vob j _ hzg) z1
    refine ⟨(wanted_of (d := 30) (b := true) (want := true) rfl rfl rfl d30), ?_⟩
    simp [go_sem, f32, f30, y0, y1, z0, z1]
  case s14 =>
    refine stepV_val (v := (.iface 30 (.int .i64 k))) xrefl (fun _ _ _ _ => ⟨trivial, trivial⟩) (fun D av wv hE hO hD => ?_) (fun _ => rfl)
    have d33 : av.eval (.tmp 33) = (.int .i64 k) := hD.1 rfl _ rfl
    have f33 := (ev_form av 33).symm.trans d33
    have d30 : av.eval (.tmp 30) = (.bool true) := hD.2.1 rfl _ rfl
    have f30 := (ev_form av 30).symm.trans d30
    refine ⟨(wanted_of (d := 30) (b := true) (want := true) rfl rfl rfl d30), ?_⟩
    simp [go_sem, f33, f30]
  case s15 =>
    refine stepV_wp (fun D av wv hPP hE hO hD => ?_)
    have d31 : av.eval (.tmp 31) = (.iface 127 (.pointer (some ⟨fb, 0, none⟩))) := hD.1 rfl _ rfl
    have f31 := (ev_form av 31).symm.trans d31
    have d34 : av.eval (.tmp 34) = (.iface 30 (.int .i64 k)) := hD.2.1 rfl _ rfl
    have f34 := (ev_form av 34).symm.trans d34
    have d30 : av.eval (.tmp 30) = (.bool true) := hD.2.2.1 rfl _ rfl
    have f30 := (ev_form av 30).symm.trans d30
    refine ⟨(wanted_of (d := 30) (b := true) (want := true) rfl rfl rfl d30), ?_⟩
    refine wp_of_callR (f := 72) (args := #[.iface 127 (.pointer (some ⟨fb, 0, none⟩)), .iface 30 (.int .i64 k)]) (R := fun u w2 => u = .bool true ∧ w2 = wv) (by simp [go_sem, f31, f34]) ((is_fault fb k k wv (extS_cell hE.ext (fun j => vob j _ hyg) y0)).mono (fun e w2 ⟨h1, h2⟩ => ⟨_, h1, by simp, h2⟩)) (fun u w2 ⟨h1, h2⟩ => ⟨u, rfl, esV_of_ext (by rw [h2]; exact Ext_refl _) (by rw [h2]; exact xrefl 0 _), h1, fun _ _ _ _ _ => ⟨trivial, trivial⟩⟩)
  case s16 =>
    refine stepV_val (v := (.bool true)) xrefl (fun _ _ _ _ => ⟨trivial, trivial⟩) (fun D av wv hE hO hD => ?_) (fun _ => rfl)
    have d30 : av.eval (.tmp 30) = (.bool true) := hD.1 rfl _ rfl
    have f30 := (ev_form av 30).symm.trans d30
    have d35 : av.eval (.tmp 35) = (.bool true) := hD.2.1 rfl _ rfl
    have f35 := (ev_form av 35).symm.trans d35
    refine ⟨rfl, ?_⟩
    simp [go_sem, f30, f35]
  intro a' w' hE _ hO hall _
  have hA := act_of_outer (ds := [20, 21, 22, 23, 24, 25, 26, 27, 28, 29, 30, 31, 32, 33, 34, 35, 36]) rfl hO (by kernel_rfl)
  have e20 : (fun u _ => u = (.iface 127 (.pointer (some ⟨fb, 0, none⟩)))) (a'.eval (.tmp 20)) w' := hall.1 _ rfl
  have e21 : (fun u _ => u = (.iface 129 (.pointer (some ⟨gb, 0, none⟩)))) (a'.eval (.tmp 21)) w' := hall.2.1 _ rfl
  have e22 : (fun u w' => u = .bool true ∧ w'.heap[gb]? = some (.cells #[.pointer (some ⟨fb, 0, none⟩)] 127 (0, 0))) (a'.eval (.tmp 22)) w' := hall.2.2.1 _ rfl
  have e23 : (fun u w' => u = .bool true ∧ w'.heap[gb]? = some (.cells #[.pointer (some ⟨fb, 0, none⟩)] 127 (0, 0))) (a'.eval (.tmp 23)) w' := hall.2.2.2.1 _ rfl
  have e24 : (fun u _ => u = (.pointer (some ⟨fb, 0, none⟩))) (a'.eval (.tmp 24)) w' := hall.2.2.2.2.1 _ rfl
  have e25 : (fun u _ => u = (.pointer (some ⟨fb, 0, none⟩))) (a'.eval (.tmp 25)) w' := hall.2.2.2.2.2.1 _ rfl
  have e26 : (fun u _ => u = (.agg #[.int .i64 k, .int .i64 a])) (a'.eval (.tmp 26)) w' := hall.2.2.2.2.2.2.1 _ rfl
  have e27 : (fun u _ => u = (.agg #[.int .i64 k, .int .i64 a])) (a'.eval (.tmp 27)) w' := hall.2.2.2.2.2.2.2.1 _ rfl
  have e28 : (fun u _ => u = (.bool true)) (a'.eval (.tmp 28)) w' := hall.2.2.2.2.2.2.2.2.1 _ rfl
  have e29 : (fun u _ => u = (.bool true)) (a'.eval (.tmp 29)) w' := hall.2.2.2.2.2.2.2.2.2.1 _ rfl
  have e30 : (fun u _ => u = (.bool true)) (a'.eval (.tmp 30)) w' := hall.2.2.2.2.2.2.2.2.2.2.1 _ rfl
  have e31 : (fun u _ => u = (.iface 127 (.pointer (some ⟨fb, 0, none⟩)))) (a'.eval (.tmp 31)) w' := hall.2.2.2.2.2.2.2.2.2.2.2.1 _ rfl
  have e32 : (fun u _ => u = (.pointer (some ⟨b3, 0, none⟩))) (a'.eval (.tmp 32)) w' := hall.2.2.2.2.2.2.2.2.2.2.2.2.1 _ rfl
  have e33 : (fun u _ => u = (.int .i64 k)) (a'.eval (.tmp 33)) w' := hall.2.2.2.2.2.2.2.2.2.2.2.2.2.1 _ rfl
  have e34 : (fun u _ => u = (.iface 30 (.int .i64 k))) (a'.eval (.tmp 34)) w' := hall.2.2.2.2.2.2.2.2.2.2.2.2.2.2.1 _ rfl
  have e35 : (fun u _ => u = (.bool true)) (a'.eval (.tmp 35)) w' := hall.2.2.2.2.2.2.2.2.2.2.2.2.2.2.2.1 _ rfl
  have e36 : (fun u _ => u = (.bool true)) (a'.eval (.tmp 36)) w' := hall.2.2.2.2.2.2.2.2.2.2.2.2.2.2.2.2.1 _ rfl
  obtain ⟨v22, hv22⟩ : ∃ v, a'.eval (.tmp 22) = v := ⟨_, rfl⟩
  rw [hv22] at e22
  obtain ⟨v23, hv23⟩ : ∃ v, a'.eval (.tmp 23) = v := ⟨_, rfl⟩
  rw [hv23] at e23
  simp only [List.foldl_cons, List.foldl_nil, Act.put, List.setIfInBounds_toArray, List.set_cons_succ, List.set_cons_zero, e20, e21, hv22, hv23, e24, e25, e26, e27, e28, e29, e30, e31, e32, e33, e34, e35, e36] at hA
  clear hO hall e20 e21 hv22 hv23 e24 e25 e26 e27 e28 e29 e30 e31 e32 e33 e34 e35 e36
  subst hA
  have HX : Hid (ExtS VO W w') := Lib.hid ⟨hE.os, hE.tape, hE.output, hE.size, hE.block⟩
  have HV : Hid (∀ j b, b ≠ gb → VO j ≠ some b) := Lib.hid vob
  clear hE vob von vok voi xrefl y0 y1 z0 z1
  go_wp2
  go_ret
  exact ⟨rfl, HX.out.os.trans WB.out.os, HX.out.tape.trans WB.out.tape, HX.out.output.trans WB.out.output, Nat.le_trans WB.out.size HX.out.size, fun i hi => (HX.out.block i (Nat.lt_of_lt_of_le hi WB.out.size) (fun j => HV.out j i (by have := HGB.out; omega))).trans (WB.out.block i hi)⟩
end Go.Proofs.YtihiaopilnjonaaGreatDoor
namespace Go.Proofs
set_option linter.unusedSimpArgs false
set_option linter.unusedVariables false
open Go.Shelf
def Tryz.lays105_ren : Go.Shelf.Ren := ⟨fun | 105 => 102 | 212 => 164 | 99 => 165 | 165 => 166 | 166 => 167 | 170 => 168 | 169 => 169 | 263 => 234 | 264 => 235 | 206 => 236 | 240 => 237 | 241 => 238 | 276 => 257 | 277 => 258 | n => n, fun | 9 => 9 | 3 => 3 | 4 => 4 | 20 => 20 | 0 => 0 | 46 => 251 | 109 => 252 | 5 => 5 | 72 => 257 | 76 => 259 | 51 => 315 | 146 => 316 | 53 => 23 | 148 => 318 | 70 => 255 | 37 => 106 | 75 => 59 | 127 => 320 | 164 => 211 | 80 => 144 | n => n, fun | n => n⟩
theorem Tryz.lays105 : Go.Proofs.Lays.n105 Tryz.prog Tryz.lays105_ren := {
  mixed := by kernel_rfl
  f99 := Tryz.func165.trans (congrArg some (by kernel_rfl))
  f105 := Tryz.func102.trans (congrArg some (by kernel_rfl))
  f165 := Tryz.func166.trans (congrArg some (by kernel_rfl))
  f166 := Tryz.func167.trans (congrArg some (by kernel_rfl))
  f169 := Tryz.func169.trans (congrArg some (by kernel_rfl))
  f170 := Tryz.func168.trans (congrArg some (by kernel_rfl))
  f206 := Tryz.func236.trans (congrArg some (by kernel_rfl))
  f212 := Tryz.func164.trans (congrArg some (by kernel_rfl))
  f240 := Tryz.func237.trans (congrArg some (by kernel_rfl))
  f241 := Tryz.func238.trans (congrArg some (by kernel_rfl))
  f263 := Tryz.func234.trans (congrArg some (by kernel_rfl))
  f264 := Tryz.func235.trans (congrArg some (by kernel_rfl))
  f276 := Tryz.func257.trans (congrArg some (by kernel_rfl))
  f277 := Tryz.func258.trans (congrArg some (by kernel_rfl))
  t0 := Tryz.underlying0
  a0 := Tryz.isAgg0
  z0 := Tryz.sizeOf0
  v0 := Tryz.zeroValue0
  t3 := Tryz.underlying3
  a3 := Tryz.isAgg3
  z3 := Tryz.sizeOf3
  v3 := Tryz.zeroValue3
  t4 := Tryz.underlying4
  a4 := Tryz.isAgg4
  z4 := Tryz.sizeOf4
  v4 := Tryz.zeroValue4
  t5 := Tryz.underlying5
  a5 := Tryz.isAgg5
  z5 := Tryz.sizeOf5
  v5 := Tryz.zeroValue5
  t9 := Tryz.underlying9
  a9 := Tryz.isAgg9
  z9 := Tryz.sizeOf9
  v9 := Tryz.zeroValue9
  t20 := Tryz.underlying20
  a20 := Tryz.isAgg20
  z20 := Tryz.sizeOf20
  v20 := Tryz.zeroValue20
  t37 := Tryz.underlying106
  a37 := Tryz.isAgg106
  z37 := Tryz.sizeOf106
  v37 := Tryz.zeroValue106
  t46 := Tryz.underlying251
  a46 := Tryz.isAgg251
  z46 := Tryz.sizeOf251
  v46 := Tryz.zeroValue251
  t51 := Tryz.underlying315
  a51 := Tryz.isAgg315
  z51 := Tryz.sizeOf315
  v51 := Tryz.zeroValue315
  t53 := Tryz.underlying23
  a53 := Tryz.isAgg23
  z53 := Tryz.sizeOf23
  v53 := Tryz.zeroValue23
  t70 := Tryz.underlying255
  a70 := Tryz.isAgg255
  z70 := Tryz.sizeOf255
  v70 := Tryz.zeroValue255
  t72 := Tryz.underlying257
  a72 := Tryz.isAgg257
  z72 := Tryz.sizeOf257
  v72 := Tryz.zeroValue257
  t75 := Tryz.underlying59
  a75 := Tryz.isAgg59
  z75 := Tryz.sizeOf59
  v75 := Tryz.zeroValue59
  t76 := Tryz.underlying259
  a76 := Tryz.isAgg259
  z76 := Tryz.sizeOf259
  v76 := Tryz.zeroValue259
  t109 := Tryz.underlying252
  a109 := Tryz.isAgg252
  z109 := Tryz.sizeOf252
  v109 := Tryz.zeroValue252
  t127 := Tryz.underlying320
  a127 := Tryz.isAgg320
  z127 := Tryz.sizeOf320
  v127 := Tryz.zeroValue320
  t146 := Tryz.underlying316
  a146 := Tryz.isAgg316
  z146 := Tryz.sizeOf316
  v146 := Tryz.zeroValue316
  t148 := Tryz.underlying318
  a148 := Tryz.isAgg318
  z148 := Tryz.sizeOf318
  v148 := Tryz.zeroValue318
  t164 := Tryz.underlying211
  a164 := Tryz.isAgg211
  z164 := Tryz.sizeOf211
  v164 := Tryz.zeroValue211 }
theorem Tryz.Builder_Extra_105 : Builder.Extra Tryz.prog Tryz.lays105_ren := {
  sizeBuilder := by kernel_rfl
  liesBuilder := by kernel_rfl
  t5 := Tryz.underlying5
  a5 := Tryz.isAgg5
  z5 := Tryz.sizeOf5
  v5 := Tryz.zeroValue5
  infoByte := by kernel_rfl
  cellsByte := by kernel_rfl
  sizeByte := by kernel_rfl
  neB5 := by decide }
open Go.RowKit Go.Lib in
theorem Tryz.strings_Repeat (s : ByteArray) (c : Nat) (w : World) (hc : c ≤ 9223372036854775807) (hlen : s.size * c ≤ 140737488355328) :
    Calls Tryz.prog 102 #[.string s, .int .i64 c] w fun e w' => e = .returned (.string ⟨(Lib.repeatL s.data.toList c).toArray⟩) ∧ Below w.heap.size w w' := Any.strings_Repeat Tryz.lays105 Tryz.Builder_Extra_105 s c w hc hlen
end Go.Proofs
namespace Go.Proofs.YtihiaopilnjonaaGreatDoor
open Go.RowKit
set_option linter.unusedSimpArgs false
set_option linter.unusedVariables false
def fullR : ByteArray := ⟨(Go.Lib.repeatL [114] 32).toArray⟩
theorem full_any (w : World) : Calls Tryz.prog 54 #[.string ⟨#[114]⟩] w fun e w' => e = .returned (.string fullR) ∧ Below w.heap.size w w' := by
  go_enter Tryz.func54, Tryz.ntmps54
  go_wp2_with fail
  refine (Tryz.strings_Repeat ⟨#[114]⟩ 32 _ (by decide) (by decide)).mono ?_
  rintro e w1 ⟨rfl, hb⟩
  go_wp2
  go_ret
  exact ⟨rfl, hb⟩
end Go.Proofs.YtihiaopilnjonaaGreatDoor
namespace Go.Proofs.YtihiaopilnjonaaGreatDoor
open Go.RowKit
set_option linter.unusedSimpArgs false
set_option linter.unusedVariables false
set_option maxRecDepth 100000 in
theorem says_all {B : Nat} {W0 w : World} {l : List FVal} {fs : List FSpec} (h : FSems B W0 l fs) (hk : Keep8 B W0 w) : SaysF w l 171 #[] (fun i => !(spth fs i).may) := by
  refine ⟨enters_of Tryz.func171 (by kernel_rfl) rfl, fun i hi w' hb => ?_⟩
  show Calls Tryz.prog 171 (#[(fth l i).val] ++ #[]) w' (fun e w'' => e = .returned (.bool (!(spth fs i).may)) ∧ Below w'.heap.size w' w'')
  have hs := h.2 i hi
  generalize fth l i = v at hs
  generalize spth fs i = f at hs
  have em := hs.em
  have HM : Hid (∀ x, Below w'.heap.size w' x → Calls Tryz.prog v.mf v.mc x fun e w' => e = .returned (.bool f.may) ∧ Below x.heap.size x w') := Lib.hid (fun x hx => hs.may x ((hk.next hb).next hx))
  clear hs
  show Calls Tryz.prog 171 #[v.val] w' _
  unfold FVal.val
  go_enter Tryz.func171, Tryz.ntmps171
  go_wp2_with fail
  refine (HM.out _ (balloc (Below.refl _ _) _)).mono ?_
  rintro e w1 ⟨rfl, hb1⟩
  have HB1 : Hid (Below w'.heap.size w' w1) := Lib.hid (bnext (balloc (Below.refl _ _) _) hb1)
  clear hb1
  go_wp2
  go_ret
  exact ⟨rfl, HB1.out⟩
set_option maxRecDepth 100000 in
theorem says_lay {B : Nat} {W0 w : World} {l : List FVal} {fs : List FSpec} (h : FSems B W0 l fs) (hk : Keep8 B W0 w) : SaysF w l 174 #[] (fun i => (spth fs i).empty) := by
  refine ⟨enters_of Tryz.func174 (by kernel_rfl) rfl, fun i hi w' hb => ?_⟩
  show Calls Tryz.prog 174 (#[(fth l i).val] ++ #[]) w' (fun e w'' => e = .returned (.bool ((spth fs i).empty)) ∧ Below w'.heap.size w' w'')
  have hs := h.2 i hi
  generalize fth l i = v at hs
  generalize spth fs i = f at hs
  have ee := hs.ee
  have HM : Hid (∀ x, Below w'.heap.size w' x → Calls Tryz.prog v.ef v.ec x fun e w' => e = .returned (.bool f.empty) ∧ Below x.heap.size x w') := Lib.hid (fun x hx => hs.empty x ((hk.next hb).next hx))
  clear hs
  show Calls Tryz.prog 174 #[v.val] w' _
  unfold FVal.val
  go_enter Tryz.func174, Tryz.ntmps174
  go_wp2_with fail
  refine (HM.out _ (balloc (Below.refl _ _) _)).mono ?_
  rintro e w1 ⟨rfl, hb1⟩
  have HB1 : Hid (Below w'.heap.size w' w1) := Lib.hid (bnext (balloc (Below.refl _ _) _) hb1)
  clear hb1
  go_wp2
  go_ret
  exact ⟨rfl, HB1.out⟩
set_option maxRecDepth 100000 in
theorem says_full {B : Nat} {W0 w : World} {l : List FVal} {fs : List FSpec} (h : FSems B W0 l fs) (hk : Keep8 B W0 w) : SaysF w l 179 #[] (fun i => !(spth fs i).empty) := by
  refine ⟨enters_of Tryz.func179 (by kernel_rfl) rfl, fun i hi w' hb => ?_⟩
  show Calls Tryz.prog 179 (#[(fth l i).val] ++ #[]) w' (fun e w'' => e = .returned (.bool (!(spth fs i).empty)) ∧ Below w'.heap.size w' w'')
  have hs := h.2 i hi
  generalize fth l i = v at hs
  generalize spth fs i = f at hs
  have ee := hs.ee
  have HM : Hid (∀ x, Below w'.heap.size w' x → Calls Tryz.prog v.ef v.ec x fun e w' => e = .returned (.bool f.empty) ∧ Below x.heap.size x w') := Lib.hid (fun x hx => hs.empty x ((hk.next hb).next hx))
  clear hs
  show Calls Tryz.prog 179 #[v.val] w' _
  unfold FVal.val
  go_enter Tryz.func179, Tryz.ntmps179
  go_wp2_with fail
  refine (HM.out _ (balloc (Below.refl _ _) _)).mono ?_
  rintro e w1 ⟨rfl, hb1⟩
  have HB1 : Hid (Below w'.heap.size w' w1) := Lib.hid (bnext (balloc (Below.refl _ _) _) hb1)
  clear hb1
  go_wp2
  go_ret
  exact ⟨rfl, HB1.out⟩
set_option maxRecDepth 100000 in
theorem says_must {B : Nat} {W0 w : World} {l : List FVal} {fs : List FSpec} (h : FSems B W0 l fs) : SaysF w l 177 #[] (fun i => (spth fs i).must) := by
  refine ⟨enters_of Tryz.func177 (by kernel_rfl) rfl, fun i hi w' hb => ?_⟩
  show Calls Tryz.prog 177 (#[(fth l i).val] ++ #[]) w' (fun e w'' => e = .returned (.bool ((spth fs i).must)) ∧ Below w'.heap.size w' w'')
  have hs := (h.2 i hi).must
  generalize fth l i = v at hs
  generalize spth fs i = f at hs
  show Calls Tryz.prog 177 #[v.val] w' _
  have HS := Lib.hid hs
  clear hs
  unfold FVal.val
  go_enter Tryz.func177, Tryz.ntmps177
  go_wp2
  go_ret
  exact ⟨ret_bool HS.out, by (repeat (first | exact Below.refl _ _ | assumption | (refine bdrew ?_) | (refine bdrewN ?_ _) | (refine balloc ?_ _) | (refine bset ?_ (by first | omega | (simp; done) | (simp; omega)) _) | (refine bnext ?_ (by assumption))))⟩
theorem allMay_iff (fs : List FSpec) (n : Nat) (h : len fs = n) : (allMay fs = false ↔ ∃ i, i < n ∧ (!(spth fs i).may) = true) := by
  unfold allMay
  subst h
  rw [List.all_eq_false]
  constructor
  · rintro ⟨x, hx, hm⟩
    obtain ⟨i, hi, rfl⟩ := List.getElem_of_mem hx
    exact ⟨i, hi, by rw [spth_eq fs i hi]; simpa using hm⟩
  · rintro ⟨i, hi, hm⟩
    have hi' : i < fs.length := hi
    exact ⟨fs[i], List.getElem_mem _, by rw [spth_eq fs i hi'] at hm; simpa using hm⟩
theorem all_any (B : Nat) (W0 : World) (a : Option Addr) (c : Nat) (l : List FVal) (fs : List FSpec) (w : World) (hl : Flds w a l) (hn : len l ≤ 1000) (hS : FSems B W0 l fs) (hk : Keep8 B W0 w) :
    Calls Tryz.prog 103 #[.slice a (len l) c] w fun e w' => e = .returned (.bool (allMay fs)) ∧ Below w.heap.size w w' := by
  have H := Lib.hid (containsf_any a c l 171 #[] _ w hl hn (says_all hS hk))
  have HI := Lib.hid (allMay_iff fs (len l) hS.1)
  clear hl hS hk
  go_enter Tryz.func103, Tryz.ntmps103
  go_wp2_with fail
  refine H.out.mono ?_
  rintro e w1 ⟨b, rfl, hb1, hb⟩
  have HB := Lib.hid hb
  have HE : Hid ((!b) = allMay fs) := Lib.hid (by
    have h := HI.out
    cases b with
    | true => rw [h.2 (hb1.1 rfl)]; rfl
    | false =>
      cases hm : allMay fs with
      | true => rfl
      | false => exact absurd (hb1.2 (h.1 hm)) (by decide))
  clear hb hb1
  go_wp2
  go_ret
  exact ⟨ret_bool HE.out, HB.out⟩
end Go.Proofs.YtihiaopilnjonaaGreatDoor
namespace Go.Proofs.YtihiaopilnjonaaGreatDoor
open Go.RowKit
set_option linter.unusedSimpArgs false
set_option linter.unusedVariables false
theorem info_field : (Tryz.prog.info? 172).map (fun i => (i.zero, i.size, i.bytes)) = some (some (.agg #[.string ByteArray.empty, .bool false, .nilFunc, .nilFunc, .nilFunc, .nilFunc]), 6, 56) := by kernel_rfl
theorem flds_news {w : World} {b off : Nat} {l : List FVal} (h : Flds w (some ⟨b, off, none⟩) l) : ∀ j u, (l.flatMap FVal.cells)[j]? = some u → w.cell? ((⟨b, off, none⟩ : Addr).add j) = some u := by
  intro j u hu
  have hj : j < (l.flatMap FVal.cells).length := (List.getElem?_eq_some_iff.1 hu).1
  rw [flat_length FVal.cells 6 FVal.cells_len] at hj
  have hi : j / 6 < l.length := by omega
  have e := flat_get FVal.cells 6 FVal.cells_len l (j / 6) (j % 6) hi (by omega)
  rw [show j / 6 * 6 + j % 6 = j by omega] at e
  rw [e] at hu
  obtain ⟨b', off', e2, c0, c1, c2, c3, c4, c5⟩ := h (j / 6) hi
  cases e2
  rw [fth_eq l _ hi] at c0 c1 c2 c3 c4 c5
  have ha : (⟨b, off, none⟩ : Addr).add j = ⟨b, off + j, none⟩ := by
    unfold Addr.add; split
    · rename_i h0; subst h0; rfl
    · rfl
  rw [ha]
  have hr : j % 6 = 0 ∨ j % 6 = 1 ∨ j % 6 = 2 ∨ j % 6 = 3 ∨ j % 6 = 4 ∨ j % 6 = 5 := by omega
  have hq : off + j = off + j / 6 * 6 + j % 6 := by omega
  rw [hq]
  rcases hr with h0 | h0 | h0 | h0 | h0 | h0 <;> rw [h0] at hu ⊢
  · rw [Nat.add_zero, c0]; exact hu
  · rw [c1]; exact hu
  · rw [c2]; exact hu
  · rw [c3]; exact hu
  · rw [c4]; exact hu
  · rw [c5]; exact hu
theorem flds_one (l : List FVal) : ∀ u ∈ l.flatMap FVal.cells, u.oneCell' = true := by
  intro u hu
  obtain ⟨v, _, hv⟩ := List.mem_flatMap.1 hu
  exact v.cells_one u hv
set_option maxRecDepth 100000 in
theorem clone_any (b off c : Nat) (l : List FVal) (w : World) (hl : Flds w (some ⟨b, off, none⟩) l) (hn : len l ≤ 1000) :
    Calls Tryz.prog 173 #[.slice (some ⟨b, off, none⟩) (len l) c] w fun e w' => ∃ v, e = .returned v ∧ w'.ownsRow w.heap.size 172 6 v (len l) (l.flatMap FVal.cells) ∧ Below w.heap.size w w' := by
  have HL := Lib.hid hl
  obtain ⟨i0, hi, hz0, hz1, hz2⟩ := info_parts info_field
  have HZ := Lib.hid hz0
  have E0 : Hid ((w.alloc (.cells #[] 172)).ownsRow w.heap.size 172 6 (.slice (some ⟨w.heap.size, 0, none⟩) 0 0) 0 []) := Lib.hid (World.ownsRow_lit w #[] 0 (Nat.le_refl _) (Nat.zero_le _) rfl)
  have heq : ∀ W, (binOp .eql 113 (.slice (some ⟨b, off, none⟩) (len l) c) (.slice none 0 0)).run Tryz.prog W = .ok (.bool false) W := fun W => Lib.run_eql_slice_nil W 113 172 (some ⟨b, off, none⟩) (len l) c 0 0 Tryz.underlying113
  clear hl hz0
  go_enter Tryz.func173, Tryz.ntmps173
  go_wp2_with (at_builtin; refine wpList_append_own _ rfl _ _ 113 rfl w.heap.size 172 i0 (.agg #[.string ByteArray.empty, .bool false, .nilFunc, .nilFunc, .nilFunc, .nilFunc]) 6 56 Tryz.underlying113 hi HZ.out hz1 hz2 rfl (by decide) _ 0 [] rfl E0.out ⟨b, off, none⟩ (len l) c (l.flatMap FVal.cells) rfl (flat_length FVal.cells 6 FVal.cells_len l) (flds_news (HL.out.below (balloc (Below.refl _ _) _))) (flds_one l) (by unfold maxLen; omega) (by omega) (by simp) ?_)
  intro v' w2 hown hgrow _
  have HB : Hid (Below w.heap.size w w2) := Lib.hid (grownBy_below (balloc (Below.refl _ _) _) hgrow (fun k hk => by simp [Value.ownBlock] at hk; omega))
  have HO : Hid (w2.ownsRow w.heap.size 172 6 v' (len l) (l.flatMap FVal.cells)) := Lib.hid (by simpa using hown)
  clear hown hgrow
  go_wp2
  go_ret
  exact ⟨_, rfl, HO.out, HB.out⟩
def RowC (w : World) (g n : Nat) (R : List FVal) : Prop := len R = n ∧ ∃ cur, w.heap[g]? = some (.cells cur 172 (0, 0)) ∧ n * 6 ≤ cur.size ∧ ∀ i, i < n → ∀ r, r < 6 → cur[i * 6 + r]? = (fth R i).cells[r]?
theorem RowC.of_own {w : World} {base n : Nat} {v : Value} {l : List FVal} (h : w.ownsRow base 172 6 v n (l.flatMap FVal.cells)) (hn : 0 < n) : ∃ g cap, v = .slice (some ⟨g, 0, none⟩) n cap ∧ base ≤ g ∧ n ≤ cap ∧ RowC w g n l := by
  have hl : len l = n := by have := h.1; rw [flat_length FVal.cells 6 FVal.cells_len] at this; rw [len_eq]; omega
  rcases h.2 with ⟨_, h0⟩ | ⟨g, cap, cur, rfl, hg, hh, hc1, hc2, hc3, hc4⟩
  · omega
  · refine ⟨g, cap, rfl, hg, hc1, hl, cur, hh, by omega, fun i hi r hr => ?_⟩
    have hil : i < l.length := by rw [← len_eq, hl]; exact hi
    have e := flat_get FVal.cells 6 FVal.cells_len l i r hil hr
    rw [fth_eq l i hil, ← e, ← hc4, List.getElem?_take, if_pos (by omega)]
    simp
theorem RowC.at {w : World} {g n : Nat} {R : List FVal} (h : RowC w g n R) {i : Nat} (hi : i < n) : FValAt w g (i * 6) (fth R i) := by
  obtain ⟨_, cur, h1, h2, h3⟩ := h
  have key : ∀ r, r < 6 → w.cell? ⟨g, i * 6 + r, none⟩ = (fth R i).cells[r]? := fun r hr => by rw [block_cell h1]; exact h3 i hi r hr
  exact ⟨key 0 (by decide), key 1 (by decide), key 2 (by decide), key 3 (by decide), key 4 (by decide), key 5 (by decide)⟩
theorem RowC.flds {w : World} {g n : Nat} {R : List FVal} (h : RowC w g n R) : Flds w (some ⟨g, 0, none⟩) R := fun i hi => ⟨g, 0, rfl, by rw [Nat.zero_add]; exact h.at (by rw [← h.1]; exact hi)⟩
theorem RowC.free {w : World} {g n : Nat} {R : List FVal} (h : RowC w g n R) (o : Nat) : w.frozen? ⟨g, o, none⟩ = false := by
  obtain ⟨_, cur, h1, _⟩ := h; exact block_free h1 o
theorem RowC.keep {w w' : World} {g n : Nat} {R : List FVal} (h : RowC w g n R) (hk : w'.heap[g]? = w.heap[g]?) : RowC w' g n R := by
  obtain ⟨h0, cur, h1, h2⟩ := h; exact ⟨h0, cur, hk.trans h1, h2⟩
theorem RowC.lt {w : World} {g n : Nat} {R : List FVal} (h : RowC w g n R) : g < w.heap.size := by
  obtain ⟨_, cur, h1, _⟩ := h; exact lt_of_block h1
def keptV (p : Nat → Bool) (l : List FVal) : Nat → List FVal
  | 0 => []
  | m + 1 => if p m then keptV p l m else keptV p l m ++ [fth l m]
theorem keptV_low {p : Nat → Bool} {l : List FVal} {k : Nat} (hk : k < len l) (h : ∀ i, i < k → p i = false) (hp : p k = true) : keptV p l (k + 1) = l.take k := by
  have key : ∀ m, m ≤ k → keptV p l m = l.take m := by
    intro m
    induction m with
    | zero => intro _; simp [keptV]
    | succ m ih =>
      intro hm
      have hm' : m < l.length := by have : k < l.length := hk; omega
      rw [keptV, h m (by omega), ih (by omega), List.take_succ_eq_append_getElem hm', fth_eq l m hm']; simp
  rw [keptV, if_pos hp, key k (Nat.le_refl _)]
theorem keptV_len (p : Nat → Bool) (l : List FVal) : ∀ m, len (keptV p l m) ≤ m
  | 0 => Nat.le_refl _
  | m + 1 => by
    have := keptV_len p l m
    rw [keptV]
    split
    · omega
    · rw [len_eq] at this ⊢; simp; omega
theorem fth_take {l : List FVal} {k t : Nat} (h : t < k) (hk : k ≤ len l) : fth (l.take k) t = fth l t := by
  have hk' : k ≤ l.length := hk
  rw [fth_eq _ t (by rw [List.length_take]; omega), fth_eq l t (by omega), List.getElem_take]
theorem fth_snoc {l : List FVal} {v : FVal} {t : Nat} (h : t < len l) : fth (l ++ [v]) t = fth l t := by
  have h' : t < l.length := h
  rw [fth_eq _ t (by simp; omega), fth_eq l t h', List.getElem_append_left h']
theorem fth_last (l : List FVal) (v : FVal) : fth (l ++ [v]) (len l) = v := by
  rw [len_eq, fth_eq _ l.length (by simp)]; simp
theorem fth_set {R : List FVal} {q t : Nat} {v : FVal} (hq : q < len R) : fth (R.set q v) t = if t = q then v else fth R t := by
  have hq' : q < R.length := hq
  by_cases e : t = q
  · subst e; rw [if_pos rfl, fth_eq _ t (by simpa using hq'), List.getElem_set_self]
  · rw [if_neg e]
    unfold fth
    rw [List.getD_eq_getElem?_getD, List.getD_eq_getElem?_getD, List.getElem?_set_ne (fun e2 => e e2.symm)]
structure DelSt (base : Nat) (p : Nat → Bool) (l : List FVal) (w : World) (g m q : Nat) (R : List FVal) (wr : World) : Prop where
  cnt : len (keptV p l m) = q
  lt : q < m
  low : ∀ t, t < q → fth R t = fth (keptV p l m) t
  high : ∀ t, m ≤ t → t < len l → fth R t = fth l t
  row : RowC wr g (len l) R
  bel : Below base w wr
theorem DelSt.below {base g m q : Nat} {p : Nat → Bool} {l R : List FVal} {w wr w' : World} (h : DelSt base p l w g m q R wr) (hb : Below wr.heap.size wr w') (hbw : base ≤ w.heap.size) : DelSt base p l w g m q R w' :=
  ⟨h.cnt, h.lt, h.low, h.high, h.row.keep (hb.block _ h.row.lt), h.bel.trans (hb.mono (Nat.le_trans hbw h.bel.size))⟩
abbrev setF (w : World) (g q : Nat) (v : FVal) : World :=
  (((((w.setCell ⟨g, q * 6, none⟩ (.string v.key)).setCell ⟨g, q * 6 + 1, none⟩ (.bool v.must)).setCell ⟨g, q * 6 + 2, none⟩ (.func (.func v.ef) #[] v.ec)).setCell ⟨g, q * 6 + 3, none⟩ (.func (.func v.mf) #[] v.mc)).setCell ⟨g, q * 6 + 4, none⟩ (.func (.func v.pf) #[] v.pc)).setCell ⟨g, q * 6 + 5, none⟩ (.func (.func v.gf) #[] v.gc)
theorem RowC.put {w : World} {g n q : Nat} {R : List FVal} (h : RowC w g n R) (hq : q < n) (v : FVal) : RowC (setF w g q v) g n (R.set q v) := by
  obtain ⟨h0, cur, h1, h2, h3⟩ := h
  refine ⟨by rw [len_eq, List.length_set, ← len_eq]; exact h0, _, block_setCell (block_setCell (block_setCell (block_setCell (block_setCell (block_setCell h1 _) _) _) _) _) _, by simpa using h2, fun i hi r hr => ?_⟩
  rw [fth_set (by omega)]
  by_cases e : i = q
  · subst e
    rw [if_pos rfl]
    have hs : i * 6 + 5 < cur.size := by omega
    have hr' : r = 0 ∨ r = 1 ∨ r = 2 ∨ r = 3 ∨ r = 4 ∨ r = 5 := by omega
    rcases hr' with rfl | rfl | rfl | rfl | rfl | rfl
    · simp only [Nat.add_zero]
      rw [Array.getElem?_setIfInBounds_ne (by omega), Array.getElem?_setIfInBounds_ne (by omega), Array.getElem?_setIfInBounds_ne (by omega), Array.getElem?_setIfInBounds_ne (by omega), Array.getElem?_setIfInBounds_ne (by omega), Array.getElem?_setIfInBounds_self_of_lt (by omega)]; rfl
    · rw [Array.getElem?_setIfInBounds_ne (by omega), Array.getElem?_setIfInBounds_ne (by omega), Array.getElem?_setIfInBounds_ne (by omega), Array.getElem?_setIfInBounds_ne (by omega), Array.getElem?_setIfInBounds_self_of_lt (by simp; omega)]; rfl
    · rw [Array.getElem?_setIfInBounds_ne (by omega), Array.getElem?_setIfInBounds_ne (by omega), Array.getElem?_setIfInBounds_ne (by omega), Array.getElem?_setIfInBounds_self_of_lt (by simp; omega)]; rfl
    · rw [Array.getElem?_setIfInBounds_ne (by omega), Array.getElem?_setIfInBounds_ne (by omega), Array.getElem?_setIfInBounds_self_of_lt (by simp; omega)]; rfl
    · rw [Array.getElem?_setIfInBounds_ne (by omega), Array.getElem?_setIfInBounds_self_of_lt (by simp; omega)]; rfl
    · rw [Array.getElem?_setIfInBounds_self_of_lt (by simp; omega)]; rfl
  · rw [if_neg e, Array.getElem?_setIfInBounds_ne (by omega), Array.getElem?_setIfInBounds_ne (by omega), Array.getElem?_setIfInBounds_ne (by omega), Array.getElem?_setIfInBounds_ne (by omega), Array.getElem?_setIfInBounds_ne (by omega), Array.getElem?_setIfInBounds_ne (by omega)]
    exact h3 i hi r hr
theorem setF_below {base g q : Nat} {a w : World} (h : Below base a w) (hg : base ≤ g) (v : FVal) : Below base a (setF w g q v) :=
  (((((h.setCell hg _).setCell hg _).setCell hg _).setCell hg _).setCell hg _).setCell hg _
theorem DelSt.put {base g m q : Nat} {p : Nat → Bool} {l R : List FVal} {w wr : World} (h : DelSt base p l w g m q R wr) (hm : m < len l) (hp : p m = false) (hg : base ≤ g) : DelSt base p l w g (m + 1) (q + 1) (R.set q (fth l m)) (setF wr g q (fth l m)) := by
  obtain ⟨a1, a2, a3, a4, a5, a6⟩ := h
  have hR := a5.1
  have e : keptV p l (m + 1) = keptV p l m ++ [fth l m] := by rw [keptV, if_neg (by rw [hp]; decide)]
  refine ⟨by rw [e, ← a1, len_eq, len_eq]; simp, by omega, fun t ht => ?_, fun t h1 h2 => ?_, a5.put (by omega) _, setF_below a6 hg _⟩
  · rw [fth_set (by omega), e]
    by_cases et : t = q
    · subst et; rw [if_pos rfl, ← a1, fth_last]
    · rw [if_neg et, fth_snoc (by omega)]; exact a3 t (by omega)
  · rw [fth_set (by omega), if_neg (by omega)]; exact a4 t (by omega) h2
theorem below_sc {B b : Nat} {a : World} (hb : B ≤ b) : ∀ (vs : List Value) (o : Nat) (w : World), Below B a w → Below B a (w.setCells b o vs)
  | [], _, _, h => h
  | v :: r, o, w, h => below_sc hb r (o + 1) _ (h.setCell hb v)
theorem cells_sc {b : Nat} {T : TypeId} {fr : Nat × Nat} : ∀ (vs : List Value) (o : Nat) (w : World) (cur : Array Value), w.heap[b]? = some (.cells cur T fr) → ∃ cur', (w.setCells b o vs).heap[b]? = some (.cells cur' T fr)
  | [], _, _, cur, h => ⟨cur, h⟩
  | v :: r, o, w, cur, h => cells_sc r (o + 1) _ _ (block_setCell h v)
theorem clear_row {w : World} {g n q c : Nat} {R : List FVal} (h : RowC w g n R) (hq : q < n) (ty : TypeId) : ∃ w7, (Builtin.clear_ #[113] ty #[.slice (some ⟨g, q * 6, none⟩) (n - q) c]).run Tryz.prog w = .ok (.tuple #[]) w7 ∧ (∀ t, t < q → FValAt w7 g (t * 6) (fth R t)) ∧ (∀ base a, base ≤ g → Below base a w → Below base a w7) ∧ ∃ cur, w7.heap[g]? = some (.cells cur 172 (0, 0)) := by
  obtain ⟨zs, hzs⟩ : ∃ zs, (Builtin.zeroCells (Value.agg #[.string ⟨#[]⟩, .bool false, .nilFunc, .nilFunc, .nilFunc, .nilFunc]).cells (n - q)).toList = zs := ⟨_, rfl⟩
  have hzl : zs.length = (n - q) * 6 := by rw [← hzs]; simp [Builtin.zeroCells, Value.cells]
  have hz1 : ∀ u ∈ zs, u.oneCell' = true := by
    intro u hu
    rw [← hzs] at hu
    simp [Builtin.zeroCells, Value.cells] at hu
    obtain ⟨i, hi, rfl⟩ := hu
    have : i % 6 = 0 ∨ i % 6 = 1 ∨ i % 6 = 2 ∨ i % 6 = 3 ∨ i % 6 = 4 ∨ i % 6 = 5 := by omega
    rcases this with e | e | e | e | e | e <;> simp [e] <;> rfl
  have hc : ∀ j, j < zs.length → (w.cell? ⟨g, q * 6 + j, none⟩).isSome = true := fun j hj => by
    obtain ⟨_, cur, h1, h2, _⟩ := h
    rw [block_cell h1, Array.getElem?_eq_getElem (by omega)]; rfl
  have hst := run_storeCells_cells (P := Tryz.prog) g (q * 6) zs 0 w (by simpa using hc) (fun j _ => h.free _) hz1
  simp only [Nat.add_zero] at hst
  refine ⟨w.setCells g (q * 6) zs, ?_, fun t ht => ?_, fun base a hb hbel => below_sc hb zs (q * 6) w hbel, by obtain ⟨_, cur, h, _⟩ := h; exact cells_sc zs (q * 6) w cur h⟩
  · obtain ⟨m, hm⟩ : ∃ m, n - q = m + 1 := ⟨n - q - 1, by omega⟩
    rw [hm] at hzs ⊢
    simp [Builtin.clear_, run_underlying Tryz.underlying113, Tryz.zeroValue172, hzs, hst]
  · obtain ⟨c0, c1, c2, c3, c4, c5⟩ := h.at (i := t) (by omega)
    have e : ∀ o, o < q * 6 → (w.setCells g (q * 6) zs).cell? ⟨g, o, none⟩ = w.cell? ⟨g, o, none⟩ := fun o ho => World.cell?_setCells_out g zs (q * 6) w ⟨g, o, none⟩ (fun _ _ => .inl ho)
    exact ⟨(e _ (by omega)).trans c0, (e _ (by omega)).trans c1, (e _ (by omega)).trans c2, (e _ (by omega)).trans c3, (e _ (by omega)).trans c4, (e _ (by omega)).trans c5⟩
def DelOut (base : Nat) (p : Nat → Bool) (l : List FVal) (w : World) (e : Ending) (w' : World) : Prop :=
  ∃ g cap, e = .returned (.slice (some ⟨g, 0, none⟩) (len (keptV p l (len l))) cap) ∧ Flds w' (some ⟨g, 0, none⟩) (keptV p l (len l)) ∧ Below base w w' ∧ base ≤ g ∧ ∃ cur, w'.heap[g]? = some (.cells cur 172 (0, 0))
set_option maxRecDepth 100000 in
set_option maxHeartbeats 4000000 in
theorem delf_any (base : Nat) (v : Value) (l : List FVal) (g0 : Nat) (lb : Array Value) (p : Nat → Bool) (w : World) (hown : w.ownsRow base 172 6 v (len l) (l.flatMap FVal.cells)) (hn : len l ≤ 1000) (h0 : 0 < len l) (hbw : base ≤ w.heap.size)
    (eg : ∀ args w', (callFunc g0 args).run Tryz.prog w' = .ok (.enter g0 args) w') (hp : ∀ i, i < len l → ∀ w', Below base w w' → Calls Tryz.prog g0 (#[(fth l i).val] ++ lb) w' fun e w'' => e = .returned (.bool (p i)) ∧ Below w'.heap.size w' w'') :
    Calls Tryz.prog 172 #[v, .func (.func g0) #[] lb] w (DelOut base p l w) := by
  obtain ⟨g, cap, rfl, hg, hcap, hrow⟩ := RowC.of_own hown h0
  have HROW := Lib.hid hrow
  have HP := Lib.hid hp
  have HI := Lib.hid (idxf_any (some ⟨g, 0, none⟩) cap l g0 lb p w hrow.flds hn ⟨eg, fun i hi w' hb => hp i hi w' (hb.mono hbw)⟩)
  clear hown hrow hp
  go_enter Tryz.func172, Tryz.ntmps172
  go_wp2_with fail
  refine HI.out.mono ?_
  rintro e w1 ⟨r, rfl, hr, hb⟩
  have HB1 := Lib.hid hb
  have HROW1 := Lib.hid (HROW.out.keep (hb.block _ HROW.out.lt))
  clear hb HROW
  rcases hr with ⟨rfl, hall⟩ | ⟨k, hk, rfl, hpk, hlow⟩
  · have HK : Hid (keptV p l (len l) = l) := Lib.hid (by
      have key : ∀ m, m ≤ len l → keptV p l m = l.take m := by
        intro m
        induction m with
        | zero => intro _; simp [keptV]
        | succ m ih =>
          intro hm
          have hm' : m < l.length := hm
          rw [keptV, hall m hm, ih (by omega), List.take_succ_eq_append_getElem hm', fth_eq l m hm']; simp
      rw [key _ (Nat.le_refl _)]; exact take_len l)
    clear hall
    go_wp2
    go_ret
    exact ⟨g, cap, by rw [HK.out]; rfl, by rw [HK.out]; exact HROW1.out.flds, HB1.out.mono hbw, hg, by obtain ⟨_, cur, h, _⟩ := HROW1.out; exact ⟨cur, h⟩⟩
  · have HPK := Lib.hid hpk
    have HLOW := Lib.hid hlow
    clear hpk hlow
    go_wp2
    have ST : Hid (DelSt base p l w g (k + 1) k l w1) := Lib.hid (by
      have e := keptV_low hk HLOW.out HPK.out
      have hk' : k < l.length := hk
      refine ⟨by rw [e, len_eq, List.length_take]; omega, Nat.lt_succ_self _, fun t ht => by rw [e, fth_take ht (Nat.le_of_lt hk)], fun t _ _ => rfl, HROW1.out, HB1.out.mono hbw⟩)
    clear HROW1 HI HLOW HPK
    go_loopg [5, 6] (len l - (k + 1)) (fun gg i j wr => ∃ m q : Nat, ∃ R : List FVal, gg + m = len l ∧ i = .int .i64 q ∧ j = .int .i64 m ∧ Hid (DelSt base p l w g m q R wr))
    case atStart => exact ⟨k + 1, k, l, by omega, rfl, by first | rfl | simp, ST.out⟩
    case round =>
      clear ST
      obtain ⟨m, q, R, hm, rfl, rfl, HST⟩ := hrel
      have hqm := HST.out.lt
      by_cases hlt : m < len l
      · have i1 : (m : Int) < len l := by omega
        obtain ⟨c0, c1, c2, c3, c4, c5⟩ := HST.out.row.at hlt
        rw [HST.out.high m (Nat.le_refl _) hlt] at c0 c1 c2 c3 c4 c5
        have hcall := HP.out m hlt
        unfold FVal.val at hcall
        obtain ⟨v, hv⟩ : ∃ v, fth l m = v := ⟨_, rfl⟩
        have HV := Lib.hid hv
        rw [hv] at c0 c1 c2 c3 c4 c5 hcall
        have HC := Lib.hid hcall
        clear hcall hv
        go_wp2_with fail
        refine (HC.out _ (HST.out.bel.trans (Below.mono (balloc (Below.refl _ _) _) (Nat.le_trans hbw HST.out.bel.size)))).mono ?_
        rintro e w5 ⟨rfl, hb5⟩
        have HST5 : Hid (DelSt base p l w g m q R w5) := Lib.hid (HST.out.below (bnext (balloc (Below.refl _ _) _) hb5) hbw)
        have HBX : Hid (w5.heap[wr.heap.size]? = some (.cells #[.string v.key, .bool v.must, .func (.func v.ef) #[] v.ec, .func (.func v.mf) #[] v.mc, .func (.func v.pf) #[] v.pc, .func (.func v.gf) #[] v.gc] 172 (0, 0))) := Lib.hid ((hb5.block _ (by simp)).trans (heap_alloc_new _ _))
        clear hb5 c0 c1 c2 c3 c4 c5 HC HST
        cases hpm : p m with
        | true =>
          have HST6 : Hid (DelSt base p l w g (m + 1) q R w5) := Lib.hid (by
            obtain ⟨a1, a2, a3, a4, a5, a6⟩ := HST5.out
            have e : keptV p l (m + 1) = keptV p l m := by rw [keptV, if_pos hpm]
            exact ⟨by rw [e]; exact a1, by omega, fun t ht => by rw [e]; exact a3 t ht, fun t h1 h2 => a4 t (by omega) h2, a5, a6⟩)
          clear hpm HST5 HBX
          go_wp2
          go_roundg (len l - (m + 1))
          case rel => exact ⟨m + 1, q, R, by omega, rfl, by go_num, HST6.out⟩
          case measure => omega
        | false =>
          have hqn : q < len l := by omega
          obtain ⟨d0, d1, d2, d3, d4, d5⟩ := HST5.out.row.at hqn
          have hfr := HST5.out.row.free
          have bx : ∀ o, w5.cell? ⟨wr.heap.size, o, none⟩ = _ := block_cell HBX.out
          have iq : (q : Int) < len l := by omega
          have HST6 : Hid (DelSt base p l w g (m + 1) (q + 1) (R.set q v) (setF w5 g q v)) := Lib.hid (by
            rw [← HV.out]; exact HST5.out.put hlt hpm hg)
          clear hpm HST5 HBX
          go_wp2_with fail
          clear d0 d1 d2 d3 d4 d5 hfr bx
          go_roundg (len l - (m + 1))
          case rel => exact ⟨m + 1, q + 1, R.set q v, by omega, by go_num, by go_num, HST6.out⟩
          case measure => omega
      · obtain rfl : m = len l := by omega
        have i1 : ¬ ((len l : Nat) : Int) < len l := by omega
        obtain ⟨w7, hcl, hfl, hb7, hc7⟩ := clear_row (c := cap - q) HST.out.row HST.out.lt 0
        have HFL : Hid (Flds w7 (some ⟨g, 0, none⟩) (keptV p l (len l))) := Lib.hid (fun i hi => ⟨g, 0, rfl, by
          rw [HST.out.cnt] at hi
          rw [Nat.zero_add, ← HST.out.low i hi]; exact hfl i hi⟩)
        have HB7 := Lib.hid (hb7 base w hg HST.out.bel)
        have HC7 := Lib.hid hc7
        have HCN := Lib.hid HST.out.cnt
        clear hfl hb7 hc7 HST
        go_wp2
        go_ret
        exact ⟨g, cap, by rw [HCN.out]; rfl, HFL.out, HB7.out, hg, HC7.out⟩
end Go.Proofs.YtihiaopilnjonaaGreatDoor
namespace Go.Proofs.YtihiaopilnjonaaGreatDoor
open Go.RowKit
set_option linter.unusedSimpArgs false
set_option linter.unusedVariables false
theorem spth_snoc {l : List FSpec} {v : FSpec} {t : Nat} (h : t < len l) : spth (l ++ [v]) t = spth l t := by
  have h' : t < l.length := h
  rw [spth_eq _ t (by simp; omega), spth_eq l t h', List.getElem_append_left h']
theorem spth_last (l : List FSpec) (v : FSpec) : spth (l ++ [v]) (len l) = v := by
  rw [len_eq, spth_eq _ l.length (by simp)]; simp
theorem kept_sems {B : Nat} {W0 : World} {l : List FVal} {fs : List FSpec} (h : FSems B W0 l fs) (hm : allMay fs = true) : ∀ m, m ≤ len l → len (keptF (fs.take m)) = len (keptV (fun i => (spth fs i).empty) l m) ∧ ∀ t, t < len (keptF (fs.take m)) → FSem B W0 (fth (keptV (fun i => (spth fs i).empty) l m) t) (spth (keptF (fs.take m)) t) ∧ (spth (keptF (fs.take m)) t).empty = false ∧ (spth (keptF (fs.take m)) t).may = true
  | 0, _ => ⟨by simp [keptF, keptV, len], fun t ht => by simp [keptF, len] at ht⟩
  | m + 1, hm1 => by
    obtain ⟨ih1, ih2⟩ := kept_sems h hm m (by omega)
    have hfl : m < fs.length := by have := h.1; rw [len_eq] at this; omega
    have e1 : fs.take (m + 1) = fs.take m ++ [spth fs m] := by rw [List.take_succ_eq_append_getElem hfl, spth_eq fs m hfl]
    have hmay : (spth fs m).may = true := by
      unfold allMay at hm
      rw [List.all_eq_true] at hm
      rw [spth_eq fs m hfl]; exact hm _ (List.getElem_mem _)
    cases he : (spth fs m).empty with
    | true =>
      have e2 : keptF (fs.take (m + 1)) = keptF (fs.take m) := by
        rw [e1]; unfold keptF; rw [List.filter_append, List.filter_cons_of_neg (by simp [he])]; simp
      have e3 : keptV (fun i => (spth fs i).empty) l (m + 1) = keptV (fun i => (spth fs i).empty) l m := by rw [keptV, if_pos he]
      rw [e2, e3]; exact ⟨ih1, ih2⟩
    | false =>
      have e2 : keptF (fs.take (m + 1)) = keptF (fs.take m) ++ [spth fs m] := by
        rw [e1]; unfold keptF; rw [List.filter_append, List.filter_cons_of_pos (by simp [he])]; simp
      have e3 : keptV (fun i => (spth fs i).empty) l (m + 1) = keptV (fun i => (spth fs i).empty) l m ++ [fth l m] := by rw [keptV, if_neg (by simp [he])]
      rw [e2, e3]
      have hl2 : len (keptF (fs.take m) ++ [spth fs m]) = len (keptF (fs.take m)) + 1 := by simp [len]
      refine ⟨by rw [hl2, ih1]; simp [len], fun t ht => ?_⟩
      rw [hl2] at ht
      by_cases et : t < len (keptF (fs.take m))
      · rw [fth_snoc (by rw [← ih1]; exact et), spth_snoc et]; exact ih2 t et
      · obtain rfl : t = len (keptF (fs.take m)) := by omega
        rw [spth_last]
        refine ⟨?_, he, hmay⟩
        rw [ih1, fth_last]
        exact h.2 m (by omega)
theorem catB_take {L : List ByteArray} {t : Nat} (h : t < L.length) : (catB (L.take t)).size + L[t].size ≤ (catB L).size := by
  have e : catB L = catB (L.take t) ++ (L[t] ++ catB (L.drop (t + 1))) := by
    conv => lhs; rw [← List.take_append_drop t L, List.drop_eq_getElem_cons h]
    rw [catB_app, catB]
  rw [e, ByteArray.size_append, ByteArray.size_append]; omega
theorem flds_keep {w w' : World} {g : Nat} {l : List FVal} (h : Flds w (some ⟨g, 0, none⟩) l) (hk : w'.heap[g]? = w.heap[g]?) : Flds w' (some ⟨g, 0, none⟩) l := fun i hi => by
  obtain ⟨b, off, e, c0, c1, c2, c3, c4, c5⟩ := h i hi
  cases e
  have e2 : ∀ o, w'.cell? ⟨g, o, none⟩ = w.cell? ⟨g, o, none⟩ := fun o => by unfold World.cell?; rw [hk]
  exact ⟨g, 0, rfl, (e2 _).trans c0, (e2 _).trans c1, (e2 _).trans c2, (e2 _).trans c3, (e2 _).trans c4, (e2 _).trans c5⟩
def LayOut (s' : ByteArray) (b base : Nat) (w : World) (e : Ending) (w' : World) : Prop := e = .returned (.tuple #[]) ∧ WrB w' b base s' ∧ WK base b w w'
set_option maxRecDepth 100000 in
set_option maxHeartbeats 4000000 in
theorem lay_any (B b base b1 off c : Nat) (W0 : World) (l : List FVal) (fs : List FSpec) (s : ByteArray) (w : World) (hl : Flds w (some ⟨b1, off, none⟩) l) (hn : len l ≤ 1000) (h0 : 0 < len l) (hS : FSems B W0 l fs) (hm : allMay fs = true) (hk : Keep8 B W0 w) (hb0 : Off8 W0 b)
    (ht : PTab B w) (hB : B ≤ base) (hW : WrB w b base s) (hs : s.size + (layP fs).size ≤ 60000000000000) :
    Calls Tryz.prog 105 #[.pointer (some ⟨b, 0, none⟩), .slice (some ⟨b1, off, none⟩) (len l) c] w (LayOut (s ++ layP fs) b base w) := by
  have HL := Lib.hid hl
  have HS := Lib.hid hS
  have HK := Lib.hid hk
  have hsz := hk.s1
  have HT := Lib.hid ht
  have HWR := Lib.hid hW
  have HBS : Hid (base ≤ w.heap.size) := Lib.hid (by have := hW.1; have := hW.lt; omega)
  have HKS := Lib.hid (kept_sems hS hm (len l) (Nat.le_refl _))
  have e0 : fs.take (len l) = fs := List.take_of_length_le (by have := hS.1; rw [len_eq] at this; omega)
  rw [e0] at HKS
  have eg := (says_lay hS hk).1
  clear hl hS hk ht hW e0
  go_enter Tryz.func105, Tryz.ntmps105
  go_wp2_with fail
  refine (clone_any b1 off c l w HL.out hn).mono ?_
  rintro e w1 ⟨v, rfl, hown, hb1⟩
  have HO := Lib.hid hown
  have HB1 := Lib.hid hb1
  clear hown hb1
  go_wp2_with fail
  refine (delf_any w.heap.size v l 174 #[] (fun i => (spth fs i).empty) w1 HO.out hn h0 HB1.out.size eg (fun i hi w' hb => ((says_lay HS.out ((HK.out.base HB1.out hsz).base hb hsz)).2 i hi w' (Below.refl _ _)))).mono ?_
  rintro e w2 ⟨g, cap, rfl, hfl, hb2, hg, cur, hcur⟩
  have HFL := Lib.hid hfl
  have HB2 : Hid (Below w.heap.size w w2) := Lib.hid (HB1.out.trans hb2)
  have HCUR := Lib.hid hcur
  clear hfl hb2 hcur HO HB1 HL
  obtain ⟨K, hK⟩ : ∃ K, len (keptV (fun i => (spth fs i).empty) l (len l)) = K := ⟨_, rfl⟩
  obtain ⟨kl, hkl⟩ : ∃ kl, keptV (fun i => (spth fs i).empty) l (len l) = kl := ⟨_, rfl⟩
  obtain ⟨ks, hks⟩ : ∃ ks, keptF fs = ks := ⟨_, rfl⟩
  have hK1000 : K ≤ 1000 := by rw [← hK]; exact Nat.le_trans (keptV_len _ _ _) hn
  have HLP : Hid (layP fs = mapP K ++ catB (ks.map fieldP)) := Lib.hid (by
    unfold layP; rw [hks]
    have := HKS.out.1
    rw [hks, hK, len_eq] at this
    rw [this])
  rw [hK]
  rw [hkl] at HFL hK HKS
  rw [hks] at HKS
  have HKK : Hid (len ks = K ∧ len kl = K) := Lib.hid ⟨by rw [HKS.out.1, hK], hK⟩
  clear hK hkl hks
  have HS2 : Hid (s.size + (mapP K).size + (catB (ks.map fieldP)).size ≤ 60000000000000) := Lib.hid (by rw [HLP.out, ByteArray.size_append] at hs; omega)
  have hs0 : s.size ≤ 60000000000000 := by omega
  have hbw : b < w.heap.size := HWR.out.lt
  have hgb : g ≠ b := by omega
  have n8 : Not8 (.cells cur 172 (0, 0)) := not8_cells (by decide)
  clear hs
  go_wp2_with fail
  refine (Map_w B b base K s w2 (HT.out.keep HB2.out (by have := HBS.out; omega)) hB (HWR.out.below HB2.out) (by omega) (by omega)).mono ?_
  rintro e w3 ⟨rfl, hw3, hk3⟩
  have HW3 : Hid (WrB w3 b base (s ++ mapP K ++ catB ((ks.map fieldP).take 0))) := Lib.hid (by
    have e : s ++ mapP K ++ catB ((ks.map fieldP).take 0) = s ++ mapP K := ba_ext (by simp [catB])
    rw [e]; exact hw3)
  have HK3 : Hid (WK base b w2 w3) := Lib.hid hk3
  clear hw3 hk3
  go_wp2
  go_loopg [15] K (fun gg i wr => ∃ m : Nat, gg + m = K ∧ i = .int .i64 m ∧ Hid (WrB wr b base (s ++ mapP K ++ catB ((ks.map fieldP).take m))) ∧ Hid (WK base b w2 wr))
  case atStart => exact ⟨0, rfl, rfl, HW3.out, HK3.out⟩
  case round =>
    clear HW3 HK3
    obtain ⟨m, hm2, rfl, HWW, HWK⟩ := hrel
    by_cases hlt : m < K
    · have i1 : (m : Int) < K := by omega
      obtain ⟨b', off', hbe, c0, c1, c2, c3, c4, c5⟩ := flds_keep HFL.out ((HWK.out.keep g _ HCUR.out hgb n8).trans HCUR.out.symm) m (by rw [HKK.out.2]; exact hlt)
      cases hbe
      rw [Nat.zero_add] at c0 c1 c2 c3 c4 c5
      obtain ⟨hsem, hemp, hmay⟩ := HKS.out.2 m (by rw [HKK.out.1]; exact hlt)
      have hsn : (ks.map fieldP).take (m + 1) = (ks.map fieldP).take m ++ [fieldP (spth ks m)] := by
        have hml : m < ks.length := by have := HKK.out.1; rw [len_eq] at this; omega
        rw [List.take_succ_eq_append_getElem (by simpa using hml), List.getElem_map, spth_eq ks m hml]
      have hct := catB_take (L := ks.map fieldP) (t := m) (by have := HKK.out.1; rw [len_eq] at this; simp; omega)
      have hfm : (ks.map fieldP)[m]'(by have := HKK.out.1; rw [len_eq] at this; simp; omega) = fieldP (spth ks m) := by
        rw [List.getElem_map, spth_eq ks m (by have := HKK.out.1; rw [len_eq] at this; omega)]
      rw [hfm] at hct
      obtain ⟨v, hv⟩ : ∃ v, fth kl m = v := ⟨_, rfl⟩
      obtain ⟨f, hf⟩ : ∃ f, spth ks m = f := ⟨_, rfl⟩
      rw [hv] at c0 c1 c2 c3 c4 c5 hsem
      rw [hf] at hsem hemp hmay hsn hct
      have hkey := hsem.key
      have hksz := hsem.ksz
      have ep := hsem.ep
      have hput := hsem.put hmay hemp
      obtain ⟨s1, hs1⟩ : ∃ s1, s ++ mapP K ++ catB ((ks.map fieldP).take m) = s1 := ⟨_, rfl⟩
      rw [hs1] at HWW
      have hfsz : (fieldP f).size = (strP f.key).size + f.bytes.size := by unfold fieldP; rw [ByteArray.size_append]
      have hs1s : s1.size + (strP f.key).size + f.bytes.size ≤ 60000000000000 := by
        rw [← hs1, ByteArray.size_append, ByteArray.size_append]
        have := HS2.out
        omega
      have HSN : Hid (s ++ mapP K ++ catB ((ks.map fieldP).take (m + 1)) = s1 ++ strP f.key ++ f.bytes) := Lib.hid (by
        rw [hsn, catB_snoc, ← hs1]; unfold fieldP; simp only [ByteArray.append_assoc])
      have HPUT := Lib.hid hput
      have hbw2 : base ≤ w2.heap.size := by have := HBS.out; have := HB2.out.size; omega
      have HBW2 := Lib.hid hbw2
      have HK8 : Hid (Keep8 B W0 wr) := Lib.hid ((HK.out.base HB2.out hsz).wk HWK.out hb0 hB)
      have HTR : Hid (PTab B wr) := Lib.hid ((HT.out.keep HB2.out (by have := HBS.out; omega)).keep HWK.out.bel hB)
      rw [← hkey] at HSN hs1s hksz
      have HKEY := Lib.hid hkey
      clear hsem hemp hmay hsn hct hfm hs1 hfsz hput hv hf hbw2 hkey
      go_wp2_with fail
      refine (Str_w B b base v.key s1 _ (HTR.out.keep (balloc (Below.refl _ _) _) (by have := HTR.out.size; omega)) hB (HWW.out.below (balloc (Below.refl _ _) _)) hksz (by omega)).mono ?_
      rintro e w4 ⟨rfl, hw4, hk4⟩
      have HW4 := Lib.hid hw4
      have hbx : w4.heap[wr.heap.size]? = some (.cells #[.string v.key, .bool v.must, .func (.func v.ef) #[] v.ec, .func (.func v.mf) #[] v.mc, .func (.func v.pf) #[] v.pc, .func (.func v.gf) #[] v.gc] 172 (0, 0)) :=
        hk4.keep _ _ (heap_alloc_new _ _) (by have := HWW.out.lt; omega) (not8_cells (by decide))
      have HKA : Hid (WK base b wr w4) := Lib.hid ((WK.of_below (balloc (Below.refl _ _) _) (by have := HWK.out.bel.size; have := HBW2.out; omega)).trans hk4)
      have bx4 := block_cell hbx 4
      simp only [List.getElem?_toArray, List.getElem?_cons_zero, List.getElem?_cons_succ] at bx4
      have lbx := lt_of_block hbx
      clear hw4 hk4 hbx c0 c1 c2 c3 c4 c5
      go_wp2_with fail
      refine (HPUT.out w4 b base _ (HK8.out.wk HKA.out hb0 hB) hb0 (HTR.out.keep HKA.out.bel hB) hB HW4.out (by rw [ByteArray.size_append]; omega)).mono ?_
      rintro e w5 ⟨rfl, hw5, hk5⟩
      have HW5 : Hid (WrB w5 b base (s ++ mapP K ++ catB ((ks.map fieldP).take (m + 1)))) := Lib.hid (by rw [HSN.out]; exact hw5)
      have HK5 : Hid (WK base b w2 w5) := Lib.hid ((HWK.out.trans HKA.out).trans hk5)
      clear hw5 hk5 HW4 HKA HWW HWK bx4 lbx
      go_wp2
      go_roundg (K - (m + 1))
      case rel => exact ⟨m + 1, by omega, by go_num, HW5.out, HK5.out⟩
      case measure => omega
    · obtain rfl : m = K := by omega
      have i1 : ¬ (m : Int) < m := by omega
      go_wp2
      go_end0
      refine ⟨rfl, ?_, (WK.of_below HB2.out HBS.out).trans HWK.out⟩
      have h := HWW.out
      rw [List.take_of_length_le (by have := HKK.out.1; rw [len_eq] at this; simp; omega), ByteArray.append_assoc, ← HLP.out] at h
      exact h
end Go.Proofs.YtihiaopilnjonaaGreatDoor
namespace Go.Proofs.YtihiaopilnjonaaGreatDoor
open Go.RowKit
set_option linter.unusedSimpArgs false
set_option linter.unusedVariables false
def LaidIs (fs : List FSpec) (w : World) (e : Ending) (w' : World) : Prop :=
  e = .returned (if allMay fs then .tuple #[.string (layP fs), .int .i64 0] else .tuple #[.string ⟨#[]⟩, .int .i64 2]) ∧ Below w.heap.size w w'
set_option maxRecDepth 100000 in
theorem wlaid2_any (B b1 off c : Nat) (W0 : World) (l : List FVal) (fs : List FSpec) (w : World) (hl : Flds w (some ⟨b1, off, none⟩) l) (hn : len l ≤ 1000) (h0 : 0 < len l) (hS : FSems B W0 l fs) (hk : Keep8 B W0 w) (ht : PTab B w) (hs : allMay fs = true → (layP fs).size ≤ 60000000000000) :
    Calls Tryz.prog 60 #[.slice (some ⟨b1, off, none⟩) (len l) c] w (LaidIs fs w) := by
  have HL := Lib.hid hl
  have HS := Lib.hid hS
  have HK := Lib.hid hk
  have hsz := hk.s1
  have HSS := Lib.hid hs
  clear hs
  have HT := Lib.hid ht
  clear hl hS hk ht
  go_enter Tryz.func60, Tryz.ntmps60
  go_wp2_with fail
  refine (all_any B W0 (some ⟨b1, off, none⟩) c l fs w HL.out hn HS.out HK.out).mono ?_
  rintro e w1 ⟨rfl, hb1⟩
  have HB1 := Lib.hid hb1
  clear hb1
  cases hm : allMay fs with
  | false =>
    have HM := Lib.hid hm
    clear hm
    go_wp2
    go_ret2
    exact ⟨by rw [HM.out]; rfl, HB1.out⟩
  | true =>
    have HM := Lib.hid hm
    have HT1 := Lib.hid (HT.out.keep HB1.out HT.out.size)
    have hs := HSS.out hm
    clear hm
    go_wp2_with fail
    refine (pnew_any w1).mono ?_
    rintro e w2 ⟨rfl, hw2, hb2⟩
    have HW2 := Lib.hid hw2
    have HB2 := Lib.hid hb2
    clear hw2 hb2
    go_wp2_with fail
    refine (lay_any B w1.heap.size w1.heap.size b1 off c W0 l fs ByteArray.empty w2 ((HL.out.below HB1.out).below HB2.out) hn h0 HS.out HM.out ((HK.out.next HB1.out).next HB2.out) (Off8.of_le (by have := HB1.out.size; omega)) (HT1.out.keep HB2.out HT1.out.size) HT1.out.size HW2.out (by show 0 + (layP fs).size ≤ 60000000000000; omega)).mono ?_
    rintro e w3 ⟨rfl, hw3, hk3⟩
    have HW3 : Hid (WrB w3 w1.heap.size w1.heap.size (layP fs)) := Lib.hid (by
      have e : ByteArray.empty ++ layP fs = layP fs := ba_ext (by simp)
      rw [e] at hw3; exact hw3)
    have HB3 : Hid (Below w.heap.size w w3) := Lib.hid ((bnext HB1.out HB2.out).trans (hk3.bel.mono HB1.out.size))
    clear hw3 hk3
    go_wp2_with fail
    refine (ptext_any _ _ _ w3 HW3.out).mono ?_
    rintro e w4 ⟨rfl, rfl⟩
    go_wp2
    go_ret2
    exact ⟨by rw [HM.out]; rfl, HB3.out⟩
structure CellAt (B : Nat) (w : World) (b o : Nat) (x : Value) : Prop where
  cell : w.cell? ⟨b, o, none⟩ = some x
  ex : b < B ∨ ∃ y, w.heap[b]? = some y ∧ Not8 y
theorem CellAt.lt {B : Nat} {w : World} {b o : Nat} {x : Value} (h : CellAt B w b o x) : b < w.heap.size := lt_of_cell h.cell
theorem CellAt.keep {B : Nat} {w w' : World} {b o : Nat} {x : Value} (h : CellAt B w b o x) (hk : Keep8 B w w') : CellAt B w' b o x := by
  have e : w'.heap[b]? = w.heap[b]? := by
    rcases h.ex with h1 | ⟨y, h1, h2⟩
    · exact hk.low b h1
    · rw [h1]; exact hk.keep b y h1 h2
  refine ⟨?_, ?_⟩
  · have : w'.cell? ⟨b, o, none⟩ = w.cell? ⟨b, o, none⟩ := by unfold World.cell?; rw [e]
    rw [this]; exact h.cell
  · rw [e]; exact h.ex
theorem CellAt.below {B : Nat} {w w' : World} {b o : Nat} {x : Value} (h : CellAt B w b o x) (hb : Below w.heap.size w w') : CellAt B w' b o x := by
  have e : w'.heap[b]? = w.heap[b]? := hb.block b h.lt
  refine ⟨?_, by rw [e]; exact h.ex⟩
  have : w'.cell? ⟨b, o, none⟩ = w.cell? ⟨b, o, none⟩ := by unfold World.cell?; rw [e]
  rw [this]; exact h.cell
theorem yes_any (w : World) : Calls Tryz.prog 184 #[] w fun e w' => e = .returned (.bool true) ∧ Below w.heap.size w w' := by
  go_enter Tryz.func184, Tryz.ntmps184
  go_wp2
  go_ret
  exact ⟨rfl, Below.refl _ _⟩
theorem num1_any (B bx pb po : Nat) (n : Int) (w : World) (h1 : CellAt B w bx 0 (.pointer (some ⟨pb, po, none⟩))) (h2 : CellAt B w pb po (.int .u64 n)) : Calls Tryz.prog 183 #[.pointer (some ⟨bx, 0, none⟩)] w fun e w' => e = .returned (.bool (n == 0)) ∧ Below w.heap.size w w' := by
  have c1 := h1.cell
  have c2 := h2.cell
  clear h1 h2
  go_enter Tryz.func183, Tryz.ntmps183
  go_wp2
  go_ret
  exact ⟨rfl, Below.refl _ _⟩
theorem num2_any (B b base bx pb po : Nat) (n : Int) (s : ByteArray) (w : World) (h1 : CellAt B w bx 0 (.pointer (some ⟨pb, po, none⟩))) (h2 : CellAt B w pb po (.int .u64 n)) (h0 : 0 ≤ n) (hn : n ≤ 18446744073709551615) (ht : PTab B w) (hB : B ≤ base) (hW : WrB w b base s) (hs : s.size + (numP n).size ≤ 60000000000000) :
    Calls Tryz.prog 185 #[.pointer (some ⟨b, 0, none⟩), .pointer (some ⟨bx, 0, none⟩)] w fun e w' => e = .returned (.tuple #[]) ∧ WrB w' b base (s ++ numP n) ∧ WK base b w w' := by
  have c1 := h1.cell
  have c2 := h2.cell
  have H := Lib.hid (Num_w B b base n s w ht hB hW h0 hn (by omega))
  clear h1 h2 ht hW
  go_enter Tryz.func185, Tryz.ntmps185
  go_wp2_with fail
  refine H.out.mono ?_
  rintro e w' ⟨rfl, h3, h4⟩
  have H3 := Lib.hid h3
  have H4 := Lib.hid h4
  clear h3 h4
  go_wp2
  go_end0
  exact ⟨rfl, H3.out, H4.out⟩
theorem cellAt_new {B : Nat} {w : World} {n : Nat} {cs : Array Value} {T : TypeId} {o : Nat} {x : Value} (h : w.heap[n]? = some (.cells cs T (0, 0))) (hT : T ≠ 5) (hx : cs[o]? = some x) : CellAt B w n o x := ⟨by rw [block_cell h]; exact hx, .inr ⟨_, h, not8_cells hT⟩⟩
theorem flag1_any (B bx pb po : Nat) (q : Bool) (w : World) (h1 : CellAt B w bx 0 (.pointer (some ⟨pb, po, none⟩))) (h2 : CellAt B w pb po (.bool q)) : Calls Tryz.prog 187 #[.pointer (some ⟨bx, 0, none⟩)] w fun e w' => e = .returned (.bool (!q)) ∧ Below w.heap.size w w' := by
  have c1 := h1.cell
  have c2 := h2.cell
  clear h1 h2
  go_enter Tryz.func187, Tryz.ntmps187
  go_wp2
  go_ret
  exact ⟨rfl, Below.refl _ _⟩
theorem flag2_any (B b base : Nat) (s : ByteArray) (w : World) (ht : PTab B w) (hB : B ≤ base) (hW : WrB w b base s) (hs : s.size + (numP 1).size ≤ 60000000000000) :
    Calls Tryz.prog 188 #[.pointer (some ⟨b, 0, none⟩)] w fun e w' => e = .returned (.tuple #[]) ∧ WrB w' b base (s ++ numP 1) ∧ WK base b w w' := by
  have H := Lib.hid (Num_w B b base 1 s w ht hB hW (by decide) (by decide) (by omega))
  clear ht hW
  go_enter Tryz.func188, Tryz.ntmps188
  go_wp2_with fail
  refine H.out.mono ?_
  rintro e w' ⟨rfl, h3, h4⟩
  have H3 := Lib.hid h3
  have H4 := Lib.hid h4
  clear h3 h4
  go_wp2
  go_end0
  exact ⟨rfl, H3.out, H4.out⟩
theorem digest1_any (w : World) : Calls Tryz.prog 190 #[] w fun e w' => e = .returned (.bool false) ∧ Below w.heap.size w w' := by
  go_enter Tryz.func190, Tryz.ntmps190
  go_wp2
  go_ret
  exact ⟨rfl, Below.refl _ _⟩
theorem digest2_any (B bx pb po : Nat) (x : ByteArray) (w : World) (h1 : CellAt B w bx 0 (.pointer (some ⟨pb, po, none⟩))) (h2 : CellAt B w pb po (.string x)) (hx : x.size ≤ 9223372036854775807) : Calls Tryz.prog 191 #[.pointer (some ⟨bx, 0, none⟩)] w fun e w' => e = .returned (.bool (decide (x.size = 32))) ∧ Below w.heap.size w w' := by
  have c1 := h1.cell
  have c2 := h2.cell
  have HE : Hid (((x.size : Int) == 32) = decide (x.size = 32)) := Lib.hid (by rw [Bool.eq_iff_iff]; simp; omega)
  clear h1 h2
  go_enter Tryz.func191, Tryz.ntmps191
  go_wp2
  go_ret
  exact ⟨ret_bool HE.out, Below.refl _ _⟩
theorem digest3_any (B b base bx pb po : Nat) (x s : ByteArray) (w : World) (h1 : CellAt B w bx 0 (.pointer (some ⟨pb, po, none⟩))) (h2 : CellAt B w pb po (.string x)) (hx : x.size = 32) (ht : PTab B w) (hB : B ≤ base) (hW : WrB w b base s) (hs : s.size + (binP x).size ≤ 60000000000000) :
    Calls Tryz.prog 192 #[.pointer (some ⟨b, 0, none⟩), .pointer (some ⟨bx, 0, none⟩)] w fun e w' => e = .returned (.tuple #[]) ∧ WrB w' b base (s ++ binP x) ∧ WK base b w w' := by
  have c1 := h1.cell
  have c2 := h2.cell
  have H := Lib.hid (Bin_w B b base x s w ht hB hW (by omega) (by omega))
  clear h1 h2 ht hW hx
  go_enter Tryz.func192, Tryz.ntmps192
  go_wp2_with fail
  refine H.out.mono ?_
  rintro e w' ⟨rfl, h3, h4⟩
  have H3 := Lib.hid h3
  have H4 := Lib.hid h4
  clear h3 h4
  go_wp2
  go_end0
  exact ⟨rfl, H3.out, H4.out⟩
set_option maxRecDepth 100000 in
theorem fnum_any (B : Nat) (key : ByteArray) (pb po : Nat) (n : Int) (w : World) (hk : key.size < 65536) (hBw : B ≤ w.heap.size) (hc : CellAt B w pb po (.int .u64 n)) (h0 : 0 ≤ n) (h1 : n ≤ 18446744073709551615) :
    Calls Tryz.prog 109 #[.string key, .pointer (some ⟨pb, po, none⟩)] w fun e w' => ∃ v : FVal, e = .returned v.val ∧ FSem B w' v ⟨key, false, n == 0, true, numP n⟩ ∧ Below w.heap.size w w' := by
  have HC := Lib.hid hc
  clear hc
  go_enter Tryz.func109, Tryz.ntmps109
  go_wp2
  obtain ⟨bx, hbx⟩ : ∃ bx, w.heap.size = bx := ⟨_, rfl⟩
  obtain ⟨V, hV⟩ : ∃ V, ((w.alloc (.cells #[.pointer (some ⟨pb, po, none⟩)] 177)).alloc (.cells #[.string key, .bool false, .func (.func 183) #[] #[.pointer (some ⟨w.heap.size, 0, none⟩)], .func (.func 184) #[] #[], .func (.func 185) #[] #[.pointer (some ⟨w.heap.size, 0, none⟩)], .func (.func 186) #[] #[.pointer (some ⟨w.heap.size, 0, none⟩)]] 172)) = V := ⟨_, rfl⟩
  have VB : Below w.heap.size w V := by rw [← hV]; (repeat (first | exact Below.refl _ _ | assumption | (refine bdrew ?_) | (refine bdrewN ?_ _) | (refine balloc ?_ _) | (refine bset ?_ (by first | omega | (simp; done) | (simp; omega)) _) | (refine bnext ?_ (by assumption))))
  have V0 : V.heap[bx]? = some (.cells #[.pointer (some ⟨pb, po, none⟩)] 177 (0, 0)) := by rw [← hV, ← hbx]; exact block_alloc (heap_alloc_new _ _) _
  have V1 : V.heap[bx + 1]? = some (.cells #[.string key, .bool false, .func (.func 183) #[] #[.pointer (some ⟨bx, 0, none⟩)], .func (.func 184) #[] #[], .func (.func 185) #[] #[.pointer (some ⟨bx, 0, none⟩)], .func (.func 186) #[] #[.pointer (some ⟨bx, 0, none⟩)]] 172 (0, 0)) := by rw [← hV, ← hbx]; exact alloc_new_at _ (by simp)
  have d : ∀ o, V.cell? ⟨bx + 1, o, none⟩ = _ := block_cell V1
  rw [hV]
  simp only [hbx]
  clear hV
  have C0 : CellAt B V bx 0 (.pointer (some ⟨pb, po, none⟩)) := cellAt_new V0 (by decide) rfl
  have C1 : CellAt B V pb po (.int .u64 n) := HC.out.below VB
  refine bodyPost_ret (v := .agg #[.string key, .bool false, .func (.func 183) #[] #[.pointer (some ⟨bx, 0, none⟩)], .func (.func 184) #[] #[], .func (.func 185) #[] #[.pointer (some ⟨bx, 0, none⟩)], .func (.func 186) #[] #[.pointer (some ⟨bx, 0, none⟩)]]) ?_ rfl ⟨⟨key, false, 183, #[.pointer (some ⟨bx, 0, none⟩)], 184, #[], 185, #[.pointer (some ⟨bx, 0, none⟩)], 186, #[.pointer (some ⟨bx, 0, none⟩)]⟩, rfl, ?_, by rw [← hbx]; exact VB⟩
  · simp [results, Tryz.results109, go_sem, d]
  · refine ⟨rfl, rfl, hk, enters_of Tryz.func183 (by kernel_rfl) rfl, enters_of Tryz.func184 (by kernel_rfl) rfl, enters_of Tryz.func185 (by kernel_rfl) rfl, fun w' hw => num1_any B bx pb po n w' (C0.keep hw) (C1.keep hw), fun w' hw => yes_any w', fun hm he w' b base s hw hb ht hB hW hs => num2_any B b base bx pb po n s w' (C0.keep hw) (C1.keep hw) h0 h1 ht hB hW hs⟩
set_option maxRecDepth 100000 in
theorem fflag_any (B : Nat) (key : ByteArray) (pb po : Nat) (q : Bool) (w : World) (hk : key.size < 65536) (hBw : B ≤ w.heap.size) (hc : CellAt B w pb po (.bool q)) :
    Calls Tryz.prog 110 #[.string key, .pointer (some ⟨pb, po, none⟩)] w fun e w' => ∃ v : FVal, e = .returned v.val ∧ FSem B w' v ⟨key, false, !q, true, numP 1⟩ ∧ Below w.heap.size w w' := by
  have HC := Lib.hid hc
  clear hc
  go_enter Tryz.func110, Tryz.ntmps110
  go_wp2
  obtain ⟨bx, hbx⟩ : ∃ bx, w.heap.size = bx := ⟨_, rfl⟩
  obtain ⟨V, hV⟩ : ∃ V, ((w.alloc (.cells #[.pointer (some ⟨pb, po, none⟩)] 179)).alloc (.cells #[.string key, .bool false, .func (.func 187) #[] #[.pointer (some ⟨w.heap.size, 0, none⟩)], .func (.func 184) #[] #[], .func (.func 188) #[] #[], .func (.func 189) #[] #[.pointer (some ⟨w.heap.size, 0, none⟩)]] 172)) = V := ⟨_, rfl⟩
  have VB : Below w.heap.size w V := by rw [← hV]; (repeat (first | exact Below.refl _ _ | assumption | (refine bdrew ?_) | (refine bdrewN ?_ _) | (refine balloc ?_ _) | (refine bset ?_ (by first | omega | (simp; done) | (simp; omega)) _) | (refine bnext ?_ (by assumption))))
  have V0 : V.heap[bx]? = some (.cells #[.pointer (some ⟨pb, po, none⟩)] 179 (0, 0)) := by rw [← hV, ← hbx]; exact block_alloc (heap_alloc_new _ _) _
  have V1 : V.heap[bx + 1]? = some (.cells #[.string key, .bool false, .func (.func 187) #[] #[.pointer (some ⟨bx, 0, none⟩)], .func (.func 184) #[] #[], .func (.func 188) #[] #[], .func (.func 189) #[] #[.pointer (some ⟨bx, 0, none⟩)]] 172 (0, 0)) := by rw [← hV, ← hbx]; exact alloc_new_at _ (by simp)
  have d : ∀ o, V.cell? ⟨bx + 1, o, none⟩ = _ := block_cell V1
  rw [hV]
  simp only [hbx]
  clear hV
  have C0 : CellAt B V bx 0 (.pointer (some ⟨pb, po, none⟩)) := cellAt_new V0 (by decide) rfl
  have C1 : CellAt B V pb po (.bool q) := HC.out.below VB
  refine bodyPost_ret (v := .agg #[.string key, .bool false, .func (.func 187) #[] #[.pointer (some ⟨bx, 0, none⟩)], .func (.func 184) #[] #[], .func (.func 188) #[] #[], .func (.func 189) #[] #[.pointer (some ⟨bx, 0, none⟩)]]) ?_ rfl ⟨⟨key, false, 187, #[.pointer (some ⟨bx, 0, none⟩)], 184, #[], 188, #[], 189, #[.pointer (some ⟨bx, 0, none⟩)]⟩, rfl, ?_, by rw [← hbx]; exact VB⟩
  · simp [results, Tryz.results110, go_sem, d]
  · refine ⟨rfl, rfl, hk, enters_of Tryz.func187 (by kernel_rfl) rfl, enters_of Tryz.func184 (by kernel_rfl) rfl, enters_of Tryz.func188 (by kernel_rfl) rfl, fun w' hw => flag1_any B bx pb po q w' (C0.keep hw) (C1.keep hw), fun w' hw => yes_any w', fun hm he w' b base s hw hb ht hB hW hs => flag2_any B b base s w' ht hB hW hs⟩
set_option maxRecDepth 100000 in
theorem fdigest_any (B : Nat) (key : ByteArray) (pb po : Nat) (x : ByteArray) (w : World) (hk : key.size < 65536) (hBw : B ≤ w.heap.size) (hc : CellAt B w pb po (.string x)) (hx : x.size ≤ 9223372036854775807) :
    Calls Tryz.prog 111 #[.string key, .pointer (some ⟨pb, po, none⟩)] w fun e w' => ∃ v : FVal, e = .returned v.val ∧ FSem B w' v ⟨key, true, false, decide (x.size = 32), binP x⟩ ∧ Below w.heap.size w w' := by
  have HC := Lib.hid hc
  clear hc
  go_enter Tryz.func111, Tryz.ntmps111
  go_wp2
  obtain ⟨bx, hbx⟩ : ∃ bx, w.heap.size = bx := ⟨_, rfl⟩
  obtain ⟨V, hV⟩ : ∃ V, ((w.alloc (.cells #[.pointer (some ⟨pb, po, none⟩)] 181)).alloc (.cells #[.string key, .bool true, .func (.func 190) #[] #[], .func (.func 191) #[] #[.pointer (some ⟨w.heap.size, 0, none⟩)], .func (.func 192) #[] #[.pointer (some ⟨w.heap.size, 0, none⟩)], .func (.func 194) #[] #[.pointer (some ⟨w.heap.size, 0, none⟩)]] 172)) = V := ⟨_, rfl⟩
  have VB : Below w.heap.size w V := by rw [← hV]; (repeat (first | exact Below.refl _ _ | assumption | (refine bdrew ?_) | (refine bdrewN ?_ _) | (refine balloc ?_ _) | (refine bset ?_ (by first | omega | (simp; done) | (simp; omega)) _) | (refine bnext ?_ (by assumption))))
  have V0 : V.heap[bx]? = some (.cells #[.pointer (some ⟨pb, po, none⟩)] 181 (0, 0)) := by rw [← hV, ← hbx]; exact block_alloc (heap_alloc_new _ _) _
  have V1 : V.heap[bx + 1]? = some (.cells #[.string key, .bool true, .func (.func 190) #[] #[], .func (.func 191) #[] #[.pointer (some ⟨bx, 0, none⟩)], .func (.func 192) #[] #[.pointer (some ⟨bx, 0, none⟩)], .func (.func 194) #[] #[.pointer (some ⟨bx, 0, none⟩)]] 172 (0, 0)) := by rw [← hV, ← hbx]; exact alloc_new_at _ (by simp)
  have d : ∀ o, V.cell? ⟨bx + 1, o, none⟩ = _ := block_cell V1
  rw [hV]
  simp only [hbx]
  clear hV
  have C0 : CellAt B V bx 0 (.pointer (some ⟨pb, po, none⟩)) := cellAt_new V0 (by decide) rfl
  have C1 : CellAt B V pb po (.string x) := HC.out.below VB
  refine bodyPost_ret (v := .agg #[.string key, .bool true, .func (.func 190) #[] #[], .func (.func 191) #[] #[.pointer (some ⟨bx, 0, none⟩)], .func (.func 192) #[] #[.pointer (some ⟨bx, 0, none⟩)], .func (.func 194) #[] #[.pointer (some ⟨bx, 0, none⟩)]]) ?_ rfl ⟨⟨key, true, 190, #[], 191, #[.pointer (some ⟨bx, 0, none⟩)], 192, #[.pointer (some ⟨bx, 0, none⟩)], 194, #[.pointer (some ⟨bx, 0, none⟩)]⟩, rfl, ?_, by rw [← hbx]; exact VB⟩
  · simp [results, Tryz.results111, go_sem, d]
  · refine ⟨rfl, rfl, hk, enters_of Tryz.func190 (by kernel_rfl) rfl, enters_of Tryz.func191 (by kernel_rfl) rfl, enters_of Tryz.func192 (by kernel_rfl) rfl, fun w' hw => digest1_any w', fun w' hw => digest2_any B bx pb po x w' (C0.keep hw) (C1.keep hw) hx, fun hm he w' b base s hw hb ht hB hW hs => digest3_any B b base bx pb po x s w' (C0.keep hw) (C1.keep hw) (by simpa using hm) ht hB hW hs⟩
end Go.Proofs.YtihiaopilnjonaaGreatDoor
namespace Go.Proofs.YtihiaopilnjonaaGreatDoor
open Go.RowKit
set_option linter.unusedSimpArgs false
set_option linter.unusedVariables false
def Strs (B : Nat) (w : World) (a : Option Addr) (l : List ByteArray) : Prop := ∀ i, i < len l → ∃ b off, a = some ⟨b, off, none⟩ ∧ CellAt B w b (off + i) (.string (sth l i))
theorem Strs.keep {B : Nat} {w w' : World} {a : Option Addr} {l : List ByteArray} (h : Strs B w a l) (hk : Keep8 B w w') : Strs B w' a l := fun i hi => by
  obtain ⟨b, off, e, hc⟩ := h i hi; exact ⟨b, off, e, hc.keep hk⟩
theorem Strs.below {B : Nat} {w w' : World} {a : Option Addr} {l : List ByteArray} (h : Strs B w a l) (hk : Below w.heap.size w w') : Strs B w' a l := fun i hi => by
  obtain ⟨b, off, e, hc⟩ := h i hi; exact ⟨b, off, e, hc.below hk⟩
def SaysS (w : World) (l : List ByteArray) (g : Nat) (lb : Array Value) (p : Nat → Bool) : Prop :=
  (∀ args w', (callFunc g args).run Tryz.prog w' = .ok (.enter g args) w') ∧ ∀ i, i < len l → ∀ w', Below w.heap.size w w' → Calls Tryz.prog g (#[.string (sth l i)] ++ lb) w' fun e w'' => e = .returned (.bool (p i)) ∧ Below w'.heap.size w' w''
set_option maxRecDepth 100000 in
set_option maxHeartbeats 4000000 in
theorem idxs_any (B : Nat) (a : Option Addr) (c : Nat) (l : List ByteArray) (g : Nat) (lb : Array Value) (p : Nat → Bool) (w : World) (hl : Strs B w a l) (hn : len l ≤ 100000) (hp : SaysS w l g lb p) :
    Calls Tryz.prog 260 #[.slice a (len l) c, .func (.func g) #[] lb] w (IdxOut (len l) p w) := by
  have HL := Lib.hid hl
  have HP := Lib.hid hp.2
  have eg := hp.1
  clear hl hp
  go_enter Tryz.func260, Tryz.ntmps260
  go_wp2
  go_loopg [8] (len l) (fun g i wr => ∃ m : Nat, g + m = len l ∧ i = .int .i64 m ∧ Hid (∀ i, i < m → p i = false) ∧ Hid (Below w.heap.size w wr))
  case atStart => exact ⟨0, rfl, rfl, fun i hi => by omega, Below.refl _ _⟩
  case round =>
    obtain ⟨m, hm, rfl, HN, HB⟩ := hrel
    by_cases hlt : m < len l
    · obtain ⟨b, off, rfl, hc⟩ := (HL.out.below HB.out) m hlt
      have c0 := hc.cell
      have i1 : (m : Int) < len l := by omega
      have HC := Lib.hid (HP.out m hlt wr HB.out)
      clear hc
      generalize sth l m = v at c0 HC
      go_wp2_with fail
      refine HC.out.mono ?_
      rintro e w1 ⟨rfl, hb⟩
      have HB1 : Hid (Below w.heap.size w w1) := Lib.hid (bnext HB.out hb)
      clear hb c0
      cases hpm : p m with
      | true =>
        go_wp2
        go_ret
        exact ⟨m, rfl, .inr ⟨m, hlt, rfl, hpm, HN.out⟩, HB1.out⟩
      | false =>
        have HN2 : Hid (∀ i, i < m + 1 → p i = false) := Lib.hid (fun i hi => by
          by_cases e : i = m
          · subst e; exact hpm
          · exact HN.out i (by omega))
        clear hpm
        go_wp2
        go_roundg (len l - (m + 1))
        case rel => exact ⟨m + 1, by omega, by go_num, HN2.out, HB1.out⟩
        case measure => omega
    · obtain rfl : m = len l := by omega
      have i1 : ¬ ((len l : Nat) : Int) < len l := by omega
      go_wp2
      go_ret
      exact ⟨-1, rfl, .inl ⟨rfl, HN.out⟩, HB.out⟩
theorem containss_any (B : Nat) (a : Option Addr) (c : Nat) (l : List ByteArray) (g : Nat) (lb : Array Value) (p : Nat → Bool) (w : World) (hl : Strs B w a l) (hn : len l ≤ 100000) (hp : SaysS w l g lb p) :
    Calls Tryz.prog 249 #[.slice a (len l) c, .func (.func g) #[] lb] w fun e w' => ∃ b, e = .returned (.bool b) ∧ (b = true ↔ ∃ i, i < len l ∧ p i = true) ∧ Below w.heap.size w w' := by
  have H := Lib.hid (idxs_any B a c l g lb p w hl hn hp)
  clear hl hp
  go_enter Tryz.func249, Tryz.ntmps249
  go_wp2_with fail
  refine H.out.mono ?_
  rintro e w1 ⟨r, rfl, hr, hb⟩
  have HB := Lib.hid hb
  clear hb
  rcases hr with ⟨rfl, hall⟩ | ⟨k, hk, rfl, hpk, -⟩
  · have HA := Lib.hid hall
    clear hall
    go_wp2
    go_ret
    exact ⟨false, rfl, ⟨fun h => (by cases h), fun ⟨i, hi, h⟩ => by rw [HA.out i hi] at h; cases h⟩, HB.out⟩
  · have HK := Lib.hid hpk
    clear hpk
    go_wp2
    go_ret
    exact ⟨true, rfl, ⟨fun _ => ⟨k, hk, HK.out⟩, fun _ => rfl⟩, HB.out⟩
theorem dgs1_any (B pb po : Nat) (x : ByteArray) (w : World) (h : CellAt B w pb po (.string x)) : Calls Tryz.prog 211 #[.pointer (some ⟨pb, po, none⟩)] w fun e w' => e = .returned (.bool (decide (x.size = 32))) ∧ Below w.heap.size w w' := by
  have c1 := h.cell
  have HE : Hid (((x.size : Int) == 32) = decide (x.size = 32)) := Lib.hid (by rw [Bool.eq_iff_iff]; simp; omega)
  clear h
  go_enter Tryz.func211, Tryz.ntmps211
  go_wp2
  go_ret
  exact ⟨ret_bool HE.out, Below.refl _ _⟩
theorem dgs2_any (B b base pb po : Nat) (x s : ByteArray) (w : World) (h : CellAt B w pb po (.string x)) (hx : x.size = 32) (ht : PTab B w) (hB : B ≤ base) (hW : WrB w b base s) (hs : s.size + (binP x).size ≤ 60000000000000) :
    Calls Tryz.prog 212 #[.pointer (some ⟨b, 0, none⟩), .pointer (some ⟨pb, po, none⟩)] w fun e w' => e = .returned (.tuple #[]) ∧ WrB w' b base (s ++ binP x) ∧ WK base b w w' := by
  have c1 := h.cell
  have H := Lib.hid (Bin_w B b base x s w ht hB hW (by omega) (by omega))
  clear h ht hW hx
  go_enter Tryz.func212, Tryz.ntmps212
  go_wp2_with fail
  refine H.out.mono ?_
  rintro e w' ⟨rfl, h3, h4⟩
  have H3 := Lib.hid h3
  have H4 := Lib.hid h4
  clear h3 h4
  go_wp2
  go_end0
  exact ⟨rfl, H3.out, H4.out⟩
theorem many1_any (B b7 pb po n c : Nat) (a : Option Addr) (w : World) (h1 : CellAt B w b7 0 (.pointer (some ⟨pb, po, none⟩))) (h2 : CellAt B w pb po (.slice a n c)) : Calls Tryz.prog 247 #[.pointer (some ⟨b7, 0, none⟩)] w fun e w' => e = .returned (.bool (decide (n = 0))) ∧ Below w.heap.size w w' := by
  have c1 := h1.cell
  have c2 := h2.cell
  have HE : Hid (((n : Int) == 0) = decide (n = 0)) := Lib.hid (by rw [Bool.eq_iff_iff]; simp)
  clear h1 h2
  go_enter Tryz.func247, Tryz.ntmps247
  go_wp2
  go_ret
  exact ⟨ret_bool HE.out, Below.refl _ _⟩
set_option maxRecDepth 100000 in
theorem many21_any (B b9 : Nat) (x : ByteArray) (w : World) (h1 : CellAt B w b9 0 (.func (.func 211) #[] #[])) : Calls Tryz.prog 250 #[.string x, .pointer (some ⟨b9, 0, none⟩)] w fun e w' => e = .returned (.bool (!decide (x.size = 32))) ∧ Below w.heap.size w w' := by
  have c1 := h1.cell
  have l1 := h1.lt
  have eg := enters_of Tryz.func211 (by kernel_rfl) rfl
  clear h1
  go_enter Tryz.func250, Tryz.ntmps250
  go_wp2_with fail
  refine (dgs1_any B w.heap.size 0 x _ ⟨block_cell (heap_alloc_new _ _) 0, .inr ⟨_, heap_alloc_new _ _, not8_cells (by decide)⟩⟩).mono ?_
  rintro e w1 ⟨rfl, hb⟩
  have HB : Hid (Below w.heap.size w w1) := Lib.hid (bnext (balloc (Below.refl _ _) _) hb)
  clear hb
  go_wp2
  go_ret
  exact ⟨rfl, HB.out⟩
def mayB (l : List ByteArray) (most : Nat) : Bool := decide (len l ≤ most) && l.all fun x => decide (x.size = 32)
theorem all32_iff (l : List ByteArray) : ((l.all fun x => decide (x.size = 32)) = false ↔ ∃ i, i < len l ∧ (!decide ((sth l i).size = 32)) = true) := by
  rw [List.all_eq_false]
  constructor
  · rintro ⟨x, hx, hm⟩
    obtain ⟨i, hi, rfl⟩ := List.getElem_of_mem hx
    exact ⟨i, hi, by rw [sth_eq l i hi]; simpa using hm⟩
  · rintro ⟨i, hi, hm⟩
    have hi' : i < l.length := hi
    exact ⟨l[i], List.getElem_mem _, by rw [sth_eq l i hi'] at hm; simpa using hm⟩
set_option maxRecDepth 100000 in
set_option maxHeartbeats 4000000 in
theorem many2_any (B b7 b8 b9 pb po c most : Nat) (a : Option Addr) (l : List ByteArray) (w : World) (h1 : CellAt B w b7 0 (.pointer (some ⟨pb, po, none⟩))) (h2 : CellAt B w pb po (.slice a (len l) c)) (h3 : CellAt B w b8 0 (.int .i64 most)) (h4 : CellAt B w b9 0 (.func (.func 211) #[] #[]))
    (hl : Strs B w a l) (hn : len l ≤ 100000) : Calls Tryz.prog 248 #[.pointer (some ⟨b7, 0, none⟩), .pointer (some ⟨b8, 0, none⟩), .pointer (some ⟨b9, 0, none⟩)] w fun e w' => e = .returned (.bool (mayB l most)) ∧ Below w.heap.size w w' := by
  have c1 := h1.cell
  have c2 := h2.cell
  have c3 := h3.cell
  have H4 := Lib.hid h4
  have HL := Lib.hid hl
  have eg := enters_of Tryz.func250 (by kernel_rfl) rfl
  clear h1 h2 h3 h4 hl
  have HCF : Hid (∀ w', Below w.heap.size w w' → Calls Tryz.prog 249 #[.slice a (len l) c, .func (.func 250) #[] #[.pointer (some ⟨b9, 0, none⟩)]] w' fun e w'' => ∃ b, e = .returned (.bool b) ∧ (b = true ↔ ∃ i, i < len l ∧ (!decide ((sth l i).size = 32)) = true) ∧ Below w'.heap.size w' w'') :=
    Lib.hid (fun w' hb => containss_any B a c l _ _ (fun i => !decide ((sth l i).size = 32)) w' (HL.out.below hb) hn ⟨eg, fun i hi w'' hb2 => many21_any B b9 (sth l i) w'' ((H4.out.below hb).below hb2)⟩)
  by_cases hm : len l ≤ most
  · have i1 : decide (len l ≤ most) = true := decide_eq_true hm
    have i2 : (len l : Int) ≤ most := by omega
    have HM := Lib.hid i1
    clear i1 hm
    go_enter Tryz.func248, Tryz.ntmps248
    go_wp2_with fail
    go_still_tail 11, (by kernel_rfl)
    go_wp2_with fail
    refine (HCF.out _ (bdrew (Below.refl _ _))).mono ?_
    rintro e w1 ⟨q, rfl, hq, hb⟩
    have HB : Hid (Below w.heap.size w w1) := Lib.hid (bnext (bdrew (Below.refl _ _)) hb)
    have HE : Hid ((!q) = mayB l most) := Lib.hid (by
      unfold mayB
      rw [HM.out, Bool.true_and]
      have h := all32_iff l
      cases q with
      | true => rw [h.2 (hq.1 rfl)]; rfl
      | false =>
        cases hm : (l.all fun x => decide (x.size = 32)) with
        | true => rfl
        | false => exact absurd (hq.2 (h.1 hm)) (by decide))
    clear hb hq c1 c2 c3
    go_wp2
    go_ret
    exact ⟨ret_bool HE.out, HB.out⟩
  · have i1 : decide (len l ≤ most) = false := decide_eq_false hm
    have HM := Lib.hid i1
    have i2 : ¬ (len l : Int) ≤ most := by omega
    go_enter Tryz.func248, Tryz.ntmps248
    go_wp2_with fail
    go_quiet (fail)
    go_wp2
    go_ret
    exact ⟨ret_bool (by unfold mayB; rw [HM.out]; rfl), by (repeat (first | exact Below.refl _ _ | assumption | (refine bdrew ?_) | (refine bdrewN ?_ _) | (refine balloc ?_ _) | (refine bset ?_ (by first | omega | (simp; done) | (simp; omega)) _) | (refine bnext ?_ (by assumption))))⟩
def dgsP (l : List ByteArray) : ByteArray := listP (len l) ++ catB (l.map binP)
theorem size32 {l : List ByteArray} {most : Nat} (h : mayB l most = true) : len l ≤ most ∧ ∀ i, i < len l → (sth l i).size = 32 := by
  unfold mayB at h
  rw [Bool.and_eq_true] at h
  refine ⟨of_decide_eq_true h.1, fun i hi => ?_⟩
  have h2 := h.2
  rw [List.all_eq_true] at h2
  have hi' : i < l.length := hi
  rw [sth_eq l i hi']
  exact of_decide_eq_true (h2 _ (List.getElem_mem _))
set_option maxRecDepth 100000 in
set_option maxHeartbeats 4000000 in
theorem many3_any (B b base b7 b10 pb po c : Nat) (a : Option Addr) (l : List ByteArray) (s : ByteArray) (W0 w : World) (h1 : CellAt B W0 b7 0 (.pointer (some ⟨pb, po, none⟩))) (h2 : CellAt B W0 pb po (.slice a (len l) c)) (h3 : CellAt B W0 b10 0 (.func (.func 212) #[] #[]))
    (hl : Strs B W0 a l) (hn : len l ≤ 60000) (h32 : ∀ i, i < len l → (sth l i).size = 32) (hk : Keep8 B W0 w) (hb0 : Off8 W0 b)
    (ht : PTab B w) (hB : B ≤ base) (hW : WrB w b base s) (hs : s.size + (dgsP l).size ≤ 60000000000000) :
    Calls Tryz.prog 251 #[.pointer (some ⟨b, 0, none⟩), .pointer (some ⟨b7, 0, none⟩), .pointer (some ⟨b10, 0, none⟩)] w fun e w' => e = .returned (.tuple #[]) ∧ WrB w' b base (s ++ dgsP l) ∧ WK base b w w' := by
  have H1 := Lib.hid h1
  have H2 := Lib.hid h2
  have H3 := Lib.hid h3
  have HL := Lib.hid hl
  have H32 := Lib.hid h32
  have HK := Lib.hid hk
  have HT := Lib.hid ht
  have HWR := Lib.hid hW
  have HBS : Hid (base ≤ w.heap.size) := Lib.hid (by have := hW.1; have := hW.lt; omega)
  have HS : Hid (s.size + (listP (len l)).size + (catB (l.map binP)).size ≤ 60000000000000) := Lib.hid (by unfold dgsP at hs; rw [ByteArray.size_append] at hs; omega)
  have hs0 : s.size ≤ 60000000000000 := by omega
  have c1 := (h1.keep hk).cell
  have c2 := (h2.keep hk).cell
  have eg := enters_of Tryz.func212 (by kernel_rfl) rfl
  clear h1 h2 h3 hl h32 hk ht hW hs
  go_enter Tryz.func251, Tryz.ntmps251
  go_wp2_with fail
  refine (List_w B b base (len l) s w HT.out hB HWR.out (by omega) (by omega)).mono ?_
  rintro e w3 ⟨rfl, hw3, hk3⟩
  have HW3 : Hid (WrB w3 b base (s ++ listP (len l) ++ catB ((l.map binP).take 0))) := Lib.hid (by
    have e : s ++ listP (len l) ++ catB ((l.map binP).take 0) = s ++ listP (len l) := ba_ext (by simp [catB])
    rw [e]; exact hw3)
  have HK3 : Hid (WK base b w w3) := Lib.hid hk3
  have hk8 := HK.out.wk hk3 hb0 hB
  have d1 := (H1.out.keep hk8).cell
  have d2 := (H2.out.keep hk8).cell
  clear hw3 hk3 hk8 c1 c2
  go_wp2
  clear d1 d2
  go_loopg [15] (len l) (fun gg i wr => ∃ m : Nat, gg + m = len l ∧ i = .int .i64 m ∧ Hid (WrB wr b base (s ++ listP (len l) ++ catB ((l.map binP).take m))) ∧ Hid (WK base b w wr))
  case atStart => exact ⟨0, rfl, rfl, HW3.out, HK3.out⟩
  case round =>
    clear HW3 HK3
    obtain ⟨m, hm2, rfl, HWW, HWK⟩ := hrel
    by_cases hlt : m < len l
    · have i1 : (m : Int) < len l := by omega
      have hml : m < l.length := hlt
      have hk8 := HK.out.wk HWK.out hb0 hB
      have HK8 := Lib.hid hk8
      have d1 := (H1.out.keep hk8).cell
      have d2 := (H2.out.keep hk8).cell
      have d3 := (H3.out.keep hk8).cell
      obtain ⟨gb, go, rfl, hcell⟩ := (HL.out.keep hk8) m hlt
      have HCL := Lib.hid hcell
      have hsn : (l.map binP).take (m + 1) = (l.map binP).take m ++ [binP (sth l m)] := by
        rw [List.take_succ_eq_append_getElem (by simpa using hml), List.getElem_map, sth_eq l m hml]
      have hct := catB_take (L := l.map binP) (t := m) (by simpa using hml)
      have hfm : (l.map binP)[m]'(by simpa using hml) = binP (sth l m) := by rw [List.getElem_map, sth_eq l m hml]
      rw [hfm] at hct
      have h32m := H32.out m hlt
      obtain ⟨x, hx⟩ : ∃ x, sth l m = x := ⟨_, rfl⟩
      rw [hx] at hsn hct h32m HCL
      obtain ⟨s1, hs1⟩ : ∃ s1, s ++ listP (len l) ++ catB ((l.map binP).take m) = s1 := ⟨_, rfl⟩
      rw [hs1] at HWW
      have hs1s : s1.size + (binP x).size ≤ 60000000000000 := by
        rw [← hs1, ByteArray.size_append, ByteArray.size_append]
        have := HS.out
        omega
      have HSN : Hid (s ++ listP (len l) ++ catB ((l.map binP).take (m + 1)) = s1 ++ binP x) := Lib.hid (by
        rw [hsn, catB_snoc, ← hs1]; simp only [ByteArray.append_assoc])
      have HTR : Hid (PTab B wr) := Lib.hid (HT.out.keep HWK.out.bel hB)
      have hbr : base ≤ wr.heap.size := by have := HWK.out.bel.size; have := HBS.out; omega
      have HBR := Lib.hid hbr
      clear hk8 hcell hsn hct hfm hx hs1 hbr
      go_upto_region 4 with fail
      go_still_tail 7, (by kernel_rfl)
      go_wp2_with fail
      refine (dgs2_any B b base gb (go + m) x s1 _ (HCL.out.below (bdrew (Below.refl _ _))) h32m (HTR.out.keep (bdrew (Below.refl _ _)) HTR.out.size) hB (HWW.out.below (bdrew (Below.refl _ _))) hs1s).mono ?_
      rintro e w5 ⟨rfl, hw5, hk5⟩
      have HW5 : Hid (WrB w5 b base (s ++ listP (len l) ++ catB ((l.map binP).take (m + 1)))) := Lib.hid (by rw [HSN.out]; exact hw5)
      have HK5 : Hid (WK base b w w5) := Lib.hid ((HWK.out.trans (WK.of_below (bdrew (Below.refl _ _)) HBR.out)).trans hk5)
      clear hw5 hk5 HWW HWK d1 d2 d3 HCL
      go_wp2
      go_roundg (len l - (m + 1))
      case rel => exact ⟨m + 1, by omega, by go_num, HW5.out, HK5.out⟩
      case measure => omega
    · obtain rfl : m = len l := by omega
      have i1 : ¬ ((len l : Nat) : Int) < len l := by omega
      go_wp2
      go_end0
      refine ⟨rfl, ?_, HWK.out⟩
      have h := HWW.out
      rw [List.take_of_length_le (by rw [List.length_map]; exact Nat.le_refl _), ByteArray.append_assoc] at h
      exact h
end Go.Proofs.YtihiaopilnjonaaGreatDoor
namespace Go.Proofs.YtihiaopilnjonaaGreatDoor
open Go.RowKit
set_option linter.unusedSimpArgs false
set_option linter.unusedVariables false
abbrev BPs := List (ByteArray × ByteArray)
def catK (ps : BPs) : ByteArray := catB ((rkept ps).map fun p => strP p.1 ++ p.2)
def LyB (w : World) (b : Nat) (ps : BPs) : Prop := w.heap[b]? = some (.cells #[.int .u64 ((rkept ps).length : Nat), .string (catK ps)] 141 (0, 0))
theorem LyB.below {w w' : World} {b : Nat} {ps : BPs} (h : LyB w b ps) (hb : Below w.heap.size w w') : LyB w' b ps := by
  unfold LyB; rw [hb.block b (lt_of_block h)]; exact h
end Go.Proofs.YtihiaopilnjonaaGreatDoor
namespace Go.Proofs.YtihiaopilnjonaaGreatDoor
open Go.RowKit
set_option linter.unusedSimpArgs false
set_option linter.unusedVariables false
theorem laidP_len (sort : Nat) (n : Int) (t : ByteArray) : (laidP sort n t).size ≤ 9 + t.size := by
  unfold laidP
  have := headP_len sort n
  rw [ByteArray.size_append, baL_size]
  split
  · omega
  · show _ + 0 ≤ _; omega
end Go.Proofs.YtihiaopilnjonaaGreatDoor
namespace Go.Proofs.YtihiaopilnjonaaGreatDoor
open Go.RowKit
set_option linter.unusedSimpArgs false
set_option linter.unusedVariables false
theorem CellAt.but {B : Nat} {w w' : World} {b o t : Nat} {x : Value} (h : CellAt B w b o x) (hb : b ≠ t) (hk : ∀ k : Nat, k ≠ t → w'.heap[k]? = w.heap[k]?) : CellAt B w' b o x := by
  have e := hk b hb
  refine ⟨?_, by rw [e]; exact h.ex⟩
  have : w'.cell? ⟨b, o, none⟩ = w.cell? ⟨b, o, none⟩ := by unfold World.cell?; rw [e]
  rw [this]; exact h.cell
set_option maxRecDepth 100000 in
theorem fmany_any (B : Nat) (key : ByteArray) (pb po c most : Nat) (a : Option Addr) (l : List ByteArray) (w : World) (hk : key.size < 65536) (hBw : B ≤ w.heap.size) (hc : CellAt B w pb po (.slice a (len l) c)) (hl : Strs B w a l) (hn : len l ≤ 100000) (hm : most ≤ 60000) (t : Nat) (htw : t < w.heap.size) (htp : pb ≠ t) (hta : ∀ i, i < len l → ∃ g o, a = some ⟨g, o, none⟩ ∧ g ≠ t) :
    Calls Tryz.prog 210 #[.string key, .pointer (some ⟨pb, po, none⟩), .int .i64 most, .func (.func 211) #[] #[], .func (.func 212) #[] #[], .func (.func 213) #[] #[]] w fun e w' => ∃ v : FVal, e = .returned v.val ∧ (∀ V2 : World, (∀ k : Nat, k ≠ t → V2.heap[k]? = w'.heap[k]?) → FSem B V2 v ⟨key, false, decide (len l = 0), mayB l most, dgsP l⟩) ∧ Below w.heap.size w w' := by
  have HC := Lib.hid hc
  have HL := Lib.hid hl
  clear hc hl
  go_enter Tryz.func210, Tryz.ntmps210
  go_wp2
  obtain ⟨bx, hbx⟩ : ∃ bx, w.heap.size = bx := ⟨_, rfl⟩
  obtain ⟨V, hV⟩ : ∃ V, (((((((w.alloc (.cells #[.pointer (some ⟨pb, po, none⟩)] 230)).alloc (.cells #[.int .i64 most] 3)).alloc (.cells #[.func (.func 211) #[] #[]] 301)).alloc (.cells #[.func (.func 212) #[] #[]] 302)).alloc (.cells #[.func (.func 213) #[] #[]] 303)).alloc (.cells #[.string key, .bool false, .func (.func 247) #[] #[.pointer (some ⟨w.heap.size, 0, none⟩)], .func (.func 248) #[] #[.pointer (some ⟨w.heap.size, 0, none⟩), .pointer (some ⟨w.heap.size + 1, 0, none⟩), .pointer (some ⟨w.heap.size + 1 + 1, 0, none⟩)], .func (.func 251) #[] #[.pointer (some ⟨w.heap.size, 0, none⟩), .pointer (some ⟨w.heap.size + 1 + 1 + 1, 0, none⟩)], .func (.func 252) #[] #[.pointer (some ⟨w.heap.size + 1, 0, none⟩), .pointer (some ⟨w.heap.size + 1 + 1 + 1 + 1, 0, none⟩), .pointer (some ⟨w.heap.size, 0, none⟩)]] 172)).alloc (.cells #[.string key, .bool false, .func (.func 247) #[] #[.pointer (some ⟨w.heap.size, 0, none⟩)], .func (.func 248) #[] #[.pointer (some ⟨w.heap.size, 0, none⟩), .pointer (some ⟨w.heap.size + 1, 0, none⟩), .pointer (some ⟨w.heap.size + 1 + 1, 0, none⟩)], .func (.func 251) #[] #[.pointer (some ⟨w.heap.size, 0, none⟩), .pointer (some ⟨w.heap.size + 1 + 1 + 1, 0, none⟩)], .func (.func 252) #[] #[.pointer (some ⟨w.heap.size + 1, 0, none⟩), .pointer (some ⟨w.heap.size + 1 + 1 + 1 + 1, 0, none⟩), .pointer (some ⟨w.heap.size, 0, none⟩)]] 172)) = V := ⟨_, rfl⟩
  have VB : Below w.heap.size w V := by rw [← hV]; (repeat (first | exact Below.refl _ _ | assumption | (refine bdrew ?_) | (refine bdrewN ?_ _) | (refine balloc ?_ _) | (refine bset ?_ (by first | omega | (simp; done) | (simp; omega)) _) | (refine bnext ?_ (by assumption))))
  have V0 : V.heap[bx]? = some (.cells #[.pointer (some ⟨pb, po, none⟩)] 230 (0, 0)) := by rw [← hV, ← hbx]; exact block_alloc (block_alloc (block_alloc (block_alloc (block_alloc (block_alloc (heap_alloc_new _ _) _) _) _) _) _) _
  have V1 : V.heap[bx + 1]? = some (.cells #[.int .i64 most] 3 (0, 0)) := by rw [← hV, ← hbx]; exact block_alloc (block_alloc (block_alloc (block_alloc (block_alloc (alloc_new_at _ (by simp)) _) _) _) _) _
  have V2 : V.heap[bx + 1 + 1]? = some (.cells #[.func (.func 211) #[] #[]] 301 (0, 0)) := by rw [← hV, ← hbx]; exact block_alloc (block_alloc (block_alloc (block_alloc (alloc_new_at _ (by simp)) _) _) _) _
  have V3 : V.heap[bx + 1 + 1 + 1]? = some (.cells #[.func (.func 212) #[] #[]] 302 (0, 0)) := by rw [← hV, ← hbx]; exact block_alloc (block_alloc (block_alloc (alloc_new_at _ (by simp)) _) _) _
  have V5 : V.heap[bx + 1 + 1 + 1 + 1 + 1]? = some (.cells #[.string key, .bool false, .func (.func 247) #[] #[.pointer (some ⟨bx, 0, none⟩)], .func (.func 248) #[] #[.pointer (some ⟨bx, 0, none⟩), .pointer (some ⟨bx + 1, 0, none⟩), .pointer (some ⟨bx + 1 + 1, 0, none⟩)], .func (.func 251) #[] #[.pointer (some ⟨bx, 0, none⟩), .pointer (some ⟨bx + 1 + 1 + 1, 0, none⟩)], .func (.func 252) #[] #[.pointer (some ⟨bx + 1, 0, none⟩), .pointer (some ⟨bx + 1 + 1 + 1 + 1, 0, none⟩), .pointer (some ⟨bx, 0, none⟩)]] 172 (0, 0)) := by rw [← hV, ← hbx]; exact block_alloc (alloc_new_at _ (by simp)) _
  have d : ∀ o, V.cell? ⟨bx + 1 + 1 + 1 + 1 + 1, o, none⟩ = _ := block_cell V5
  rw [hV]
  simp only [hbx]
  clear hV
  have hbt : bx ≠ t ∧ bx + 1 ≠ t ∧ bx + 1 + 1 ≠ t ∧ bx + 1 + 1 + 1 ≠ t := by omega
  have C0 : CellAt B V bx 0 (.pointer (some ⟨pb, po, none⟩)) := cellAt_new V0 (by decide) rfl
  have C1 : CellAt B V (bx + 1) 0 (.int .i64 most) := cellAt_new V1 (by decide) rfl
  have C2 : CellAt B V (bx + 1 + 1) 0 (.func (.func 211) #[] #[]) := cellAt_new V2 (by decide) rfl
  have C3 : CellAt B V (bx + 1 + 1 + 1) 0 (.func (.func 212) #[] #[]) := cellAt_new V3 (by decide) rfl
  have CP : CellAt B V pb po (.slice a (len l) c) := HC.out.below VB
  have SL : Strs B V a l := HL.out.below VB
  refine bodyPost_ret (v := .agg #[.string key, .bool false, .func (.func 247) #[] #[.pointer (some ⟨bx, 0, none⟩)], .func (.func 248) #[] #[.pointer (some ⟨bx, 0, none⟩), .pointer (some ⟨bx + 1, 0, none⟩), .pointer (some ⟨bx + 1 + 1, 0, none⟩)], .func (.func 251) #[] #[.pointer (some ⟨bx, 0, none⟩), .pointer (some ⟨bx + 1 + 1 + 1, 0, none⟩)], .func (.func 252) #[] #[.pointer (some ⟨bx + 1, 0, none⟩), .pointer (some ⟨bx + 1 + 1 + 1 + 1, 0, none⟩), .pointer (some ⟨bx, 0, none⟩)]]) ?_ rfl ⟨⟨key, false, 247, #[.pointer (some ⟨bx, 0, none⟩)], 248, #[.pointer (some ⟨bx, 0, none⟩), .pointer (some ⟨bx + 1, 0, none⟩), .pointer (some ⟨bx + 1 + 1, 0, none⟩)], 251, #[.pointer (some ⟨bx, 0, none⟩), .pointer (some ⟨bx + 1 + 1 + 1, 0, none⟩)], 252, #[.pointer (some ⟨bx + 1, 0, none⟩), .pointer (some ⟨bx + 1 + 1 + 1 + 1, 0, none⟩), .pointer (some ⟨bx, 0, none⟩)]⟩, rfl, ?_, by rw [← hbx]; exact VB⟩
  · simp [results, Tryz.results210, go_sem, d]
  · intro V2 hV2
    have D0 := C0.but hbt.1 hV2
    have D1 := C1.but hbt.2.1 hV2
    have D2 := C2.but hbt.2.2.1 hV2
    have D3 := C3.but hbt.2.2.2 hV2
    have DP := CP.but htp hV2
    have DS : Strs B V2 a l := fun i hi => by
      obtain ⟨g, o, e, hg⟩ := hta i hi
      obtain ⟨g', o', e', hc⟩ := SL i hi
      subst e; cases e'
      exact ⟨g, o, rfl, hc.but hg hV2⟩
    exact ⟨rfl, rfl, hk, enters_of Tryz.func247 (by kernel_rfl) rfl, enters_of Tryz.func248 (by kernel_rfl) rfl, enters_of Tryz.func251 (by kernel_rfl) rfl, fun w' hw => many1_any B bx pb po (len l) c a w' (D0.keep hw) (DP.keep hw), fun w' hw => many2_any B bx (bx + 1) (bx + 1 + 1) pb po c most a l w' (D0.keep hw) (DP.keep hw) (D1.keep hw) (D2.keep hw) (DS.keep hw) hn, fun hm1 he w' b base s hw hb ht hB hW hs => many3_any B b base bx (bx + 1 + 1 + 1) pb po c a l s V2 w' D0 DP D3 DS (by have := (size32 hm1).1; omega) (size32 hm1).2 hw hb ht hB hW hs⟩
end Go.Proofs.YtihiaopilnjonaaGreatDoor
namespace Go.Proofs.YtihiaopilnjonaaGreatDoor
open Go.RowKit
set_option linter.unusedSimpArgs false
set_option linter.unusedVariables false
set_option maxRecDepth 100000 in
theorem fdigests_any (B : Nat) (key : ByteArray) (pb po c most : Nat) (a : Option Addr) (l : List ByteArray) (w : World) (hk : key.size < 65536) (hBw : B ≤ w.heap.size) (hc : CellAt B w pb po (.slice a (len l) c)) (hl : Strs B w a l) (hn : len l ≤ 100000) (hm : most ≤ 60000) :
    Calls Tryz.prog 145 #[.string key, .pointer (some ⟨pb, po, none⟩), .int .i64 most] w fun e w' => ∃ v : FVal, e = .returned v.val ∧ FSem B w' v ⟨key, false, decide (len l = 0), mayB l most, dgsP l⟩ ∧ Below w.heap.size w w' := by
  have HM : Hid (∀ w', Below w.heap.size w w' → w.heap.size < w'.heap.size → Calls Tryz.prog 210 #[.string key, .pointer (some ⟨pb, po, none⟩), .int .i64 most, .func (.func 211) #[] #[], .func (.func 212) #[] #[], .func (.func 213) #[] #[]] w' fun e w'' => ∃ v : FVal, e = .returned v.val ∧ (∀ V2 : World, (∀ k : Nat, k ≠ w.heap.size → V2.heap[k]? = w''.heap[k]?) → FSem B V2 v ⟨key, false, decide (len l = 0), mayB l most, dgsP l⟩) ∧ Below w'.heap.size w' w'') :=
    Lib.hid (fun w' hb hlt => fmany_any B key pb po c most a l w' hk (Nat.le_trans hBw hb.size) (hc.below hb) (hl.below hb) hn hm w.heap.size hlt (by have := hc.lt; omega) (fun i hi => by
      obtain ⟨g, o, e, hg⟩ := hl i hi
      exact ⟨g, o, e, by have := hg.lt; omega⟩))
  clear hc hl hBw
  go_enter Tryz.func145, Tryz.ntmps145
  go_wp2_with fail
  refine (HM.out _ (balloc (Below.refl _ _) _) (by simp)).mono ?_
  rintro e w1 ⟨v, rfl, hs, hb⟩
  have HS := Lib.hid hs
  have HB : Hid (Below w.heap.size w w1) := Lib.hid (bnext (balloc (Below.refl _ _) _) hb)
  have hblk := (hb.block w.heap.size (by simp)).trans (heap_alloc_new w _)
  have hfr : ∀ o, w1.frozen? ⟨w.heap.size, o, none⟩ = false := block_free hblk
  have hcl : ∀ o, w1.cell? ⟨w.heap.size, o, none⟩ = _ := block_cell hblk
  have HBK := Lib.hid hblk
  clear hs hb hblk
  unfold FVal.val
  go_wp2
  obtain ⟨V, hV⟩ : ∃ V, (((((w1.setCell ⟨w.heap.size, 0, none⟩ (.string v.key)).setCell ⟨w.heap.size, 1, none⟩ (.bool v.must)).setCell ⟨w.heap.size, 2, none⟩ (.func (.func v.ef) #[] v.ec)).setCell ⟨w.heap.size, 3, none⟩ (.func (.func v.mf) #[] v.mc)).setCell ⟨w.heap.size, 4, none⟩ (.func (.func v.pf) #[] v.pc)).setCell ⟨w.heap.size, 5, none⟩ (.func (.func v.gf) #[] v.gc) = V := ⟨_, rfl⟩
  have hV5 := block_setCell (block_setCell (block_setCell (block_setCell (block_setCell (block_setCell HBK.out (o := 0) (.string v.key)) (o := 1) (.bool v.must)) (o := 2) (.func (.func v.ef) #[] v.ec)) (o := 3) (.func (.func v.mf) #[] v.mc)) (o := 4) (.func (.func v.pf) #[] v.pc)) (o := 5) (.func (.func v.gf) #[] v.gc)
  rw [hV] at hV5
  have d : ∀ o, V.cell? ⟨w.heap.size, o, none⟩ = _ := block_cell hV5
  have hbut : ∀ k : Nat, k ≠ w.heap.size → V.heap[k]? = w1.heap[k]? := fun k hk => by
    rw [← hV, Below.heap_setCell _ _ _ _ hk, Below.heap_setCell _ _ _ _ hk, Below.heap_setCell _ _ _ _ hk, Below.heap_setCell _ _ _ _ hk, Below.heap_setCell _ _ _ _ hk, Below.heap_setCell _ _ _ _ hk]
  have hbel : Below w.heap.size w V := by
    rw [← hV]
    exact (((((HB.out.setCell (Nat.le_refl _) _).setCell (Nat.le_refl _) _).setCell (Nat.le_refl _) _).setCell (Nat.le_refl _) _).setCell (Nat.le_refl _) _).setCell (Nat.le_refl _) _
  rw [hV]
  refine bodyPost_ret (v := v.val) ?_ rfl ⟨v, rfl, HS.out V hbut, hbel⟩
  simp [results, Tryz.results145, go_sem, d, FVal.val]
structure FRow (w : World) (g : Nat) (l : List FVal) : Prop where
  flds : Flds w (some ⟨g, 0, none⟩) l
  ex : ∃ cur, w.heap[g]? = some (.cells cur 172 (0, 0))
theorem FRow.keep {B : Nat} {w w' : World} {g : Nat} {l : List FVal} (h : FRow w g l) (hk : Keep8 B w w') : FRow w' g l := by
  obtain ⟨h1, cur, h2⟩ := h
  have h3 := hk.keep g _ h2 (not8_cells (by decide))
  exact ⟨flds_keep h1 (h3.trans h2.symm), cur, h3⟩
theorem FRow.below {w w' : World} {g : Nat} {l : List FVal} (h : FRow w g l) (hk : Below w.heap.size w w') : FRow w' g l := by
  obtain ⟨h1, cur, h2⟩ := h
  have h3 := hk.block g (lt_of_block h2)
  exact ⟨flds_keep h1 h3, cur, h3.trans h2⟩
theorem FRow.lt {w : World} {g : Nat} {l : List FVal} (h : FRow w g l) : g < w.heap.size := by
  obtain ⟨h1, cur, h2⟩ := h; exact lt_of_block h2
def objSpec (key : ByteArray) (fs : List FSpec) : FSpec := ⟨key, fs.any fun f => f.must, fs.all fun f => f.empty, allMay fs, layP fs⟩
theorem allEmpty_iff (fs : List FSpec) (n : Nat) (h : len fs = n) : ((fs.all fun f => f.empty) = false ↔ ∃ i, i < n ∧ (!(spth fs i).empty) = true) := by
  subst h
  rw [List.all_eq_false]
  constructor
  · rintro ⟨x, hx, hm⟩
    obtain ⟨i, hi, rfl⟩ := List.getElem_of_mem hx
    exact ⟨i, hi, by rw [spth_eq fs i hi]; simpa using hm⟩
  · rintro ⟨i, hi, hm⟩
    have hi' : i < fs.length := hi
    exact ⟨fs[i], List.getElem_mem _, by rw [spth_eq fs i hi'] at hm; simpa using hm⟩
theorem anyMust_iff (fs : List FSpec) (n : Nat) (h : len fs = n) : ((fs.any fun f => f.must) = true ↔ ∃ i, i < n ∧ (spth fs i).must = true) := by
  subst h
  rw [List.any_eq_true]
  constructor
  · rintro ⟨x, hx, hm⟩
    obtain ⟨i, hi, rfl⟩ := List.getElem_of_mem hx
    exact ⟨i, hi, by rw [spth_eq fs i hi]; exact hm⟩
  · rintro ⟨i, hi, hm⟩
    have hi' : i < fs.length := hi
    exact ⟨fs[i], List.getElem_mem _, by rw [spth_eq fs i hi'] at hm; exact hm⟩
set_option maxRecDepth 100000 in
theorem obj2_any (B bx g c : Nat) (W0 : World) (l : List FVal) (fs : List FSpec) (w : World) (h1 : CellAt B w bx 0 (.slice (some ⟨g, 0, none⟩) (len l) c)) (hl : Flds w (some ⟨g, 0, none⟩) l) (hn : len l ≤ 1000) (hS : FSems B W0 l fs) (hk : Keep8 B W0 w) :
    Calls Tryz.prog 178 #[.pointer (some ⟨bx, 0, none⟩)] w fun e w' => e = .returned (.bool (fs.all fun f => f.empty)) ∧ Below w.heap.size w w' := by
  have c1 := h1.cell
  have H := Lib.hid (containsf_any (some ⟨g, 0, none⟩) c l 179 #[] _ w hl hn (says_full hS hk))
  have HI := Lib.hid (allEmpty_iff fs (len l) hS.1)
  clear h1 hl hS hk
  go_enter Tryz.func178, Tryz.ntmps178
  go_wp2_with fail
  refine H.out.mono ?_
  rintro e w1 ⟨b, rfl, hb1, hb⟩
  have HB := Lib.hid hb
  have HE : Hid ((!b) = (fs.all fun f => f.empty)) := Lib.hid (by
    have h := HI.out
    cases b with
    | true => rw [h.2 (hb1.1 rfl)]; rfl
    | false =>
      cases hm : (fs.all fun f => f.empty) with
      | true => rfl
      | false => exact absurd (hb1.2 (h.1 hm)) (by decide))
  clear hb hb1
  go_wp2
  go_ret
  exact ⟨ret_bool HE.out, HB.out⟩
theorem obj3_any (B bx g c : Nat) (W0 : World) (l : List FVal) (fs : List FSpec) (w : World) (h1 : CellAt B w bx 0 (.slice (some ⟨g, 0, none⟩) (len l) c)) (hl : Flds w (some ⟨g, 0, none⟩) l) (hn : len l ≤ 1000) (hS : FSems B W0 l fs) (hk : Keep8 B W0 w) :
    Calls Tryz.prog 180 #[.pointer (some ⟨bx, 0, none⟩)] w fun e w' => e = .returned (.bool (allMay fs)) ∧ Below w.heap.size w w' := by
  have c1 := h1.cell
  have H := Lib.hid (all_any B W0 (some ⟨g, 0, none⟩) c l fs w hl hn hS hk)
  clear h1 hl hS hk
  go_enter Tryz.func180, Tryz.ntmps180
  go_wp2_with fail
  refine H.out.mono ?_
  rintro e w1 ⟨rfl, hb⟩
  have HB := Lib.hid hb
  clear hb
  go_wp2
  go_ret
  exact ⟨rfl, HB.out⟩
theorem obj4_any (B b base bx g c : Nat) (W0 : World) (l : List FVal) (fs : List FSpec) (s : ByteArray) (w : World) (h1 : CellAt B w bx 0 (.slice (some ⟨g, 0, none⟩) (len l) c)) (hl : Flds w (some ⟨g, 0, none⟩) l) (hn : len l ≤ 1000) (h0 : 0 < len l) (hS : FSems B W0 l fs) (hm : allMay fs = true) (hk : Keep8 B W0 w) (hb0 : Off8 W0 b)
    (ht : PTab B w) (hB : B ≤ base) (hW : WrB w b base s) (hs : s.size + (layP fs).size ≤ 60000000000000) :
    Calls Tryz.prog 181 #[.pointer (some ⟨b, 0, none⟩), .pointer (some ⟨bx, 0, none⟩)] w fun e w' => e = .returned (.tuple #[]) ∧ WrB w' b base (s ++ layP fs) ∧ WK base b w w' := by
  have c1 := h1.cell
  have H := Lib.hid (lay_any B b base g 0 c W0 l fs s w hl hn h0 hS hm hk hb0 ht hB hW hs)
  clear h1 hl hS hk ht hW
  go_enter Tryz.func181, Tryz.ntmps181
  go_wp2_with fail
  refine H.out.mono ?_
  rintro e w1 ⟨rfl, h3, h4⟩
  have H3 := Lib.hid h3
  have H4 := Lib.hid h4
  clear h3 h4
  go_wp2
  go_end0
  exact ⟨rfl, H3.out, H4.out⟩
end Go.Proofs.YtihiaopilnjonaaGreatDoor
namespace Go.Proofs.YtihiaopilnjonaaGreatDoor
open Go.RowKit
set_option linter.unusedSimpArgs false
set_option linter.unusedVariables false
set_option maxRecDepth 100000 in
theorem fobject_any (B : Nat) (key : ByteArray) (g c : Nat) (W0 : World) (l : List FVal) (fs : List FSpec) (w : World) (hk : key.size < 65536) (hF : FRow w g l) (hn : len l ≤ 1000) (h0 : 0 < len l) (hS : FSems B W0 l fs) (hK : Keep8 B W0 w) :
    Calls Tryz.prog 107 #[.string key, .slice (some ⟨g, 0, none⟩) (len l) c] w fun e w' => ∃ v : FVal, e = .returned v.val ∧ FSem B w' v (objSpec key fs) ∧ Below w.heap.size w w' := by
  have HF := Lib.hid hF
  have HS := Lib.hid hS
  have HK := Lib.hid hK
  have eg := (says_must (w := w) hS).1
  have HA := Lib.hid (anyMust_iff fs (len l) hS.1)
  clear hF hS hK
  go_enter Tryz.func107, Tryz.ntmps107
  go_wp2_with fail
  obtain ⟨bx, hbx⟩ : ∃ bx, w.heap.size = bx := ⟨_, rfl⟩
  obtain ⟨V1, hV1⟩ : ∃ V1, (w.alloc (.cells #[.slice (some ⟨g, 0, none⟩) (len l) c] 113)).alloc (.cells #[.string ⟨#[]⟩, .bool false, .nilFunc, .nilFunc, .nilFunc, .nilFunc] 172) = V1 := ⟨_, rfl⟩
  have HB1 : Hid (Below w.heap.size w V1) := Lib.hid (by rw [← hV1]; (repeat (first | exact Below.refl _ _ | assumption | (refine bdrew ?_) | (refine bdrewN ?_ _) | (refine balloc ?_ _) | (refine bset ?_ (by first | omega | (simp; done) | (simp; omega)) _) | (refine bnext ?_ (by assumption)))))
  have HX1 : Hid (V1.heap[bx]? = some (.cells #[.slice (some ⟨g, 0, none⟩) (len l) c] 113 (0, 0))) := Lib.hid (by rw [← hV1, ← hbx]; exact block_alloc (heap_alloc_new _ _) _)
  have HT1 : Hid (V1.heap[bx + 1]? = some (.cells #[.string ⟨#[]⟩, .bool false, .nilFunc, .nilFunc, .nilFunc, .nilFunc] 172 (0, 0))) := Lib.hid (by rw [← hV1, ← hbx]; exact alloc_new_at _ (by simp))
  rw [hbx]
  try rw [hV1]
  have HBX := Lib.hid hbx
  clear hV1 hbx
  refine (containsf_any (some ⟨g, 0, none⟩) c l 177 #[] _ V1 (HF.out.below HB1.out).flds hn (says_must HS.out)).mono ?_
  rintro e w2 ⟨q, rfl, hq, hb2⟩
  have HQ : Hid (q = fs.any fun f => f.must) := Lib.hid (by
    rw [Bool.eq_iff_iff, hq]; exact HA.out.symm)
  have HB2 := Lib.hid hb2
  have HX2 : Hid (w2.heap[bx]? = some (.cells #[.slice (some ⟨g, 0, none⟩) (len l) c] 113 (0, 0))) := Lib.hid ((hb2.block _ (lt_of_block HX1.out)).trans HX1.out)
  have hT2 : w2.heap[bx + 1]? = some (.cells #[.string ⟨#[]⟩, .bool false, .nilFunc, .nilFunc, .nilFunc, .nilFunc] 172 (0, 0)) := (hb2.block _ (lt_of_block HT1.out)).trans HT1.out
  have HT2 := Lib.hid hT2
  have hfr : ∀ o, w2.frozen? ⟨bx + 1, o, none⟩ = false := block_free hT2
  have hcl : ∀ o, w2.cell? ⟨bx + 1, o, none⟩ = _ := block_cell hT2
  have lx : bx < w2.heap.size := lt_of_block HX2.out
  clear hb2 hq hT2
  go_wp2
  obtain ⟨V, hV⟩ : ∃ V, ((((((w2.setCell ⟨bx + 1, 0, none⟩ (.string key)).setCell ⟨bx + 1, 1, none⟩ (.bool q)).setCell ⟨bx + 1, 2, none⟩ (.func (.func 178) #[] #[.pointer (some ⟨bx, 0, none⟩)])).setCell ⟨bx + 1, 3, none⟩ (.func (.func 180) #[] #[.pointer (some ⟨bx, 0, none⟩)])).setCell ⟨bx + 1, 4, none⟩ (.func (.func 181) #[] #[.pointer (some ⟨bx, 0, none⟩)])).setCell ⟨bx + 1, 5, none⟩ (.func (.func 182) #[] #[.pointer (some ⟨bx, 0, none⟩)])) = V := ⟨_, rfl⟩
  have hV5 := (block_setCell (block_setCell (block_setCell (block_setCell (block_setCell (block_setCell HT2.out (o := 0) (.string key)) (o := 1) (.bool q)) (o := 2) (.func (.func 178) #[] #[.pointer (some ⟨bx, 0, none⟩)])) (o := 3) (.func (.func 180) #[] #[.pointer (some ⟨bx, 0, none⟩)])) (o := 4) (.func (.func 181) #[] #[.pointer (some ⟨bx, 0, none⟩)])) (o := 5) (.func (.func 182) #[] #[.pointer (some ⟨bx, 0, none⟩)]))
  rw [hV] at hV5
  have d : ∀ o, V.cell? ⟨bx + 1, o, none⟩ = _ := block_cell hV5
  have hne : bx ≠ bx + 1 := by omega
  have VX : V.heap[bx]? = some (.cells #[.slice (some ⟨g, 0, none⟩) (len l) c] 113 (0, 0)) := by
    rw [← hV, Below.heap_setCell _ _ _ _ hne, Below.heap_setCell _ _ _ _ hne, Below.heap_setCell _ _ _ _ hne, Below.heap_setCell _ _ _ _ hne, Below.heap_setCell _ _ _ _ hne, Below.heap_setCell _ _ _ _ hne]; exact HX2.out
  have hwx := HBX.out
  have HBW : Below bx w w2 := by rw [← hwx]; exact bnext HB1.out HB2.out
  have hbel : Below w.heap.size w V := by
    rw [← hV, hwx]
    exact ((((((HBW.setCell (Nat.le_succ_of_le (Nat.le_refl _)) _).setCell (Nat.le_succ_of_le (Nat.le_refl _)) _).setCell (Nat.le_succ_of_le (Nat.le_refl _)) _).setCell (Nat.le_succ_of_le (Nat.le_refl _)) _).setCell (Nat.le_succ_of_le (Nat.le_refl _)) _).setCell (Nat.le_succ_of_le (Nat.le_refl _)) _)
  rw [hV]
  have C0 : CellAt B V bx 0 (.slice (some ⟨g, 0, none⟩) (len l) c) := cellAt_new VX (by decide) rfl
  have HKV : Keep8 B W0 V := HK.out.next hbel
  have HFV : FRow V g l := HF.out.below hbel
  have HSV : FSems B V l fs := HS.out.later HKV
  refine bodyPost_ret (v := .agg #[.string key, .bool q, .func (.func 178) #[] #[.pointer (some ⟨bx, 0, none⟩)], .func (.func 180) #[] #[.pointer (some ⟨bx, 0, none⟩)], .func (.func 181) #[] #[.pointer (some ⟨bx, 0, none⟩)], .func (.func 182) #[] #[.pointer (some ⟨bx, 0, none⟩)]]) ?_ rfl ⟨⟨key, q, 178, #[.pointer (some ⟨bx, 0, none⟩)], 180, #[.pointer (some ⟨bx, 0, none⟩)], 181, #[.pointer (some ⟨bx, 0, none⟩)], 182, #[.pointer (some ⟨bx, 0, none⟩)]⟩, rfl, ?_, hbel⟩
  · simp [results, Tryz.results107, go_sem, d]
  · exact ⟨rfl, HQ.out, hk, enters_of Tryz.func178 (by kernel_rfl) rfl, enters_of Tryz.func180 (by kernel_rfl) rfl, enters_of Tryz.func181 (by kernel_rfl) rfl, fun w' hw => obj2_any B bx g c V l fs w' (C0.keep hw) (HFV.keep hw).flds hn HSV hw, fun w' hw => obj3_any B bx g c V l fs w' (C0.keep hw) (HFV.keep hw).flds hn HSV hw, fun hm1 he w' b base s hw hb ht hB hW hs => obj4_any B b base bx g c V l fs s w' (C0.keep hw) (HFV.keep hw).flds hn h0 HSV hm1 hw hb ht hB hW hs⟩
end Go.Proofs.YtihiaopilnjonaaGreatDoor
namespace Go.Proofs.YtihiaopilnjonaaGreatDoor
open Go.RowKit
set_option linter.unusedSimpArgs false
set_option linter.unusedVariables false
theorem wp_of_callP {P : Program} {o : Oper} {a : Act} {w : World} {f : FuncId} {args : Array Value} {R : Value → World → Prop} {K : Act → World → Prop} {Q : Exit → Act → World → Prop} (h : (execOp a.eval o).run P w = .ok (.enter f args) w)
    (hc : Calls P f args w (fun e w' => ∃ v, e = .returned v ∧ R v w')) (hK : ∀ v w', R v w' → K (a.put o.dst v) w') : o.wp P a w K Q := by
  unfold Oper.wp; rw [h]
  exact hc.mono fun e w' ⟨v, he, hR⟩ => by subst he; exact hK v w' hR
def FIn (B : Nat) (w : World) (v : FVal) (f : FSpec) : Prop := B ≤ w.heap.size ∧ FSem B w v f
theorem FIn.below {B : Nat} {w w' : World} {v : FVal} {f : FSpec} (h : FIn B w v f) (hb : Below w.heap.size w w') : FIn B w' v f := ⟨Nat.le_trans h.1 hb.size, h.2.later (Keep8.of_below hb h.1)⟩
def MadeF (B : Nat) (f : FSpec) (w : World) (e : Ending) (w' : World) : Prop := ∃ u, e = .returned u ∧ ∃ v : FVal, u = v.val ∧ FIn B w' v f ∧ Below w.heap.size w w'
theorem madeF {B : Nat} {f : FSpec} {w w' : World} {e : Ending} (hB : B ≤ w.heap.size) (h : ∃ v : FVal, e = .returned v.val ∧ FSem B w' v f ∧ Below w.heap.size w w') : MadeF B f w e w' := by
  obtain ⟨v, he, hs, hb⟩ := h
  exact ⟨v.val, he, v, rfl, ⟨Nat.le_trans hB hb.size, hs⟩, hb⟩
structure SigAt (B : Nat) (w : World) (b o : Nat) (idx : Int) (wots path : List ByteArray) : Prop where
  c0 : CellAt B w b o (.int .u64 idx)
  c1 : ∃ a c, CellAt B w b (o + 1) (.slice a (len wots) c) ∧ Strs B w a wots
  c2 : ∃ a c, CellAt B w b (o + 2) (.slice a (len path) c) ∧ Strs B w a path
theorem SigAt.below {B : Nat} {w w' : World} {b o : Nat} {idx : Int} {wots path : List ByteArray} (h : SigAt B w b o idx wots path) (hb : Below w.heap.size w w') : SigAt B w' b o idx wots path := by
  obtain ⟨h0, ⟨a1, k1, h1, s1⟩, ⟨a2, k2, h2, s2⟩⟩ := h
  exact ⟨h0.below hb, ⟨a1, k1, h1.below hb, s1.below hb⟩, ⟨a2, k2, h2.below hb, s2.below hb⟩⟩
def sigSpecs (idx : Int) (wots path : List ByteArray) : List FSpec :=
  [⟨⟨#[105]⟩, false, idx == 0, true, numP idx⟩, ⟨⟨#[112]⟩, false, decide (len path = 0), mayB path 16, dgsP path⟩, ⟨⟨#[118]⟩, false, decide (len wots = 0), mayB wots 67, dgsP wots⟩]
def RowOf (B : Nat) (specs : List FSpec) (w : World) (e : Ending) (w' : World) : Prop :=
  ∃ g c, ∃ l : List FVal, e = .returned (.slice (some ⟨g, 0, none⟩) (len l) c) ∧ FRow w' g l ∧ FSems B w' l specs ∧ Below w.heap.size w w'
set_option maxRecDepth 100000 in
set_option maxHeartbeats 4000000 in
theorem ofsig_any (B sb so : Nat) (idx : Int) (wots path : List ByteArray) (w : World) (hB : B ≤ w.heap.size) (h : SigAt B w sb so idx wots path) (h0 : 0 ≤ idx) (h1 : idx ≤ 18446744073709551615) (hw : len wots ≤ 100000) (hp : len path ≤ 100000) :
    Calls Tryz.prog 108 #[.pointer (some ⟨sb, so, none⟩)] w (RowOf B (sigSpecs idx wots path) w) := by
  obtain ⟨S0, hS0⟩ : ∃ S0 : FSpec, (⟨⟨#[105]⟩, false, idx == 0, true, numP idx⟩ : FSpec) = S0 := ⟨_, rfl⟩
  obtain ⟨S1, hS1⟩ : ∃ S1 : FSpec, (⟨⟨#[112]⟩, false, decide (len path = 0), mayB path 16, dgsP path⟩ : FSpec) = S1 := ⟨_, rfl⟩
  obtain ⟨S2, hS2⟩ : ∃ S2 : FSpec, (⟨⟨#[118]⟩, false, decide (len wots = 0), mayB wots 67, dgsP wots⟩ : FSpec) = S2 := ⟨_, rfl⟩
  have HSP : Hid (sigSpecs idx wots path = [S0, S1, S2]) := Lib.hid (by unfold sigSpecs; rw [hS0, hS1, hS2])
  obtain ⟨a1, k1, hc1, hs1⟩ := h.c1
  obtain ⟨a2, k2, hc2, hs2⟩ := h.c2
  have HS0 : Hid (∀ w', Below w.heap.size w w' → Calls Tryz.prog 109 #[.string ⟨#[105]⟩, .pointer (some ⟨sb, so, none⟩)] w' (MadeF B S0 w')) := Lib.hid (fun w' hb => by
    rw [← hS0]
    exact (fnum_any B ⟨#[105]⟩ sb so idx w' (by decide) (Nat.le_trans hB hb.size) (h.c0.below hb) h0 h1).mono (fun e w'' hh => madeF (Nat.le_trans hB hb.size) hh))
  have HS1 : Hid (∀ w', Below w.heap.size w w' → Calls Tryz.prog 145 #[.string ⟨#[112]⟩, .pointer (some ⟨sb, so + 2, none⟩), .int .i64 16] w' (MadeF B S1 w')) := Lib.hid (fun w' hb => by
    rw [← hS1]
    exact (fdigests_any B ⟨#[112]⟩ sb (so + 2) k2 16 a2 path w' (by decide) (Nat.le_trans hB hb.size) (hc2.below hb) (hs2.below hb) hp (by decide)).mono (fun e w'' hh => madeF (Nat.le_trans hB hb.size) hh))
  have HS2 : Hid (∀ w', Below w.heap.size w w' → Calls Tryz.prog 145 #[.string ⟨#[118]⟩, .pointer (some ⟨sb, so + 1, none⟩), .int .i64 67] w' (MadeF B S2 w')) := Lib.hid (fun w' hb => by
    rw [← hS2]
    exact (fdigests_any B ⟨#[118]⟩ sb (so + 1) k1 67 a1 wots w' (by decide) (Nat.le_trans hB hb.size) (hc1.below hb) (hs1.below hb) hw (by decide)).mono (fun e w'' hh => madeF (Nat.le_trans hB hb.size) hh))
  clear h hc1 hs1 hc2 hs2 hS0 hS1 hS2
  go_enter Tryz.func108, Tryz.ntmps108
  go_upto_region 1 with fail
  refine wp_region_tail 12 1000 (none) (phis [fun u _ => u = (.pointer (some ⟨sb, so, none⟩)), fun u _ => u = (.pointer (some ⟨sb, so, none⟩)), fun u _ => u = (.pointer (some ⟨sb, so, none⟩)), fun u w' => ∃ v : FVal, u = v.val ∧ FIn B w' v S0, fun u _ => u = (.pointer (some ⟨sb, so, none⟩)), fun u _ => u = (.pointer (some ⟨sb, so, none⟩)), fun u _ => u = (.pointer (some ⟨sb, so + 2, none⟩)), fun u w' => ∃ v : FVal, u = v.val ∧ FIn B w' v S1, fun u _ => u = (.pointer (some ⟨sb, so, none⟩)), fun u _ => u = (.pointer (some ⟨sb, so, none⟩)), fun u _ => u = (.pointer (some ⟨sb, so + 1, none⟩)), fun u w' => ∃ v : FVal, u = v.val ∧ FIn B w' v S2]) rfl (by kernel_rfl) (by kernel_rfl) (mono_of ⟨mono_eq, mono_eq, mono_eq, ?m3, mono_eq, mono_eq, mono_eq, ?m7, mono_eq, mono_eq, mono_eq, ?m11, trivial⟩) (steps_of 12 ⟨?s0, ?s1, ?s2, ?s3, ?s4, ?s5, ?s6, ?s7, ?s8, ?s9, ?s10, ?s11, trivial⟩) ?_
  case m3 =>
    exact ⟨fun u w1 w2 h ⟨v, h1, h2⟩ => ⟨v, h1, h2.below h⟩, fun _ u w1 w2 h ⟨v, h1, h2⟩ => ⟨v, h1, h2.below (extB_none h)⟩⟩
  case m7 =>
    exact ⟨fun u w1 w2 h ⟨v, h1, h2⟩ => ⟨v, h1, h2.below h⟩, fun _ u w1 w2 h ⟨v, h1, h2⟩ => ⟨v, h1, h2.below (extB_none h)⟩⟩
  case m11 =>
    exact ⟨fun u w1 w2 h ⟨v, h1, h2⟩ => ⟨v, h1, h2.below h⟩, fun _ u w1 w2 h ⟨v, h1, h2⟩ => ⟨v, h1, h2.below (extB_none h)⟩⟩
  case s0 =>
    refine step_val (v := (.pointer (some ⟨sb, so, none⟩))) (fun av wv hE hS hO hD => ?_) (fun _ => rfl)
    have h0 : av.eval (.tmp 0) = (.pointer (some ⟨sb, so, none⟩)) := hO.2.2 0 rfl
    have f0 := (ev_form av 0).symm.trans h0
    refine ⟨rfl, ?_⟩
    simp [go_sem, f0]
  case s1 =>
    refine step_val (v := (.pointer (some ⟨sb, so, none⟩))) (fun av wv hE hS hO hD => ?_) (fun _ => rfl)
    have d3 : av.eval (.tmp 3) = (.pointer (some ⟨sb, so, none⟩)) := hD.1 rfl _ rfl
    have f3 := (ev_form av 3).symm.trans d3
    refine ⟨rfl, ?_⟩
    simp [go_sem, f3]
  case s2 =>
    refine step_val (v := (.pointer (some ⟨sb, so, none⟩))) (fun av wv hE hS hO hD => ?_) (fun _ => rfl)
    have d4 : av.eval (.tmp 4) = (.pointer (some ⟨sb, so, none⟩)) := hD.1 rfl _ rfl
    have f4 := (ev_form av 4).symm.trans d4
    refine ⟨rfl, ?_⟩
    simp [go_sem, f4]
  case s3 =>
    refine step_wp (fun av wv hE hS hO hD => ?_)
    have d5 : av.eval (.tmp 5) = (.pointer (some ⟨sb, so, none⟩)) := hD.1 rfl _ rfl
    have f5 := (ev_form av 5).symm.trans d5
    refine ⟨rfl, ?_⟩
    refine wp_of_callP (f := 109) (args := #[.string ⟨#[105]⟩, .pointer (some ⟨sb, so, none⟩)]) (by simp [go_sem, f5]) (HS0.out wv (of_drew hE)) (fun u w2 ⟨v, hu, hs, hb⟩ => ⟨u, rfl, es_of_ext hb, v, hu, hs⟩)
  case s4 =>
    refine step_val (v := (.pointer (some ⟨sb, so, none⟩))) (fun av wv hE hS hO hD => ?_) (fun _ => rfl)
    have h0 : av.eval (.tmp 0) = (.pointer (some ⟨sb, so, none⟩)) := hO.2.2 0 rfl
    have f0 := (ev_form av 0).symm.trans h0
    refine ⟨rfl, ?_⟩
    simp [go_sem, f0]
  case s5 =>
    refine step_val (v := (.pointer (some ⟨sb, so, none⟩))) (fun av wv hE hS hO hD => ?_) (fun _ => rfl)
    have d7 : av.eval (.tmp 7) = (.pointer (some ⟨sb, so, none⟩)) := hD.1 rfl _ rfl
    have f7 := (ev_form av 7).symm.trans d7
    refine ⟨rfl, ?_⟩
    simp [go_sem, f7]
  case s6 =>
    refine step_val (v := (.pointer (some ⟨sb, so + 2, none⟩))) (fun av wv hE hS hO hD => ?_) (fun _ => rfl)
    have d8 : av.eval (.tmp 8) = (.pointer (some ⟨sb, so, none⟩)) := hD.1 rfl _ rfl
    have f8 := (ev_form av 8).symm.trans d8
    refine ⟨rfl, ?_⟩
    simp [go_sem, f8]
  case s7 =>
    refine step_wp (fun av wv hE hS hO hD => ?_)
    have d9 : av.eval (.tmp 9) = (.pointer (some ⟨sb, so + 2, none⟩)) := hD.1 rfl _ rfl
    have f9 := (ev_form av 9).symm.trans d9
    refine ⟨rfl, ?_⟩
    refine wp_of_callP (f := 145) (args := #[.string ⟨#[112]⟩, .pointer (some ⟨sb, so + 2, none⟩), .int .i64 16]) (by simp [go_sem, f9]) (HS1.out wv (of_drew hE)) (fun u w2 ⟨v, hu, hs, hb⟩ => ⟨u, rfl, es_of_ext hb, v, hu, hs⟩)
  case s8 =>
    refine step_val (v := (.pointer (some ⟨sb, so, none⟩))) (fun av wv hE hS hO hD => ?_) (fun _ => rfl)
    have h0 : av.eval (.tmp 0) = (.pointer (some ⟨sb, so, none⟩)) := hO.2.2 0 rfl
    have f0 := (ev_form av 0).symm.trans h0
    refine ⟨rfl, ?_⟩
    simp [go_sem, f0]
  case s9 =>
    refine step_val (v := (.pointer (some ⟨sb, so, none⟩))) (fun av wv hE hS hO hD => ?_) (fun _ => rfl)
    have d11 : av.eval (.tmp 11) = (.pointer (some ⟨sb, so, none⟩)) := hD.1 rfl _ rfl
    have f11 := (ev_form av 11).symm.trans d11
    refine ⟨rfl, ?_⟩
    simp [go_sem, f11]
  case s10 =>
    refine step_val (v := (.pointer (some ⟨sb, so + 1, none⟩))) (fun av wv hE hS hO hD => ?_) (fun _ => rfl)
    have d12 : av.eval (.tmp 12) = (.pointer (some ⟨sb, so, none⟩)) := hD.1 rfl _ rfl
    have f12 := (ev_form av 12).symm.trans d12
    refine ⟨rfl, ?_⟩
    simp [go_sem, f12]
  case s11 =>
    refine step_wp (fun av wv hE hS hO hD => ?_)
    have d13 : av.eval (.tmp 13) = (.pointer (some ⟨sb, so + 1, none⟩)) := hD.1 rfl _ rfl
    have f13 := (ev_form av 13).symm.trans d13
    refine ⟨rfl, ?_⟩
    refine wp_of_callP (f := 145) (args := #[.string ⟨#[118]⟩, .pointer (some ⟨sb, so + 1, none⟩), .int .i64 67]) (by simp [go_sem, f13]) (HS2.out wv (of_drew hE)) (fun u w2 ⟨v, hu, hs, hb⟩ => ⟨u, rfl, es_of_ext hb, v, hu, hs⟩)
  intro a' w' hE hO hall
  have hA := act_of_outer (ds := [3, 4, 5, 6, 7, 8, 9, 10, 11, 12, 13, 14]) rfl hO (by kernel_rfl)
  have e3 : (fun u _ => u = (.pointer (some ⟨sb, so, none⟩))) (a'.eval (.tmp 3)) w' := hall.1 _ rfl
  have e4 : (fun u _ => u = (.pointer (some ⟨sb, so, none⟩))) (a'.eval (.tmp 4)) w' := hall.2.1 _ rfl
  have e5 : (fun u _ => u = (.pointer (some ⟨sb, so, none⟩))) (a'.eval (.tmp 5)) w' := hall.2.2.1 _ rfl
  have e6 : (fun u w' => ∃ v : FVal, u = v.val ∧ FIn B w' v S0) (a'.eval (.tmp 6)) w' := hall.2.2.2.1 _ rfl
  have e7 : (fun u _ => u = (.pointer (some ⟨sb, so, none⟩))) (a'.eval (.tmp 7)) w' := hall.2.2.2.2.1 _ rfl
  have e8 : (fun u _ => u = (.pointer (some ⟨sb, so, none⟩))) (a'.eval (.tmp 8)) w' := hall.2.2.2.2.2.1 _ rfl
  have e9 : (fun u _ => u = (.pointer (some ⟨sb, so + 2, none⟩))) (a'.eval (.tmp 9)) w' := hall.2.2.2.2.2.2.1 _ rfl
  have e10 : (fun u w' => ∃ v : FVal, u = v.val ∧ FIn B w' v S1) (a'.eval (.tmp 10)) w' := hall.2.2.2.2.2.2.2.1 _ rfl
  have e11 : (fun u _ => u = (.pointer (some ⟨sb, so, none⟩))) (a'.eval (.tmp 11)) w' := hall.2.2.2.2.2.2.2.2.1 _ rfl
  have e12 : (fun u _ => u = (.pointer (some ⟨sb, so, none⟩))) (a'.eval (.tmp 12)) w' := hall.2.2.2.2.2.2.2.2.2.1 _ rfl
  have e13 : (fun u _ => u = (.pointer (some ⟨sb, so + 1, none⟩))) (a'.eval (.tmp 13)) w' := hall.2.2.2.2.2.2.2.2.2.2.1 _ rfl
  have e14 : (fun u w' => ∃ v : FVal, u = v.val ∧ FIn B w' v S2) (a'.eval (.tmp 14)) w' := hall.2.2.2.2.2.2.2.2.2.2.2.1 _ rfl
  obtain ⟨v6, hv6⟩ : ∃ v, a'.eval (.tmp 6) = v := ⟨_, rfl⟩
  rw [hv6] at e6
  obtain ⟨v10, hv10⟩ : ∃ v, a'.eval (.tmp 10) = v := ⟨_, rfl⟩
  rw [hv10] at e10
  obtain ⟨v14, hv14⟩ : ∃ v, a'.eval (.tmp 14) = v := ⟨_, rfl⟩
  rw [hv14] at e14
  simp only [List.foldl_cons, List.foldl_nil, Act.put, List.setIfInBounds_toArray, List.set_cons_succ, List.set_cons_zero, e3, e4, e5, hv6, e7, e8, e9, hv10, e11, e12, e13, hv14] at hA
  clear hO hall e3 e4 e5 hv6 e7 e8 e9 hv10 e11 e12 e13 hv14
  subst hA
  obtain ⟨x0, rfl, s0⟩ := e6
  obtain ⟨x1, rfl, s1⟩ := e10
  obtain ⟨x2, rfl, s2⟩ := e14
  have HSS : Hid (FSems B w' [x0, x1, x2] [S0, S1, S2]) := Lib.hid ⟨rfl, fun i hi => by
    have : i = 0 ∨ i = 1 ∨ i = 2 := by simp [len] at hi; omega
    rcases this with rfl | rfl | rfl
    · exact s0.2
    · exact s1.2
    · exact s2.2⟩
  have HBW : Hid (Below w.heap.size w w' ∧ B ≤ w'.heap.size) := Lib.hid ⟨of_drew hE, s0.1⟩
  clear s0 s1 s2 hE
  unfold FVal.val
  go_wp2
  go_ret
  refine ⟨w'.heap.size, 3, [x0, x1, x2], rfl, ⟨Flds.block (l := [x0, x1, x2]) (heap_alloc_new w' _), _, heap_alloc_new w' _⟩, ?_, bnext HBW.out.1 (balloc (Below.refl _ _) _)⟩
  rw [HSP.out]
  exact HSS.out.later (Keep8.of_below (balloc (Below.refl _ _) _) HBW.out.2)
end Go.Proofs.YtihiaopilnjonaaGreatDoor
namespace Go.Proofs.YtihiaopilnjonaaGreatDoor
open Go.RowKit
set_option linter.unusedSimpArgs false
set_option linter.unusedVariables false
def RowIn (B : Nat) (specs : List FSpec) (u : Value) (w : World) : Prop := ∃ g c, ∃ l : List FVal, u = .slice (some ⟨g, 0, none⟩) (len l) c ∧ FRow w g l ∧ B ≤ w.heap.size ∧ FSems B w l specs
theorem RowIn.below {B : Nat} {specs : List FSpec} {u : Value} {w w' : World} (h : RowIn B specs u w) (hb : Below w.heap.size w w') : RowIn B specs u w' := by
  obtain ⟨g, c, l, hu, hF, hB, hS⟩ := h
  exact ⟨g, c, l, hu, hF.below hb, Nat.le_trans hB hb.size, hS.later (Keep8.of_below hb hB)⟩
theorem rowIn_of {B : Nat} {specs : List FSpec} {w w' : World} {e : Ending} (hB : B ≤ w.heap.size) (h : RowOf B specs w e w') : ∃ u, e = .returned u ∧ RowIn B specs u w' ∧ Below w.heap.size w w' := by
  obtain ⟨g, c, l, he, hF, hS, hb⟩ := h
  exact ⟨_, he, ⟨g, c, l, rfl, hF, Nat.le_trans hB hb.size, hS⟩, hb⟩
structure SlotAt (B : Nat) (w : World) (b o : Nat) (L : Int) (q : Bool) (idx : Int) (wots path : List ByteArray) : Prop where
  c0 : CellAt B w b o (.int .u64 L)
  c1 : CellAt B w b (o + 1) (.bool q)
  c2 : SigAt B w b (o + 2) idx wots path
theorem SlotAt.below {B : Nat} {w w' : World} {b o : Nat} {L : Int} {q : Bool} {idx : Int} {wots path : List ByteArray} (h : SlotAt B w b o L q idx wots path) (hb : Below w.heap.size w w') : SlotAt B w' b o L q idx wots path := ⟨h.c0.below hb, h.c1.below hb, h.c2.below hb⟩
def slotSpecs (L : Int) (q : Bool) (idx : Int) (wots path : List ByteArray) : List FSpec :=
  [objSpec ⟨#[103]⟩ (sigSpecs idx wots path), ⟨⟨#[108]⟩, false, L == 0, true, numP L⟩, ⟨⟨#[115]⟩, false, !q, true, numP 1⟩]
set_option maxRecDepth 100000 in
set_option maxHeartbeats 4000000 in
theorem ofslot_any (B sb so : Nat) (L : Int) (q : Bool) (idx : Int) (wots path : List ByteArray) (w : World) (hB : B ≤ w.heap.size) (h : SlotAt B w sb so L q idx wots path) (h0 : 0 ≤ idx) (h1 : idx ≤ 18446744073709551615) (hL0 : 0 ≤ L) (hL1 : L ≤ 18446744073709551615) (hw : len wots ≤ 100000) (hp : len path ≤ 100000) :
    Calls Tryz.prog 61 #[.pointer (some ⟨sb, so, none⟩)] w (RowOf B (slotSpecs L q idx wots path) w) := by
  obtain ⟨S3, hS3⟩ : ∃ S3, sigSpecs idx wots path = S3 := ⟨_, rfl⟩
  obtain ⟨S0, hS0⟩ : ∃ S0 : FSpec, objSpec ⟨#[103]⟩ S3 = S0 := ⟨_, rfl⟩
  obtain ⟨S1, hS1⟩ : ∃ S1 : FSpec, (⟨⟨#[108]⟩, false, L == 0, true, numP L⟩ : FSpec) = S1 := ⟨_, rfl⟩
  obtain ⟨S2, hS2⟩ : ∃ S2 : FSpec, (⟨⟨#[115]⟩, false, !q, true, numP 1⟩ : FSpec) = S2 := ⟨_, rfl⟩
  have HSP : Hid (slotSpecs L q idx wots path = [S0, S1, S2]) := Lib.hid (by unfold slotSpecs; rw [hS3, hS0, hS1, hS2])
  have HL3 : Hid (len S3 = 3) := Lib.hid (by rw [← hS3]; rfl)
  have HSG : Hid (∀ w', Below w.heap.size w w' → Calls Tryz.prog 108 #[.pointer (some ⟨sb, so + 2, none⟩)] w' (fun e w'' => ∃ u, e = .returned u ∧ RowIn B S3 u w'' ∧ Below w'.heap.size w' w'')) := Lib.hid (fun w' hb => by
    rw [← hS3]
    exact (ofsig_any B sb (so + 2) idx wots path w' (Nat.le_trans hB hb.size) (h.c2.below hb) h0 h1 hw hp).mono (fun e w'' hh => rowIn_of (Nat.le_trans hB hb.size) hh))
  have HOB : Hid (∀ w' g c, ∀ l : List FVal, FRow w' g l → len l = 3 → FSems B w' l S3 → B ≤ w'.heap.size → Calls Tryz.prog 107 #[.string ⟨#[103]⟩, .slice (some ⟨g, 0, none⟩) (len l) c] w' (MadeF B S0 w')) := Lib.hid (fun w' g c l hF hl hS hB' => by
    rw [← hS0]
    exact (fobject_any B ⟨#[103]⟩ g c w' l S3 w' (by decide) hF (by omega) (by omega) hS (Keep8.refl hB')).mono (fun e w'' hh => madeF hB' hh))
  have HS1 : Hid (∀ w', Below w.heap.size w w' → Calls Tryz.prog 109 #[.string ⟨#[108]⟩, .pointer (some ⟨sb, so, none⟩)] w' (MadeF B S1 w')) := Lib.hid (fun w' hb => by
    rw [← hS1]
    exact (fnum_any B ⟨#[108]⟩ sb so L w' (by decide) (Nat.le_trans hB hb.size) (h.c0.below hb) hL0 hL1).mono (fun e w'' hh => madeF (Nat.le_trans hB hb.size) hh))
  have HS2 : Hid (∀ w', Below w.heap.size w w' → Calls Tryz.prog 110 #[.string ⟨#[115]⟩, .pointer (some ⟨sb, so + 1, none⟩)] w' (MadeF B S2 w')) := Lib.hid (fun w' hb => by
    rw [← hS2]
    exact (fflag_any B ⟨#[115]⟩ sb (so + 1) q w' (by decide) (Nat.le_trans hB hb.size) (h.c1.below hb)).mono (fun e w'' hh => madeF (Nat.le_trans hB hb.size) hh))
  clear h hS3 hS0 hS1 hS2
  go_enter Tryz.func61, Tryz.ntmps61
  go_upto_region 1 with fail
  refine wp_region_tail 13 1000 (none) (phis [fun u _ => u = (.pointer (some ⟨sb, so, none⟩)), fun u _ => u = (.pointer (some ⟨sb, so, none⟩)), fun u _ => u = (.pointer (some ⟨sb, so + 2, none⟩)), fun u w' => RowIn B S3 u w', fun u w' => ∃ v : FVal, u = v.val ∧ FIn B w' v S0, fun u _ => u = (.pointer (some ⟨sb, so, none⟩)), fun u _ => u = (.pointer (some ⟨sb, so, none⟩)), fun u _ => u = (.pointer (some ⟨sb, so, none⟩)), fun u w' => ∃ v : FVal, u = v.val ∧ FIn B w' v S1, fun u _ => u = (.pointer (some ⟨sb, so, none⟩)), fun u _ => u = (.pointer (some ⟨sb, so, none⟩)), fun u _ => u = (.pointer (some ⟨sb, so + 1, none⟩)), fun u w' => ∃ v : FVal, u = v.val ∧ FIn B w' v S2]) rfl (by kernel_rfl) (by kernel_rfl) (mono_of ⟨mono_eq, mono_eq, mono_eq, ?m3, ?m4, mono_eq, mono_eq, mono_eq, ?m8, mono_eq, mono_eq, mono_eq, ?m12, trivial⟩) (steps_of 13 ⟨?s0, ?s1, ?s2, ?s3, ?s4, ?s5, ?s6, ?s7, ?s8, ?s9, ?s10, ?s11, ?s12, trivial⟩) ?_
  case m3 =>
    exact ⟨fun u w1 w2 h h1 => h1.below h, fun _ u w1 w2 h h1 => h1.below (extB_none h)⟩
  case m4 =>
    exact ⟨fun u w1 w2 h ⟨v, h1, h2⟩ => ⟨v, h1, h2.below h⟩, fun _ u w1 w2 h ⟨v, h1, h2⟩ => ⟨v, h1, h2.below (extB_none h)⟩⟩
  case m8 =>
    exact ⟨fun u w1 w2 h ⟨v, h1, h2⟩ => ⟨v, h1, h2.below h⟩, fun _ u w1 w2 h ⟨v, h1, h2⟩ => ⟨v, h1, h2.below (extB_none h)⟩⟩
  case m12 =>
    exact ⟨fun u w1 w2 h ⟨v, h1, h2⟩ => ⟨v, h1, h2.below h⟩, fun _ u w1 w2 h ⟨v, h1, h2⟩ => ⟨v, h1, h2.below (extB_none h)⟩⟩
  case s0 =>
    refine step_val (v := (.pointer (some ⟨sb, so, none⟩))) (fun av wv hE hS hO hD => ?_) (fun _ => rfl)
    have h0 : av.eval (.tmp 0) = (.pointer (some ⟨sb, so, none⟩)) := hO.2.2 0 rfl
    have f0 := (ev_form av 0).symm.trans h0
    refine ⟨rfl, ?_⟩
    simp [go_sem, f0]
  case s1 =>
    refine step_val (v := (.pointer (some ⟨sb, so, none⟩))) (fun av wv hE hS hO hD => ?_) (fun _ => rfl)
    have d3 : av.eval (.tmp 3) = (.pointer (some ⟨sb, so, none⟩)) := hD.1 rfl _ rfl
    have f3 := (ev_form av 3).symm.trans d3
    refine ⟨rfl, ?_⟩
    simp [go_sem, f3]
  case s2 =>
    refine step_val (v := (.pointer (some ⟨sb, so + 2, none⟩))) (fun av wv hE hS hO hD => ?_) (fun _ => rfl)
    have d4 : av.eval (.tmp 4) = (.pointer (some ⟨sb, so, none⟩)) := hD.1 rfl _ rfl
    have f4 := (ev_form av 4).symm.trans d4
    refine ⟨rfl, ?_⟩
    simp [go_sem, f4]
  case s3 =>
    refine step_wp (fun av wv hE hS hO hD => ?_)
    have d5 : av.eval (.tmp 5) = (.pointer (some ⟨sb, so + 2, none⟩)) := hD.1 rfl _ rfl
    have f5 := (ev_form av 5).symm.trans d5
    refine ⟨rfl, ?_⟩
    refine wp_of_callP (f := 108) (args := #[.pointer (some ⟨sb, so + 2, none⟩)]) (by simp [go_sem, f5]) (HSG.out wv (of_drew hE)) (fun u w2 ⟨h1, hb⟩ => ⟨u, rfl, es_of_ext hb, h1⟩)
  case s4 =>
    refine step_wp (fun av wv hE hS hO hD => ?_)
    have d6 : (fun u w' => RowIn B S3 u w') (av.eval (.tmp 6)) wv := hD.1 rfl _ rfl
    refine ⟨rfl, ?_⟩
    obtain ⟨g6, c6, l6, hu6, hF6, hB6, hS6⟩ := d6
    have f6 := (ev_form av 6).symm.trans hu6
    have hl6 : len l6 = 3 := by rw [← hS6.1]; exact HL3.out
    refine wp_of_callP (f := 107) (args := #[.string ⟨#[103]⟩, .slice (some ⟨g6, 0, none⟩) (len l6) c6]) (by simp [go_sem, f6]) (HOB.out wv g6 c6 l6 hF6 hl6 hS6 hB6) (fun u w2 ⟨v, hu, hs, hb⟩ => ⟨u, rfl, es_of_ext hb, v, hu, hs⟩)
  case s5 =>
    refine step_val (v := (.pointer (some ⟨sb, so, none⟩))) (fun av wv hE hS hO hD => ?_) (fun _ => rfl)
    have h0 : av.eval (.tmp 0) = (.pointer (some ⟨sb, so, none⟩)) := hO.2.2 0 rfl
    have f0 := (ev_form av 0).symm.trans h0
    refine ⟨rfl, ?_⟩
    simp [go_sem, f0]
  case s6 =>
    refine step_val (v := (.pointer (some ⟨sb, so, none⟩))) (fun av wv hE hS hO hD => ?_) (fun _ => rfl)
    have d8 : av.eval (.tmp 8) = (.pointer (some ⟨sb, so, none⟩)) := hD.1 rfl _ rfl
    have f8 := (ev_form av 8).symm.trans d8
    refine ⟨rfl, ?_⟩
    simp [go_sem, f8]
  case s7 =>
    refine step_val (v := (.pointer (some ⟨sb, so, none⟩))) (fun av wv hE hS hO hD => ?_) (fun _ => rfl)
    have d9 : av.eval (.tmp 9) = (.pointer (some ⟨sb, so, none⟩)) := hD.1 rfl _ rfl
    have f9 := (ev_form av 9).symm.trans d9
    refine ⟨rfl, ?_⟩
    simp [go_sem, f9]
  case s8 =>
    refine step_wp (fun av wv hE hS hO hD => ?_)
    have d10 : av.eval (.tmp 10) = (.pointer (some ⟨sb, so, none⟩)) := hD.1 rfl _ rfl
    have f10 := (ev_form av 10).symm.trans d10
    refine ⟨rfl, ?_⟩
    refine wp_of_callP (f := 109) (args := #[.string ⟨#[108]⟩, .pointer (some ⟨sb, so, none⟩)]) (by simp [go_sem, f10]) (HS1.out wv (of_drew hE)) (fun u w2 ⟨v, hu, hs, hb⟩ => ⟨u, rfl, es_of_ext hb, v, hu, hs⟩)
  case s9 =>
    refine step_val (v := (.pointer (some ⟨sb, so, none⟩))) (fun av wv hE hS hO hD => ?_) (fun _ => rfl)
    have h0 : av.eval (.tmp 0) = (.pointer (some ⟨sb, so, none⟩)) := hO.2.2 0 rfl
    have f0 := (ev_form av 0).symm.trans h0
    refine ⟨rfl, ?_⟩
    simp [go_sem, f0]
  case s10 =>
    refine step_val (v := (.pointer (some ⟨sb, so, none⟩))) (fun av wv hE hS hO hD => ?_) (fun _ => rfl)
    have d12 : av.eval (.tmp 12) = (.pointer (some ⟨sb, so, none⟩)) := hD.1 rfl _ rfl
    have f12 := (ev_form av 12).symm.trans d12
    refine ⟨rfl, ?_⟩
    simp [go_sem, f12]
  case s11 =>
    refine step_val (v := (.pointer (some ⟨sb, so + 1, none⟩))) (fun av wv hE hS hO hD => ?_) (fun _ => rfl)
    have d13 : av.eval (.tmp 13) = (.pointer (some ⟨sb, so, none⟩)) := hD.1 rfl _ rfl
    have f13 := (ev_form av 13).symm.trans d13
    refine ⟨rfl, ?_⟩
    simp [go_sem, f13]
  case s12 =>
    refine step_wp (fun av wv hE hS hO hD => ?_)
    have d14 : av.eval (.tmp 14) = (.pointer (some ⟨sb, so + 1, none⟩)) := hD.1 rfl _ rfl
    have f14 := (ev_form av 14).symm.trans d14
    refine ⟨rfl, ?_⟩
    refine wp_of_callP (f := 110) (args := #[.string ⟨#[115]⟩, .pointer (some ⟨sb, so + 1, none⟩)]) (by simp [go_sem, f14]) (HS2.out wv (of_drew hE)) (fun u w2 ⟨v, hu, hs, hb⟩ => ⟨u, rfl, es_of_ext hb, v, hu, hs⟩)
  intro a' w' hE hO hall
  have hA := act_of_outer (ds := [3, 4, 5, 6, 7, 8, 9, 10, 11, 12, 13, 14, 15]) rfl hO (by kernel_rfl)
  have e3 : (fun u _ => u = (.pointer (some ⟨sb, so, none⟩))) (a'.eval (.tmp 3)) w' := hall.1 _ rfl
  have e4 : (fun u _ => u = (.pointer (some ⟨sb, so, none⟩))) (a'.eval (.tmp 4)) w' := hall.2.1 _ rfl
  have e5 : (fun u _ => u = (.pointer (some ⟨sb, so + 2, none⟩))) (a'.eval (.tmp 5)) w' := hall.2.2.1 _ rfl
  have e6 : (fun u w' => RowIn B S3 u w') (a'.eval (.tmp 6)) w' := hall.2.2.2.1 _ rfl
  have e7 : (fun u w' => ∃ v : FVal, u = v.val ∧ FIn B w' v S0) (a'.eval (.tmp 7)) w' := hall.2.2.2.2.1 _ rfl
  have e8 : (fun u _ => u = (.pointer (some ⟨sb, so, none⟩))) (a'.eval (.tmp 8)) w' := hall.2.2.2.2.2.1 _ rfl
  have e9 : (fun u _ => u = (.pointer (some ⟨sb, so, none⟩))) (a'.eval (.tmp 9)) w' := hall.2.2.2.2.2.2.1 _ rfl
  have e10 : (fun u _ => u = (.pointer (some ⟨sb, so, none⟩))) (a'.eval (.tmp 10)) w' := hall.2.2.2.2.2.2.2.1 _ rfl
  have e11 : (fun u w' => ∃ v : FVal, u = v.val ∧ FIn B w' v S1) (a'.eval (.tmp 11)) w' := hall.2.2.2.2.2.2.2.2.1 _ rfl
  have e12 : (fun u _ => u = (.pointer (some ⟨sb, so, none⟩))) (a'.eval (.tmp 12)) w' := hall.2.2.2.2.2.2.2.2.2.1 _ rfl
  have e13 : (fun u _ => u = (.pointer (some ⟨sb, so, none⟩))) (a'.eval (.tmp 13)) w' := hall.2.2.2.2.2.2.2.2.2.2.1 _ rfl
  have e14 : (fun u _ => u = (.pointer (some ⟨sb, so + 1, none⟩))) (a'.eval (.tmp 14)) w' := hall.2.2.2.2.2.2.2.2.2.2.2.1 _ rfl
  have e15 : (fun u w' => ∃ v : FVal, u = v.val ∧ FIn B w' v S2) (a'.eval (.tmp 15)) w' := hall.2.2.2.2.2.2.2.2.2.2.2.2.1 _ rfl
  obtain ⟨v6, hv6⟩ : ∃ v, a'.eval (.tmp 6) = v := ⟨_, rfl⟩
  rw [hv6] at e6
  obtain ⟨v7, hv7⟩ : ∃ v, a'.eval (.tmp 7) = v := ⟨_, rfl⟩
  rw [hv7] at e7
  obtain ⟨v11, hv11⟩ : ∃ v, a'.eval (.tmp 11) = v := ⟨_, rfl⟩
  rw [hv11] at e11
  obtain ⟨v15, hv15⟩ : ∃ v, a'.eval (.tmp 15) = v := ⟨_, rfl⟩
  rw [hv15] at e15
  simp only [List.foldl_cons, List.foldl_nil, Act.put, List.setIfInBounds_toArray, List.set_cons_succ, List.set_cons_zero, e3, e4, e5, hv6, hv7, e8, e9, e10, hv11, e12, e13, e14, hv15] at hA
  clear hO hall e3 e4 e5 hv6 hv7 e8 e9 e10 hv11 e12 e13 e14 hv15
  subst hA
  obtain ⟨x0, rfl, s0⟩ := e7
  obtain ⟨x1, rfl, s1⟩ := e11
  obtain ⟨x2, rfl, s2⟩ := e15
  have HSS : Hid (FSems B w' [x0, x1, x2] [S0, S1, S2]) := Lib.hid ⟨rfl, fun i hi => by
    have : i = 0 ∨ i = 1 ∨ i = 2 := by simp [len] at hi; omega
    rcases this with rfl | rfl | rfl
    · exact s0.2
    · exact s1.2
    · exact s2.2⟩
  have HBW : Hid (Below w.heap.size w w' ∧ B ≤ w'.heap.size) := Lib.hid ⟨of_drew hE, s0.1⟩
  clear s0 s1 s2 hE e6
  unfold FVal.val
  go_wp2
  go_ret
  refine ⟨w'.heap.size, 3, [x0, x1, x2], rfl, ⟨Flds.block (l := [x0, x1, x2]) (heap_alloc_new w' _), _, heap_alloc_new w' _⟩, ?_, bnext HBW.out.1 (balloc (Below.refl _ _) _)⟩
  rw [HSP.out]
  exact HSS.out.later (Keep8.of_below (balloc (Below.refl _ _) _) HBW.out.2)
structure PartAt (B : Nat) (w : World) (b o : Nat) (root : ByteArray) (weight first life keys : Int) : Prop where
  c0 : CellAt B w b o (.string root)
  c1 : CellAt B w b (o + 1) (.int .u64 weight)
  c2 : CellAt B w b (o + 2) (.int .u64 first)
  c3 : CellAt B w b (o + 3) (.int .u64 life)
  c4 : CellAt B w b (o + 4) (.int .u64 keys)
theorem PartAt.below {B : Nat} {w w' : World} {b o : Nat} {root : ByteArray} {weight first life keys : Int} (h : PartAt B w b o root weight first life keys) (hb : Below w.heap.size w w') : PartAt B w' b o root weight first life keys := ⟨h.c0.below hb, h.c1.below hb, h.c2.below hb, h.c3.below hb, h.c4.below hb⟩
def partSpecs (root : ByteArray) (weight first life keys : Int) : List FSpec :=
  [⟨⟨#[102]⟩, false, first == 0, true, numP first⟩, ⟨⟨#[107]⟩, false, keys == 0, true, numP keys⟩, ⟨⟨#[108]⟩, false, life == 0, true, numP life⟩, ⟨⟨#[114]⟩, true, false, decide (root.size = 32), binP root⟩, ⟨⟨#[119]⟩, false, weight == 0, true, numP weight⟩]
def U64i (x : Int) : Prop := 0 ≤ x ∧ x ≤ 18446744073709551615
set_option maxRecDepth 100000 in
set_option maxHeartbeats 4000000 in
theorem ofpart_any (B sb so : Nat) (root : ByteArray) (weight first life keys : Int) (w : World) (hB : B ≤ w.heap.size) (h : PartAt B w sb so root weight first life keys) (hr : root.size ≤ 9223372036854775807) (hw : U64i weight) (hf : U64i first) (hl : U64i life) (hk : U64i keys) :
    Calls Tryz.prog 62 #[.pointer (some ⟨sb, so, none⟩)] w (RowOf B (partSpecs root weight first life keys) w) := by
  obtain ⟨S0, hS0⟩ : ∃ S : FSpec, (⟨⟨#[102]⟩, false, first == 0, true, numP first⟩ : FSpec) = S := ⟨_, rfl⟩
  obtain ⟨S1, hS1⟩ : ∃ S : FSpec, (⟨⟨#[107]⟩, false, keys == 0, true, numP keys⟩ : FSpec) = S := ⟨_, rfl⟩
  obtain ⟨S2, hS2⟩ : ∃ S : FSpec, (⟨⟨#[108]⟩, false, life == 0, true, numP life⟩ : FSpec) = S := ⟨_, rfl⟩
  obtain ⟨S3, hS3⟩ : ∃ S : FSpec, (⟨⟨#[114]⟩, true, false, decide (root.size = 32), binP root⟩ : FSpec) = S := ⟨_, rfl⟩
  obtain ⟨S4, hS4⟩ : ∃ S : FSpec, (⟨⟨#[119]⟩, false, weight == 0, true, numP weight⟩ : FSpec) = S := ⟨_, rfl⟩
  have HSP : Hid (partSpecs root weight first life keys = [S0, S1, S2, S3, S4]) := Lib.hid (by unfold partSpecs; rw [hS0, hS1, hS2, hS3, hS4])
  have HS0 : Hid (∀ w', Below w.heap.size w w' → Calls Tryz.prog 109 #[.string ⟨#[102]⟩, .pointer (some ⟨sb, so + 2, none⟩)] w' (MadeF B S0 w')) := Lib.hid (fun w' hb => by
    rw [← hS0]
    exact (fnum_any B ⟨#[102]⟩ sb (so + 2) first w' (by decide) (Nat.le_trans hB hb.size) (h.c2.below hb) hf.1 hf.2).mono (fun e w'' hh => madeF (Nat.le_trans hB hb.size) hh))
  have HS1 : Hid (∀ w', Below w.heap.size w w' → Calls Tryz.prog 109 #[.string ⟨#[107]⟩, .pointer (some ⟨sb, so + 4, none⟩)] w' (MadeF B S1 w')) := Lib.hid (fun w' hb => by
    rw [← hS1]
    exact (fnum_any B ⟨#[107]⟩ sb (so + 4) keys w' (by decide) (Nat.le_trans hB hb.size) (h.c4.below hb) hk.1 hk.2).mono (fun e w'' hh => madeF (Nat.le_trans hB hb.size) hh))
  have HS2 : Hid (∀ w', Below w.heap.size w w' → Calls Tryz.prog 109 #[.string ⟨#[108]⟩, .pointer (some ⟨sb, so + 3, none⟩)] w' (MadeF B S2 w')) := Lib.hid (fun w' hb => by
    rw [← hS2]
    exact (fnum_any B ⟨#[108]⟩ sb (so + 3) life w' (by decide) (Nat.le_trans hB hb.size) (h.c3.below hb) hl.1 hl.2).mono (fun e w'' hh => madeF (Nat.le_trans hB hb.size) hh))
  have HS3 : Hid (∀ w', Below w.heap.size w w' → Calls Tryz.prog 111 #[.string ⟨#[114]⟩, .pointer (some ⟨sb, so, none⟩)] w' (MadeF B S3 w')) := Lib.hid (fun w' hb => by
    rw [← hS3]
    exact (fdigest_any B ⟨#[114]⟩ sb so root w' (by decide) (Nat.le_trans hB hb.size) (h.c0.below hb) hr).mono (fun e w'' hh => madeF (Nat.le_trans hB hb.size) hh))
  have HS4 : Hid (∀ w', Below w.heap.size w w' → Calls Tryz.prog 109 #[.string ⟨#[119]⟩, .pointer (some ⟨sb, so + 1, none⟩)] w' (MadeF B S4 w')) := Lib.hid (fun w' hb => by
    rw [← hS4]
    exact (fnum_any B ⟨#[119]⟩ sb (so + 1) weight w' (by decide) (Nat.le_trans hB hb.size) (h.c1.below hb) hw.1 hw.2).mono (fun e w'' hh => madeF (Nat.le_trans hB hb.size) hh))
  clear h hS3 hS0 hS1 hS2 hS4
  go_enter Tryz.func62, Tryz.ntmps62
  go_upto_region 1 with fail
  refine wp_region_tail 20 1000 (none) (phis [fun u _ => u = (.pointer (some ⟨sb, so, none⟩)), fun u _ => u = (.pointer (some ⟨sb, so, none⟩)), fun u _ => u = (.pointer (some ⟨sb, so + 2, none⟩)), fun u w' => ∃ v : FVal, u = v.val ∧ FIn B w' v S0, fun u _ => u = (.pointer (some ⟨sb, so, none⟩)), fun u _ => u = (.pointer (some ⟨sb, so, none⟩)), fun u _ => u = (.pointer (some ⟨sb, so + 4, none⟩)), fun u w' => ∃ v : FVal, u = v.val ∧ FIn B w' v S1, fun u _ => u = (.pointer (some ⟨sb, so, none⟩)), fun u _ => u = (.pointer (some ⟨sb, so, none⟩)), fun u _ => u = (.pointer (some ⟨sb, so + 3, none⟩)), fun u w' => ∃ v : FVal, u = v.val ∧ FIn B w' v S2, fun u _ => u = (.pointer (some ⟨sb, so, none⟩)), fun u _ => u = (.pointer (some ⟨sb, so, none⟩)), fun u _ => u = (.pointer (some ⟨sb, so, none⟩)), fun u w' => ∃ v : FVal, u = v.val ∧ FIn B w' v S3, fun u _ => u = (.pointer (some ⟨sb, so, none⟩)), fun u _ => u = (.pointer (some ⟨sb, so, none⟩)), fun u _ => u = (.pointer (some ⟨sb, so + 1, none⟩)), fun u w' => ∃ v : FVal, u = v.val ∧ FIn B w' v S4]) rfl (by kernel_rfl) (by kernel_rfl) (mono_of ⟨mono_eq, mono_eq, mono_eq, ?m3, mono_eq, mono_eq, mono_eq, ?m7, mono_eq, mono_eq, mono_eq, ?m11, mono_eq, mono_eq, mono_eq, ?m15, mono_eq, mono_eq, mono_eq, ?m19, trivial⟩) (steps_of 20 ⟨?s0, ?s1, ?s2, ?s3, ?s4, ?s5, ?s6, ?s7, ?s8, ?s9, ?s10, ?s11, ?s12, ?s13, ?s14, ?s15, ?s16, ?s17, ?s18, ?s19, trivial⟩) ?_
  case m3 =>
    exact ⟨fun u w1 w2 h ⟨v, h1, h2⟩ => ⟨v, h1, h2.below h⟩, fun _ u w1 w2 h ⟨v, h1, h2⟩ => ⟨v, h1, h2.below (extB_none h)⟩⟩
  case m7 =>
    exact ⟨fun u w1 w2 h ⟨v, h1, h2⟩ => ⟨v, h1, h2.below h⟩, fun _ u w1 w2 h ⟨v, h1, h2⟩ => ⟨v, h1, h2.below (extB_none h)⟩⟩
  case m11 =>
    exact ⟨fun u w1 w2 h ⟨v, h1, h2⟩ => ⟨v, h1, h2.below h⟩, fun _ u w1 w2 h ⟨v, h1, h2⟩ => ⟨v, h1, h2.below (extB_none h)⟩⟩
  case m15 =>
    exact ⟨fun u w1 w2 h ⟨v, h1, h2⟩ => ⟨v, h1, h2.below h⟩, fun _ u w1 w2 h ⟨v, h1, h2⟩ => ⟨v, h1, h2.below (extB_none h)⟩⟩
  case m19 =>
    exact ⟨fun u w1 w2 h ⟨v, h1, h2⟩ => ⟨v, h1, h2.below h⟩, fun _ u w1 w2 h ⟨v, h1, h2⟩ => ⟨v, h1, h2.below (extB_none h)⟩⟩
  case s0 =>
    refine step_val (v := (.pointer (some ⟨sb, so, none⟩))) (fun av wv hE hS hO hD => ?_) (fun _ => rfl)
    have h0 : av.eval (.tmp 0) = (.pointer (some ⟨sb, so, none⟩)) := hO.2.2 0 rfl
    have f0 := (ev_form av 0).symm.trans h0
    refine ⟨rfl, ?_⟩
    simp [go_sem, f0]
  case s1 =>
    refine step_val (v := (.pointer (some ⟨sb, so, none⟩))) (fun av wv hE hS hO hD => ?_) (fun _ => rfl)
    have d3 : av.eval (.tmp 3) = (.pointer (some ⟨sb, so, none⟩)) := hD.1 rfl _ rfl
    have f3 := (ev_form av 3).symm.trans d3
    refine ⟨rfl, ?_⟩
    simp [go_sem, f3]
  case s2 =>
    refine step_val (v := (.pointer (some ⟨sb, so + 2, none⟩))) (fun av wv hE hS hO hD => ?_) (fun _ => rfl)
    have d4 : av.eval (.tmp 4) = (.pointer (some ⟨sb, so, none⟩)) := hD.1 rfl _ rfl
    have f4 := (ev_form av 4).symm.trans d4
    refine ⟨rfl, ?_⟩
    simp [go_sem, f4]
  case s3 =>
    refine step_wp (fun av wv hE hS hO hD => ?_)
    have d5 : av.eval (.tmp 5) = (.pointer (some ⟨sb, so + 2, none⟩)) := hD.1 rfl _ rfl
    have f5 := (ev_form av 5).symm.trans d5
    refine ⟨rfl, ?_⟩
    refine wp_of_callP (f := 109) (args := #[.string ⟨#[102]⟩, .pointer (some ⟨sb, so + 2, none⟩)]) (by simp [go_sem, f5]) (HS0.out wv (of_drew hE)) (fun u w2 ⟨v, hu, hs, hb⟩ => ⟨u, rfl, es_of_ext hb, v, hu, hs⟩)
  case s4 =>
    refine step_val (v := (.pointer (some ⟨sb, so, none⟩))) (fun av wv hE hS hO hD => ?_) (fun _ => rfl)
    have h0 : av.eval (.tmp 0) = (.pointer (some ⟨sb, so, none⟩)) := hO.2.2 0 rfl
    have f0 := (ev_form av 0).symm.trans h0
    refine ⟨rfl, ?_⟩
    simp [go_sem, f0]
  case s5 =>
    refine step_val (v := (.pointer (some ⟨sb, so, none⟩))) (fun av wv hE hS hO hD => ?_) (fun _ => rfl)
    have d7 : av.eval (.tmp 7) = (.pointer (some ⟨sb, so, none⟩)) := hD.1 rfl _ rfl
    have f7 := (ev_form av 7).symm.trans d7
    refine ⟨rfl, ?_⟩
    simp [go_sem, f7]
  case s6 =>
    refine step_val (v := (.pointer (some ⟨sb, so + 4, none⟩))) (fun av wv hE hS hO hD => ?_) (fun _ => rfl)
    have d8 : av.eval (.tmp 8) = (.pointer (some ⟨sb, so, none⟩)) := hD.1 rfl _ rfl
    have f8 := (ev_form av 8).symm.trans d8
    refine ⟨rfl, ?_⟩
    simp [go_sem, f8]
  case s7 =>
    refine step_wp (fun av wv hE hS hO hD => ?_)
    have d9 : av.eval (.tmp 9) = (.pointer (some ⟨sb, so + 4, none⟩)) := hD.1 rfl _ rfl
    have f9 := (ev_form av 9).symm.trans d9
    refine ⟨rfl, ?_⟩
    refine wp_of_callP (f := 109) (args := #[.string ⟨#[107]⟩, .pointer (some ⟨sb, so + 4, none⟩)]) (by simp [go_sem, f9]) (HS1.out wv (of_drew hE)) (fun u w2 ⟨v, hu, hs, hb⟩ => ⟨u, rfl, es_of_ext hb, v, hu, hs⟩)
  case s8 =>
    refine step_val (v := (.pointer (some ⟨sb, so, none⟩))) (fun av wv hE hS hO hD => ?_) (fun _ => rfl)
    have h0 : av.eval (.tmp 0) = (.pointer (some ⟨sb, so, none⟩)) := hO.2.2 0 rfl
    have f0 := (ev_form av 0).symm.trans h0
    refine ⟨rfl, ?_⟩
    simp [go_sem, f0]
  case s9 =>
    refine step_val (v := (.pointer (some ⟨sb, so, none⟩))) (fun av wv hE hS hO hD => ?_) (fun _ => rfl)
    have d11 : av.eval (.tmp 11) = (.pointer (some ⟨sb, so, none⟩)) := hD.1 rfl _ rfl
    have f11 := (ev_form av 11).symm.trans d11
    refine ⟨rfl, ?_⟩
    simp [go_sem, f11]
  case s10 =>
    refine step_val (v := (.pointer (some ⟨sb, so + 3, none⟩))) (fun av wv hE hS hO hD => ?_) (fun _ => rfl)
    have d12 : av.eval (.tmp 12) = (.pointer (some ⟨sb, so, none⟩)) := hD.1 rfl _ rfl
    have f12 := (ev_form av 12).symm.trans d12
    refine ⟨rfl, ?_⟩
    simp [go_sem, f12]
  case s11 =>
    refine step_wp (fun av wv hE hS hO hD => ?_)
    have d13 : av.eval (.tmp 13) = (.pointer (some ⟨sb, so + 3, none⟩)) := hD.1 rfl _ rfl
    have f13 := (ev_form av 13).symm.trans d13
    refine ⟨rfl, ?_⟩
    refine wp_of_callP (f := 109) (args := #[.string ⟨#[108]⟩, .pointer (some ⟨sb, so + 3, none⟩)]) (by simp [go_sem, f13]) (HS2.out wv (of_drew hE)) (fun u w2 ⟨v, hu, hs, hb⟩ => ⟨u, rfl, es_of_ext hb, v, hu, hs⟩)
  case s12 =>
    refine step_val (v := (.pointer (some ⟨sb, so, none⟩))) (fun av wv hE hS hO hD => ?_) (fun _ => rfl)
    have h0 : av.eval (.tmp 0) = (.pointer (some ⟨sb, so, none⟩)) := hO.2.2 0 rfl
    have f0 := (ev_form av 0).symm.trans h0
    refine ⟨rfl, ?_⟩
    simp [go_sem, f0]
  case s13 =>
    refine step_val (v := (.pointer (some ⟨sb, so, none⟩))) (fun av wv hE hS hO hD => ?_) (fun _ => rfl)
    have d15 : av.eval (.tmp 15) = (.pointer (some ⟨sb, so, none⟩)) := hD.1 rfl _ rfl
    have f15 := (ev_form av 15).symm.trans d15
    refine ⟨rfl, ?_⟩
    simp [go_sem, f15]
  case s14 =>
    refine step_val (v := (.pointer (some ⟨sb, so, none⟩))) (fun av wv hE hS hO hD => ?_) (fun _ => rfl)
    have d16 : av.eval (.tmp 16) = (.pointer (some ⟨sb, so, none⟩)) := hD.1 rfl _ rfl
    have f16 := (ev_form av 16).symm.trans d16
    refine ⟨rfl, ?_⟩
    simp [go_sem, f16]
  case s15 =>
    refine step_wp (fun av wv hE hS hO hD => ?_)
    have d17 : av.eval (.tmp 17) = (.pointer (some ⟨sb, so, none⟩)) := hD.1 rfl _ rfl
    have f17 := (ev_form av 17).symm.trans d17
    refine ⟨rfl, ?_⟩
    refine wp_of_callP (f := 111) (args := #[.string ⟨#[114]⟩, .pointer (some ⟨sb, so, none⟩)]) (by simp [go_sem, f17]) (HS3.out wv (of_drew hE)) (fun u w2 ⟨v, hu, hs, hb⟩ => ⟨u, rfl, es_of_ext hb, v, hu, hs⟩)
  case s16 =>
    refine step_val (v := (.pointer (some ⟨sb, so, none⟩))) (fun av wv hE hS hO hD => ?_) (fun _ => rfl)
    have h0 : av.eval (.tmp 0) = (.pointer (some ⟨sb, so, none⟩)) := hO.2.2 0 rfl
    have f0 := (ev_form av 0).symm.trans h0
    refine ⟨rfl, ?_⟩
    simp [go_sem, f0]
  case s17 =>
    refine step_val (v := (.pointer (some ⟨sb, so, none⟩))) (fun av wv hE hS hO hD => ?_) (fun _ => rfl)
    have d19 : av.eval (.tmp 19) = (.pointer (some ⟨sb, so, none⟩)) := hD.1 rfl _ rfl
    have f19 := (ev_form av 19).symm.trans d19
    refine ⟨rfl, ?_⟩
    simp [go_sem, f19]
  case s18 =>
    refine step_val (v := (.pointer (some ⟨sb, so + 1, none⟩))) (fun av wv hE hS hO hD => ?_) (fun _ => rfl)
    have d20 : av.eval (.tmp 20) = (.pointer (some ⟨sb, so, none⟩)) := hD.1 rfl _ rfl
    have f20 := (ev_form av 20).symm.trans d20
    refine ⟨rfl, ?_⟩
    simp [go_sem, f20]
  case s19 =>
    refine step_wp (fun av wv hE hS hO hD => ?_)
    have d21 : av.eval (.tmp 21) = (.pointer (some ⟨sb, so + 1, none⟩)) := hD.1 rfl _ rfl
    have f21 := (ev_form av 21).symm.trans d21
    refine ⟨rfl, ?_⟩
    refine wp_of_callP (f := 109) (args := #[.string ⟨#[119]⟩, .pointer (some ⟨sb, so + 1, none⟩)]) (by simp [go_sem, f21]) (HS4.out wv (of_drew hE)) (fun u w2 ⟨v, hu, hs, hb⟩ => ⟨u, rfl, es_of_ext hb, v, hu, hs⟩)
  intro a' w' hE hO hall
  have hA := act_of_outer (ds := [3, 4, 5, 6, 7, 8, 9, 10, 11, 12, 13, 14, 15, 16, 17, 18, 19, 20, 21, 22]) rfl hO (by kernel_rfl)
  have e3 : (fun u _ => u = (.pointer (some ⟨sb, so, none⟩))) (a'.eval (.tmp 3)) w' := hall.1 _ rfl
  have e4 : (fun u _ => u = (.pointer (some ⟨sb, so, none⟩))) (a'.eval (.tmp 4)) w' := hall.2.1 _ rfl
  have e5 : (fun u _ => u = (.pointer (some ⟨sb, so + 2, none⟩))) (a'.eval (.tmp 5)) w' := hall.2.2.1 _ rfl
  have e6 : (fun u w' => ∃ v : FVal, u = v.val ∧ FIn B w' v S0) (a'.eval (.tmp 6)) w' := hall.2.2.2.1 _ rfl
  have e7 : (fun u _ => u = (.pointer (some ⟨sb, so, none⟩))) (a'.eval (.tmp 7)) w' := hall.2.2.2.2.1 _ rfl
  have e8 : (fun u _ => u = (.pointer (some ⟨sb, so, none⟩))) (a'.eval (.tmp 8)) w' := hall.2.2.2.2.2.1 _ rfl
  have e9 : (fun u _ => u = (.pointer (some ⟨sb, so + 4, none⟩))) (a'.eval (.tmp 9)) w' := hall.2.2.2.2.2.2.1 _ rfl
  have e10 : (fun u w' => ∃ v : FVal, u = v.val ∧ FIn B w' v S1) (a'.eval (.tmp 10)) w' := hall.2.2.2.2.2.2.2.1 _ rfl
  have e11 : (fun u _ => u = (.pointer (some ⟨sb, so, none⟩))) (a'.eval (.tmp 11)) w' := hall.2.2.2.2.2.2.2.2.1 _ rfl
  have e12 : (fun u _ => u = (.pointer (some ⟨sb, so, none⟩))) (a'.eval (.tmp 12)) w' := hall.2.2.2.2.2.2.2.2.2.1 _ rfl
  have e13 : (fun u _ => u = (.pointer (some ⟨sb, so + 3, none⟩))) (a'.eval (.tmp 13)) w' := hall.2.2.2.2.2.2.2.2.2.2.1 _ rfl
  have e14 : (fun u w' => ∃ v : FVal, u = v.val ∧ FIn B w' v S2) (a'.eval (.tmp 14)) w' := hall.2.2.2.2.2.2.2.2.2.2.2.1 _ rfl
  have e15 : (fun u _ => u = (.pointer (some ⟨sb, so, none⟩))) (a'.eval (.tmp 15)) w' := hall.2.2.2.2.2.2.2.2.2.2.2.2.1 _ rfl
  have e16 : (fun u _ => u = (.pointer (some ⟨sb, so, none⟩))) (a'.eval (.tmp 16)) w' := hall.2.2.2.2.2.2.2.2.2.2.2.2.2.1 _ rfl
  have e17 : (fun u _ => u = (.pointer (some ⟨sb, so, none⟩))) (a'.eval (.tmp 17)) w' := hall.2.2.2.2.2.2.2.2.2.2.2.2.2.2.1 _ rfl
  have e18 : (fun u w' => ∃ v : FVal, u = v.val ∧ FIn B w' v S3) (a'.eval (.tmp 18)) w' := hall.2.2.2.2.2.2.2.2.2.2.2.2.2.2.2.1 _ rfl
  have e19 : (fun u _ => u = (.pointer (some ⟨sb, so, none⟩))) (a'.eval (.tmp 19)) w' := hall.2.2.2.2.2.2.2.2.2.2.2.2.2.2.2.2.1 _ rfl
  have e20 : (fun u _ => u = (.pointer (some ⟨sb, so, none⟩))) (a'.eval (.tmp 20)) w' := hall.2.2.2.2.2.2.2.2.2.2.2.2.2.2.2.2.2.1 _ rfl
  have e21 : (fun u _ => u = (.pointer (some ⟨sb, so + 1, none⟩))) (a'.eval (.tmp 21)) w' := hall.2.2.2.2.2.2.2.2.2.2.2.2.2.2.2.2.2.2.1 _ rfl
  have e22 : (fun u w' => ∃ v : FVal, u = v.val ∧ FIn B w' v S4) (a'.eval (.tmp 22)) w' := hall.2.2.2.2.2.2.2.2.2.2.2.2.2.2.2.2.2.2.2.1 _ rfl
  obtain ⟨v6, hv6⟩ : ∃ v, a'.eval (.tmp 6) = v := ⟨_, rfl⟩
  rw [hv6] at e6
  obtain ⟨v10, hv10⟩ : ∃ v, a'.eval (.tmp 10) = v := ⟨_, rfl⟩
  rw [hv10] at e10
  obtain ⟨v14, hv14⟩ : ∃ v, a'.eval (.tmp 14) = v := ⟨_, rfl⟩
  rw [hv14] at e14
  obtain ⟨v18, hv18⟩ : ∃ v, a'.eval (.tmp 18) = v := ⟨_, rfl⟩
  rw [hv18] at e18
  obtain ⟨v22, hv22⟩ : ∃ v, a'.eval (.tmp 22) = v := ⟨_, rfl⟩
  rw [hv22] at e22
  simp only [List.foldl_cons, List.foldl_nil, Act.put, List.setIfInBounds_toArray, List.set_cons_succ, List.set_cons_zero, e3, e4, e5, hv6, e7, e8, e9, hv10, e11, e12, e13, hv14, e15, e16, e17, hv18, e19, e20, e21, hv22] at hA
  clear hO hall e3 e4 e5 hv6 e7 e8 e9 hv10 e11 e12 e13 hv14 e15 e16 e17 hv18 e19 e20 e21 hv22
  subst hA
  obtain ⟨x0, rfl, s0⟩ := e6
  obtain ⟨x1, rfl, s1⟩ := e10
  obtain ⟨x2, rfl, s2⟩ := e14
  obtain ⟨x3, rfl, s3⟩ := e18
  obtain ⟨x4, rfl, s4⟩ := e22
  have HSS : Hid (FSems B w' [x0, x1, x2, x3, x4] [S0, S1, S2, S3, S4]) := Lib.hid ⟨rfl, fun i hi => by
    have : i = 0 ∨ i = 1 ∨ i = 2 ∨ i = 3 ∨ i = 4 := by simp [len] at hi; omega
    rcases this with rfl | rfl | rfl | rfl | rfl
    · exact s0.2
    · exact s1.2
    · exact s2.2
    · exact s3.2
    · exact s4.2⟩
  have HBW : Hid (Below w.heap.size w w' ∧ B ≤ w'.heap.size) := Lib.hid ⟨of_drew hE, s0.1⟩
  clear s0 s1 s2 s3 s4 hE
  unfold FVal.val
  go_wp2
  go_ret
  refine ⟨w'.heap.size, 5, [x0, x1, x2, x3, x4], rfl, ⟨Flds.block (l := [x0, x1, x2, x3, x4]) (heap_alloc_new w' _), _, heap_alloc_new w' _⟩, ?_, bnext HBW.out.1 (balloc (Below.refl _ _) _)⟩
  rw [HSP.out]
  exact HSS.out.later (Keep8.of_below (balloc (Below.refl _ _) _) HBW.out.2)
end Go.Proofs.YtihiaopilnjonaaGreatDoor
namespace Go.Proofs.YtihiaopilnjonaaGreatDoor
open Go.RowKit
set_option linter.unusedSimpArgs false
set_option linter.unusedVariables false
set_option maxRecDepth 100000 in
theorem wslot2_any (B : Nat) (L : Int) (q : Bool) (idx : Int) (a1 a2 : Option Addr) (k1 k2 : Nat) (wots path : List ByteArray) (w : World) (ht : PTab B w) (hs1 : Strs B w a1 wots) (hs2 : Strs B w a2 path) (h0 : 0 ≤ idx) (h1 : idx ≤ 18446744073709551615) (hL0 : 0 ≤ L) (hL1 : L ≤ 18446744073709551615) (hw : len wots ≤ 100000) (hp : len path ≤ 100000)
    (hsz : allMay (slotSpecs L q idx wots path) = true → (layP (slotSpecs L q idx wots path)).size ≤ 60000000000000) :
    Calls Tryz.prog 24 #[.agg #[.int .u64 L, .bool q, .int .u64 idx, .slice a1 (len wots) k1, .slice a2 (len path) k2]] w (LaidIs (slotSpecs L q idx wots path) w) := by
  have HT := Lib.hid ht
  have HS1 := Lib.hid hs1
  have HS2 := Lib.hid hs2
  clear ht hs1 hs2
  go_enter Tryz.func24, Tryz.ntmps24
  go_wp2_with fail
  obtain ⟨V, hV⟩ : ∃ V, w.alloc (.cells #[.int .u64 L, .bool q, .int .u64 idx, .slice a1 (len wots) k1, .slice a2 (len path) k2] 44) = V := ⟨_, rfl⟩
  have HB : Hid (Below w.heap.size w V) := Lib.hid (by rw [← hV]; (repeat (first | exact Below.refl _ _ | assumption | (refine bdrew ?_) | (refine bdrewN ?_ _) | (refine balloc ?_ _) | (refine bset ?_ (by first | omega | (simp; done) | (simp; omega)) _) | (refine bnext ?_ (by assumption)))))
  have hblk : V.heap[w.heap.size]? = some (.cells #[.int .u64 L, .bool q, .int .u64 idx, .slice a1 (len wots) k1, .slice a2 (len path) k2] 44 (0, 0)) := by rw [← hV]; exact heap_alloc_new _ _
  have HSL : Hid (SlotAt B V w.heap.size 0 L q idx wots path) := Lib.hid ⟨cellAt_new hblk (by decide) rfl, cellAt_new hblk (by decide) rfl, ⟨cellAt_new hblk (by decide) rfl, ⟨a1, k1, cellAt_new hblk (by decide) rfl, HS1.out.below HB.out⟩, ⟨a2, k2, cellAt_new hblk (by decide) rfl, HS2.out.below HB.out⟩⟩⟩
  have HTV := Lib.hid (HT.out.keep HB.out HT.out.size)
  try rw [hV]
  clear hV hblk HT
  refine (ofslot_any B w.heap.size 0 L q idx wots path V HTV.out.size HSL.out h0 h1 hL0 hL1 hw hp).mono ?_
  rintro e w1 ⟨g, c, l, rfl, hF, hS, hb⟩
  have HF := Lib.hid hF
  have HS := Lib.hid hS
  have HB1 : Hid (Below w.heap.size w w1) := Lib.hid (bnext HB.out hb)
  have HT1 := Lib.hid (HTV.out.keep hb HTV.out.size)
  have hl : len l = 3 := hS.1.symm
  have HL := Lib.hid hl
  clear hF hS hb hl HTV HSL
  go_wp2_with fail
  refine (wlaid2_any B g 0 c w1 l (slotSpecs L q idx wots path) w1 HF.out.flds (by rw [HL.out]; decide) (by rw [HL.out]; decide) HS.out (Keep8.refl HT1.out.size) HT1.out hsz).mono ?_
  rintro e w2 ⟨rfl, hb2⟩
  have HB2 : Hid (Below w.heap.size w w2) := Lib.hid (bnext HB1.out hb2)
  clear hb2
  cases hm : allMay (slotSpecs L q idx wots path) with
  | true =>
    have HM := Lib.hid hm
    clear hm
    rw [if_pos rfl]
    go_wp2
    go_ret2
    exact ⟨by rw [HM.out]; rfl, HB2.out⟩
  | false =>
    have HM := Lib.hid hm
    clear hm
    rw [if_neg (by decide)]
    go_wp2
    go_ret2
    exact ⟨by rw [HM.out]; rfl, HB2.out⟩
theorem wslot_any (B : Nat) (L : Int) (q : Bool) (idx : Int) (a1 a2 : Option Addr) (k1 k2 : Nat) (wots path : List ByteArray) (w : World) (ht : PTab B w) (hs1 : Strs B w a1 wots) (hs2 : Strs B w a2 path) (h0 : 0 ≤ idx) (h1 : idx ≤ 18446744073709551615) (hL0 : 0 ≤ L) (hL1 : L ≤ 18446744073709551615) (hw : len wots ≤ 100000) (hp : len path ≤ 100000)
    (hsz : (layP (slotSpecs L q idx wots path)).size ≤ 60000000000000) :
    Calls Tryz.prog 24 #[.agg #[.int .u64 L, .bool q, .int .u64 idx, .slice a1 (len wots) k1, .slice a2 (len path) k2]] w (LaidIs (slotSpecs L q idx wots path) w) :=
  wslot2_any B L q idx a1 a2 k1 k2 wots path w ht hs1 hs2 h0 h1 hL0 hL1 hw hp (fun _ => hsz)
set_option maxRecDepth 100000 in
theorem wpart2_any (B : Nat) (root : ByteArray) (weight first life keys : Int) (w : World) (ht : PTab B w) (hr : root.size ≤ 9223372036854775807) (hw : U64i weight) (hf : U64i first) (hl : U64i life) (hk : U64i keys)
    (hsz : allMay (partSpecs root weight first life keys) = true → (layP (partSpecs root weight first life keys)).size ≤ 60000000000000) :
    Calls Tryz.prog 25 #[.agg #[.string root, .int .u64 weight, .int .u64 first, .int .u64 life, .int .u64 keys]] w (LaidIs (partSpecs root weight first life keys) w) := by
  have HT := Lib.hid ht
  clear ht
  go_enter Tryz.func25, Tryz.ntmps25
  go_wp2_with fail
  obtain ⟨V, hV⟩ : ∃ V, w.alloc (.cells #[.string root, .int .u64 weight, .int .u64 first, .int .u64 life, .int .u64 keys] 46) = V := ⟨_, rfl⟩
  have HB : Hid (Below w.heap.size w V) := Lib.hid (by rw [← hV]; (repeat (first | exact Below.refl _ _ | assumption | (refine bdrew ?_) | (refine bdrewN ?_ _) | (refine balloc ?_ _) | (refine bset ?_ (by first | omega | (simp; done) | (simp; omega)) _) | (refine bnext ?_ (by assumption)))))
  have hblk : V.heap[w.heap.size]? = some (.cells #[.string root, .int .u64 weight, .int .u64 first, .int .u64 life, .int .u64 keys] 46 (0, 0)) := by rw [← hV]; exact heap_alloc_new _ _
  have HSL : Hid (PartAt B V w.heap.size 0 root weight first life keys) := Lib.hid ⟨cellAt_new hblk (by decide) rfl, cellAt_new hblk (by decide) rfl, cellAt_new hblk (by decide) rfl, cellAt_new hblk (by decide) rfl, cellAt_new hblk (by decide) rfl⟩
  have HTV := Lib.hid (HT.out.keep HB.out HT.out.size)
  try rw [hV]
  clear hV hblk HT
  refine (ofpart_any B w.heap.size 0 root weight first life keys V HTV.out.size HSL.out hr hw hf hl hk).mono ?_
  rintro e w1 ⟨g, c, l, rfl, hF, hS, hb⟩
  have HF := Lib.hid hF
  have HS := Lib.hid hS
  have HB1 : Hid (Below w.heap.size w w1) := Lib.hid (bnext HB.out hb)
  have HT1 := Lib.hid (HTV.out.keep hb HTV.out.size)
  have hl : len l = 5 := hS.1.symm
  have HL := Lib.hid hl
  clear hF hS hb hl HTV HSL
  go_wp2_with fail
  refine (wlaid2_any B g 0 c w1 l (partSpecs root weight first life keys) w1 HF.out.flds (by rw [HL.out]; decide) (by rw [HL.out]; decide) HS.out (Keep8.refl HT1.out.size) HT1.out hsz).mono ?_
  rintro e w2 ⟨rfl, hb2⟩
  have HB2 : Hid (Below w.heap.size w w2) := Lib.hid (bnext HB1.out hb2)
  clear hb2
  cases hm : allMay (partSpecs root weight first life keys) with
  | true =>
    have HM := Lib.hid hm
    clear hm
    rw [if_pos rfl]
    go_wp2
    go_ret2
    exact ⟨by rw [HM.out]; rfl, HB2.out⟩
  | false =>
    have HM := Lib.hid hm
    clear hm
    rw [if_neg (by decide)]
    go_wp2
    go_ret2
    exact ⟨by rw [HM.out]; rfl, HB2.out⟩
theorem wpart_any (B : Nat) (root : ByteArray) (weight first life keys : Int) (w : World) (ht : PTab B w) (hr : root.size ≤ 9223372036854775807) (hw : U64i weight) (hf : U64i first) (hl : U64i life) (hk : U64i keys)
    (hsz : (layP (partSpecs root weight first life keys)).size ≤ 60000000000000) :
    Calls Tryz.prog 25 #[.agg #[.string root, .int .u64 weight, .int .u64 first, .int .u64 life, .int .u64 keys]] w (LaidIs (partSpecs root weight first life keys) w) :=
  wpart2_any B root weight first life keys w ht hr hw hf hl hk (fun _ => hsz)
end Go.Proofs.YtihiaopilnjonaaGreatDoor
namespace Go.Proofs.YtihiaopilnjonaaGreatDoor
open Go.RowKit
set_option linter.unusedSimpArgs false
set_option linter.unusedVariables false
theorem binP_len (s : ByteArray) : (binP s).size ≤ 9 + s.size := laidP_len 1 _ _
end Go.Proofs.YtihiaopilnjonaaGreatDoor
namespace Go.Proofs.YtihiaopilnjonaaGreatDoor
open Go.RowKit
set_option linter.unusedSimpArgs false
set_option linter.unusedVariables false
def ElIs {α : Type} (res : Except Flt (α × Nat)) (hold : α → World → Array Value → Prop) (rb xb : Nat) (T : TypeId) (s : ByteArray) (w : World) (e : Ending) (w' : World) : Prop :=
  Chg rb xb w w' ∧ match res with
    | .ok y => e = .returned (.tuple #[]) ∧ RdB w' rb s y.2 10240 ∧ y.2 ≤ s.size ∧ ∃ cs, w'.heap[xb]? = some (.cells cs T (0, 0)) ∧ hold y.1 w' cs
    | .error f => ∃ fb, e = .panicked (stopC fb) ∧ FltB w' fb f.1 f.2
theorem elIs_ok {α : Type} {y : α × Nat} {hold : α → World → Array Value → Prop} {rb xb : Nat} {T : TypeId} {s : ByteArray} {w w' : World} {e : Ending} (h : ElIs (.ok y) hold rb xb T s w e w') : e = .returned (.tuple #[]) ∧ Chg rb xb w w' ∧ RdB w' rb s y.2 10240 ∧ y.2 ≤ s.size ∧ ∃ cs, w'.heap[xb]? = some (.cells cs T (0, 0)) ∧ hold y.1 w' cs := ⟨h.2.1, h.1, h.2.2⟩
theorem elIs_err {α : Type} {f : Flt} {hold : α → World → Array Value → Prop} {rb xb : Nat} {T : TypeId} {s : ByteArray} {w w' : World} {e : Ending} (h : ElIs (.error f) hold rb xb T s w e w') : ∃ fb, e = .panicked (stopC fb) ∧ FltB w' fb f.1 f.2 ∧ Chg rb xb w w' := by
  obtain ⟨h1, fb, h2, h3⟩ := h; exact ⟨fb, h2, h3, h1⟩
theorem own_chg {rb xb base : Nat} {w w' : World} {e size n : Nat} {v : Value} {xs : List Value} (h : w.ownsRow base e size v n xs) (hc : Chg rb xb w w') (hr : rb < base) (hx : w.heap.size ≤ xb) : w'.ownsRow base e size v n xs := by
  refine ⟨h.1, ?_⟩
  rcases h.2 with h2 | ⟨g, cap, cur, hv, hg, hh, hr2⟩
  · exact .inl h2
  · exact .inr ⟨g, cap, cur, hv, hg, (hc.block g (lt_of_block hh) (by omega) (by have := lt_of_block hh; omega)).trans hh, hr2⟩
theorem own_set {w : World} {base e size n : Nat} {v : Value} {xs xs' : List Value} (h : w.ownsRow base e size v n xs) {b o : Nat} (hb : b < base) {u : Value} (hx : xs = xs') : (w.setCell ⟨b, o, none⟩ u).ownsRow base e size v n xs' := by
  subst hx
  refine ⟨h.1, ?_⟩
  rcases h.2 with h2 | ⟨g, cap, cur, hv, hg, hh, hr2⟩
  · exact .inl h2
  · exact .inr ⟨g, cap, cur, hv, hg, block_setCell_ne hh (by show g ≠ b; omega) u, hr2⟩
theorem own_apart_lt {base : Nat} {w : World} {e size n : Nat} {v : Value} {xs : List Value} (h : w.ownsRow base e size v n xs) {b : Nat} (hb : b < base) : some b ≠ v.ownBlock := fun e => by
  have := h.lt b e.symm; omega
theorem own_apart_ge {base : Nat} {w : World} {e size n : Nat} {v : Value} {xs : List Value} (h : w.ownsRow base e size v n xs) {b : Nat} (hb : w.heap.size ≤ b) : some b ≠ v.ownBlock := fun e => by
  have := h.lt b e.symm; omega
theorem own_type {base : Nat} {w : World} {e size n : Nat} {v : Value} {xs : List Value} (h : w.ownsRow base e size v n xs) : ∀ k, v.ownBlock = some k → ∃ cs, w.heap[k]? = some (.cells cs e (0, 0)) := fun k hk => by
  rcases h.2 with ⟨rfl, -⟩ | ⟨g, cap, cur, rfl, hg, hh, -⟩
  · cases hk
  · obtain rfl : g = k := by simpa [Value.ownBlock] using hk
    exact ⟨cur, hh⟩
theorem own_tx {w : World} {base n : Nat} {v : Value} {l : List ByteArray} (h : w.ownsRow base 9 1 v n (l.map Value.string)) {rb tb : Nat} (hr : rb < base) (ht : tb < base) (h0 : n = 0 → v = .slice none 0 0) : HoldsD rb tb w v (.strs l) := by
  have hn : len l = n := by have := h.1; rw [len_eq]; simpa using this
  obtain ⟨a, c, rfl, h1⟩ := own_txs h
  refine ⟨a, c, rfl, fun e => ?_, fun b off e => ?_, h1, fun b off e => ?_⟩
  · have h5 := h0 (by omega); simp only [Value.slice.injEq] at h5; exact ⟨h5.1, h5.2.2⟩
  · have := h.lt b (by rw [e]; rfl); omega
  · exact own_type h b (by rw [e]; rfl)
theorem own_ux {w : World} {base n : Nat} {v : Value} {l : List Int} (h : w.ownsRow base 23 1 v n (l.map (Value.int .u64))) {rb tb : Nat} (hr : rb < base) (ht : tb < base) (h0 : n = 0 → v = .slice none 0 0) : HoldsD rb tb w v (.nums l) := by
  have hn : len l = n := by have := h.1; rw [len_eq]; simpa using this
  obtain ⟨a, c, rfl, h1⟩ := own_u64s h
  refine ⟨a, c, rfl, fun e => ?_, fun b off e => ?_, h1, fun b off e => ?_⟩
  · have h5 := h0 (by omega); simp only [Value.slice.injEq] at h5; exact ⟨h5.1, h5.2.2⟩
  · have := h.lt b (by rw [e]; rfl); omega
  · exact own_type h b (by rw [e]; rfl)
theorem own_rx {w : World} {base n : Nat} {v : Value} {l : List RevD} {rs : List Rev} (h : w.ownsRow base 48 11 v n (rs.flatMap Rev.cells)) {rb tb : Nat} (hr : rb < base) (ht : tb < base) (h0 : n = 0 → v = .slice none 0 0) (hl : len rs = len l) (hi : ∀ i, i < len l → RevIs rb tb w (rnth rs i) (lth l i)) : HoldsD rb tb w v (.revs l) := by
  obtain ⟨a, c, rfl, h1, -⟩ := own_revs h
  have hn : len rs = n := by
    have := h.1; rw [flat_length Rev.cells 11 Rev.cells_length] at this; rw [len_eq]; omega
  refine ⟨a, c, by rw [hl], fun e => ?_, fun b off e => ?_, rs, hl, h1, hi⟩
  · have h5 := h0 (by omega); simp only [Value.slice.injEq] at h5; exact ⟨h5.1, h5.2.2⟩
  · have := h.lt b (by rw [e]; rfl); omega
theorem rmany_succ_ok {α : Type} {rd : Nat → Except Flt (α × Nat)} {n a : Nat} {l : List α} {y : α × Nat} (h : rd a = .ok y) : rmany rd (n + 1) a l = rmany rd n y.2 (l ++ [y.1]) := by rw [rmany, h]
theorem rmany_succ_err {α : Type} {rd : Nat → Except Flt (α × Nat)} {n a : Nat} {l : List α} {f : Flt} (h : rd a = .error f) : rmany rd (n + 1) a l = .error f := by rw [rmany, h]
theorem rlist_le {s : ByteArray} {most a : Nat} {y : Nat × Nat} (h : rlist s most a = .ok y) : y.1 ≤ most := by
  unfold rlist at h
  split at h
  · cases h
  · split at h
    · cases h; omega
    · cases h
theorem gmany_err {α : Type} {s key : ByteArray} {o most a k a0 : Nat} {toD : List α → DV} {rd : Nat → Except Flt (α × Nat)} {x : Rcd} {f : Flt} (h1 : rlist s most a = .ok (k, a0)) (h2 : rmany rd k a0 [] = .error f) : (gmany s key o most toD rd).read x a = .error f := by simp only [gmany, h1, h2]
theorem gmany_ok {α : Type} {s key : ByteArray} {o most a k a0 : Nat} {toD : List α → DV} {rd : Nat → Except Flt (α × Nat)} {x : Rcd} {y : List α × Nat} (h1 : rlist s most a = .ok (k, a0)) (h2 : rmany rd k a0 [] = .ok y) : (gmany s key o most toD rd).read x a = .ok (upd x o (toD y.1), y.2) := by simp only [gmany, h1, h2]
set_option maxRecDepth 100000 in
set_option maxHeartbeats 4000000 in
theorem many4s_any (B qb rb tb o bx mb gb gf most : Nat) (gc : Array Value) (x0 : Rcd) (T : TypeId) (n : Nat) (s key : ByteArray) (a : Nat) (x : Rcd) (w : World) (rd : Nat → Except Flt (ByteArray × Nat))
    (h1 : w.heap[bx]? = some (.cells #[.pointer (some ⟨tb, o, none⟩)] 230 (0, 0))) (h2 : w.heap[mb]? = some (.cells #[.int .i64 most] 3 (0, 0))) (h3 : ∃ t, w.heap[gb]? = some (.cells #[.func (.func gf) #[] gc] t (0, 0)))
    (hbr : bx ≠ rb ∧ bx ≠ tb) (hgr : gb ≠ rb ∧ gb ≠ tb) (htr : tb ≠ rb) (hqt : qb ≠ tb) (hBt : B ≤ tb) (ho : o < n) (hm : most ≤ 10240)
    (eg : ∀ args w, (callFunc gf args).run Tryz.prog w = .ok (.enter gf args) w)
    (hget : ∀ w' xb a', Chg rb tb w w' → w.heap.size ≤ xb → w'.heap[xb]? = some (.cells #[.string ⟨#[]⟩] 9 (0, 0)) → RdEnv B w' qb rb s a' → Calls Tryz.prog gf (#[.pointer (some ⟨qb, 0, none⟩), .pointer (some ⟨xb, 0, none⟩)] ++ gc) w' (ElIs (rd a') (fun y _ c => c = #[.string y]) rb xb 9 s w'))
    (hx : RecAt rb tb T n w x) (hx0 : x o = .strs []) (h : RdEnv B w qb rb s a) :
    Calls Tryz.prog 252 #[.pointer (some ⟨qb, 0, none⟩), .pointer (some ⟨mb, 0, none⟩), .pointer (some ⟨gb, 0, none⟩), .pointer (some ⟨bx, 0, none⟩)] w (GetIs ((gmany s key o most .strs rd).read x a) rb tb T n s w) := by
  have H := Lib.hid h
  have HX := Lib.hid hx
  have HG := Lib.hid hget
  obtain ⟨tg, h3⟩ := h3
  have H1 := Lib.hid h1
  have H3 := Lib.hid h3
  have hrs : rb < w.heap.size := lt_of_block h.r
  have hts : tb < w.heap.size := hx.lt
  have hbs : bx < w.heap.size := lt_of_block h1
  have hgs : gb < w.heap.size := lt_of_block h3
  have c1 : w.cell? ⟨mb, 0, none⟩ = some (.int .i64 most) := block_cell h2 0
  obtain ⟨cs, hcs, hcn, hch⟩ := hx
  have HCS := Lib.hid hcs
  have ho' : o < cs.size := by omega
  have HCN := Lib.hid hcn
  obtain ⟨v0, hv0, hd0⟩ := hch o ho
  rw [hx0] at hd0
  obtain ⟨za, zc, hz1, hz2, -⟩ := hd0
  obtain ⟨rfl, rfl⟩ := hz2 rfl
  have HZ : Hid (cs[o]? = some (.slice none 0 0)) := Lib.hid (by rw [hv0, hz1]; rfl)
  clear h1 h2 h3 h hget hcs hcn hch hv0 hz1 hz2 hx0
  go_enter Tryz.func252, Tryz.ntmps252
  go_wp2_with fail
  refine (lsRead_any B qb rb s a most w H.out).mono ?_
  intro e w1 hh
  cases hr : rlist s most a with
  | error f =>
    rw [hr] at hh
    obtain ⟨fb, rfl, hf, hE⟩ := vIs_err hh
    have HF := Lib.hid hf
    have HE := Lib.hid hE
    have HR : Hid ((gmany s key o most .strs rd).read x a = .error f) := Lib.hid (by simp only [gmany, hr])
    clear hh hf hE hr
    go_wp2
    refine ⟨rfl, ?_⟩
    rw [HR.out]
    exact ⟨Chg.of_ext HE.out, fb, rfl, HF.out, (HX.out.ext HE.out htr).thAt⟩
  | ok kk =>
    rw [hr] at hh
    obtain ⟨rfl, hrd, hle, hE⟩ := vIs_ok hh
    have HRD := Lib.hid hrd
    have HLE := Lib.hid hle
    have hc1 := Chg.of_ext (tb := tb) hE
    have HC1 := Lib.hid hc1
    have HB1 : Hid (w1.heap[tb]? = some (.cells cs T (0, 0))) := Lib.hid ((hE.block _ hts (by simpa using htr)).trans HCS.out)
    have hkm : kk.1 ≤ 10240 := by have := rlist_le hr; omega
    obtain ⟨k, a0⟩ := kk
    have HR := Lib.hid hr
    clear hh hrd hle hE hr hc1
    go_wp2
    clear c1
    go_loopg [9] k (fun g i wr => ∃ (m : Nat) (acc : List ByteArray) (a' : Nat) (v : Value), g + m = k ∧ i = .int .i64 m ∧ Hid (rmany rd k a0 [] = rmany rd g a' acc) ∧ Hid (len acc = m) ∧ Hid (a' ≤ s.size) ∧ Hid (RdB wr rb s a' 10240) ∧ Hid (Chg rb tb w wr) ∧
      Hid (wr.heap[tb]? = some (.cells (cs.setIfInBounds o v) T (0, 0))) ∧ Hid (wr.ownsRow w.heap.size 9 1 v m (acc.map Value.string)) ∧ Hid (m = 0 → v = .slice none 0 0))
    case atStart =>
      have e : cs.setIfInBounds o (.slice none 0 0) = cs := by
        apply Array.ext'
        rw [Array.toList_setIfInBounds]
        have h6 := HZ.out
        apply List.ext_getElem?
        intro i
        by_cases e2 : i = o
        · subst e2; rw [List.getElem?_set_self (by have := (Array.getElem?_eq_some_iff.1 h6).1; simpa using this)]; simpa using h6.symm
        · rw [List.getElem?_set_ne (fun e3 => e2 e3.symm)]
      exact ⟨0, [], a0, .slice none 0 0, rfl, rfl, rfl, rfl, HLE.out, HRD.out, HC1.out, by rw [e]; exact HB1.out, World.ownsRow_nil _ _ _ _, fun _ => rfl⟩
    case round =>
      clear HRD HLE HC1 HB1
      obtain ⟨m, acc, a', v, hgm, rfl, HRM, HLA, HLE, HRD, HC, HB, HO, H0⟩ := hrel
      have HEV : Hid (RdEnv B wr qb rb s a') := Lib.hid (H.out.chg HC.out hqt hBt HRD.out HLE.out)
      by_cases hlt : m < k
      · have i1 : (m : Int) < k := by omega
        obtain ⟨g', rfl⟩ : ∃ g', gk = g' + 1 := ⟨gk - 1, by omega⟩
        have c3 : (wr.alloc (.cells #[.string ⟨#[]⟩] 9)).cell? ⟨gb, 0, none⟩ = some (.func (.func gf) #[] gc) := block_cell (block_alloc ((HC.out.block gb hgs hgr.1 hgr.2).trans H3.out) _) 0
        obtain ⟨xb, hxb⟩ : ∃ xb, wr.heap.size = xb := ⟨_, rfl⟩
        have hxw : w.heap.size ≤ xb := by rw [← hxb]; exact HC.out.size
        obtain ⟨wa, hwa⟩ : ∃ wa, wr.alloc (.cells #[.string ⟨#[]⟩] 9) = wa := ⟨_, rfl⟩
        have HA : Hid (Below wr.heap.size wr wa) := Lib.hid (by rw [← hwa]; exact balloc (Below.refl _ _) _)
        have HXB : Hid (wa.heap[xb]? = some (.cells #[.string ⟨#[]⟩] 9 (0, 0))) := Lib.hid (by rw [← hwa, ← hxb]; exact heap_alloc_new _ _)
        rw [hwa] at c3
        have HEA : Hid (RdEnv B wa qb rb s a') := Lib.hid (HEV.out.below HA.out)
        go_upto_region 3 with fail
        try rw [hwa]
        try simp only [hxb]
        clear hwa
        go_wp2_with fail
        refine (HG.out wa xb a' (HC.out.next HA.out) hxw HXB.out HEA.out).mono ?_
        intro e w3 hh
        cases hr3 : rd a' with
        | error f =>
          rw [hr3] at hh
          obtain ⟨fb, rfl, hf, hc⟩ := elIs_err hh
          have HF := Lib.hid hf
          have HC3 : Hid (Chg rb tb w w3) := Lib.hid ((HC.out.next HA.out).inner hc hxw)
          have HTH : Hid (ThAt tb T n w3) := Lib.hid ⟨_, (((Chg.of_below HA.out).trans hc).block tb (Nat.lt_of_lt_of_le hts HC.out.size) htr (by omega)).trans HB.out, by rw [Array.size_setIfInBounds]; exact HCN.out⟩
          have HE : Hid (rmany rd k a0 [] = .error f) := Lib.hid (HRM.out.trans (rmany_succ_err hr3))
          clear hh hf hc hr3 c3
          go_wp2
          refine ⟨rfl, ?_⟩
          rw [gmany_err HR.out HE.out]
          exact ⟨HC3.out, fb, rfl, HF.out, HTH.out⟩
        | ok y =>
          rw [hr3] at hh
          obtain ⟨rfl, hc, hrd3, hle3, cx, hx3, rfl⟩ := elIs_ok hh
          have hcw : Chg rb xb wr w3 := (Chg.of_below HA.out).trans hc
          have HC3 : Hid (Chg rb tb w w3) := Lib.hid ((HC.out.next HA.out).inner hc hxw)
          have HRM3 : Hid (rmany rd k a0 [] = rmany rd g' y.2 (acc ++ [y.1])) := Lib.hid (HRM.out.trans (rmany_succ_ok hr3))
          have HRD3 := Lib.hid hrd3
          have HLE3 := Lib.hid hle3
          have HX3 := Lib.hid hx3
          have hxs : xb < w3.heap.size := lt_of_block hx3
          have htw : tb < wr.heap.size := Nat.lt_of_lt_of_le hts HC.out.size
          have HB3 : Hid (w3.heap[tb]? = some (.cells (cs.setIfInBounds o v) T (0, 0))) := Lib.hid ((hcw.block tb htw htr (by omega)).trans HB.out)
          have HO3 : Hid (w3.ownsRow w.heap.size 9 1 v m (acc.map Value.string)) := Lib.hid (own_chg HO.out hcw hrs (by omega))
          have cl : w3.cell? ⟨bx, 0, none⟩ = some (.pointer (some ⟨tb, o, none⟩)) := block_cell ((HC3.out.block bx hbs hbr.1 hbr.2).trans H1.out) 0
          have ct : w3.cell? ⟨tb, o, none⟩ = some v := by rw [block_cell HB3.out, Array.getElem?_setIfInBounds_self_of_lt ho']
          have cx1 : w3.cell? ⟨xb, 0, none⟩ = some (.string y.1) := block_cell hx3 0
          have hne1 : some bx ≠ v.ownBlock := own_apart_lt HO3.out hbs
          have hne2 : some tb ≠ v.ownBlock := own_apart_lt HO3.out hts
          have hne3 : some xb ≠ v.ownBlock := own_apart_ge HO.out (by omega)
          have hrn : some rb ≠ v.ownBlock := own_apart_lt HO3.out hrs
          obtain ⟨i0, hi, hz0, hz1, hz2⟩ := info_parts info_str
          have hmk : m < 10240 := by omega
          have hws : w.heap.size ≤ w3.heap.size := HC3.out.size
          clear hh hc hcw hrd3 hle3 hx3 hr3 c3 HB HO HRM HRD HLE HXB HEA HEV
          go_upto_region 4 with fail
          refine wp_region_tail 8 6 (v.ownBlock) (phis [fun u _ => u = (.pointer (some ⟨tb, o, none⟩)), fun u _ => u = (.pointer (some ⟨tb, o, none⟩)), fun u _ => u = (.pointer (some ⟨tb, o, none⟩)), fun u _ => u = (v), fun u _ => u = (.string y.1), fun u w' => ∃ b, u = .slice (some ⟨b, 0, none⟩) 1 1 ∧ some b ≠ v.ownBlock ∧ w'.heap[b]? = some (.cells #[.string y.1] 9 (0, 0)), fun u w' => w'.ownsRow w.heap.size 9 1 u (m + 1) ((acc.map Value.string) ++ [.string y.1]), fun u _ => u = (.pointer (some ⟨tb, o, none⟩))]) rfl (by kernel_rfl) (by kernel_rfl) (mono_of ⟨mono_eq, mono_eq, mono_eq, mono_eq, mono_eq, ?m5, ?m6, mono_eq, trivial⟩) (steps_of 8 ⟨?s0, ?s1, ?s2, ?s3, ?s4, ?s5, ?s6, ?s7, trivial⟩) ?_
          case m5 =>
            exact ⟨fun u w1 w' h ⟨b, h1, hb, hb'⟩ => ⟨b, h1, hb, ext_block h hb'⟩, fun _ u w1 w' h ⟨b, h1, hb, hb'⟩ => ⟨b, h1, hb, extB_block h hb hb'⟩⟩
          case m6 =>
            exact ⟨fun u w1 w' h hu => own_below hu h, fun hn => absurd rfl hn⟩
          case s0 =>
            refine step_val (v := (.pointer (some ⟨tb, o, none⟩))) (fun av wv hE hS hO hD => ?_) (fun _ => rfl)
            have h3 : av.eval (.tmp 3) = (.pointer (some ⟨bx, 0, none⟩)) := hO.2.2 3 rfl
            have f3 := (ev_form av 3).symm.trans h3
            have cl := extB_cell hE hne1 cl
            have ct := extB_cell hE hne2 ct
            have cx1 := extB_cell hE hne3 cx1
            refine ⟨rfl, ?_⟩
            simp [go_sem, f3, cl, ct, cx1]
          case s1 =>
            refine step_val (v := (.pointer (some ⟨tb, o, none⟩))) (fun av wv hE hS hO hD => ?_) (fun _ => rfl)
            have h3 : av.eval (.tmp 3) = (.pointer (some ⟨bx, 0, none⟩)) := hO.2.2 3 rfl
            have f3 := (ev_form av 3).symm.trans h3
            have cl := extB_cell hE hne1 cl
            have ct := extB_cell hE hne2 ct
            have cx1 := extB_cell hE hne3 cx1
            refine ⟨rfl, ?_⟩
            simp [go_sem, f3, cl, ct, cx1]
          case s2 =>
            refine step_val (v := (.pointer (some ⟨tb, o, none⟩))) (fun av wv hE hS hO hD => ?_) (fun _ => rfl)
            have d15 : av.eval (.tmp 15) = (.pointer (some ⟨tb, o, none⟩)) := hD.1 rfl _ rfl
            have f15 := (ev_form av 15).symm.trans d15
            refine ⟨rfl, ?_⟩
            simp [go_sem, f15]
          case s3 =>
            refine step_val (v := (v)) (fun av wv hE hS hO hD => ?_) (fun _ => rfl)
            have d16 : av.eval (.tmp 16) = (.pointer (some ⟨tb, o, none⟩)) := hD.1 rfl _ rfl
            have f16 := (ev_form av 16).symm.trans d16
            have cl := extB_cell hE hne1 cl
            have ct := extB_cell hE hne2 ct
            have cx1 := extB_cell hE hne3 cx1
            refine ⟨rfl, ?_⟩
            simp [go_sem, f16, cl, ct, cx1]
          case s4 =>
            refine step_val (v := (.string y.1)) (fun av wv hE hS hO hD => ?_) (fun _ => rfl)
            have h5 : av.eval (.tmp 5) = (.pointer (some ⟨xb, 0, none⟩)) := hO.2.2 5 rfl
            have f5 := (ev_form av 5).symm.trans h5
            have cl := extB_cell hE hne1 cl
            have ct := extB_cell hE hne2 ct
            have cx1 := extB_cell hE hne3 cx1
            refine ⟨rfl, ?_⟩
            simp [go_sem, f5, cl, ct, cx1]
          case s5 =>
            refine step_wp (fun av wv hE hS hO hD => ?_)
            have d18 : av.eval (.tmp 18) = (.string y.1) := hD.1 rfl _ rfl
            have f18 := (ev_form av 18).symm.trans d18
            refine ⟨rfl, ?_⟩
            refine wp_of_run (v := .slice (some ⟨wv.heap.size, 0, none⟩) 1 1) (w' := wv.alloc (.cells #[.string y.1] 9)) (by simp [go_sem, f18]) ⟨_, rfl, es_of_ext (balloc (Ext_refl _) _), wv.heap.size, rfl, ?_, heap_alloc_new _ _⟩
            exact own_apart_ge HO3.out (by have := hE.size; simp at this; omega)
          case s6 =>
            refine step_wp (fun av wv hE hS hO hD => ?_)
            have d17 : av.eval (.tmp 17) = (v) := hD.1 rfl _ rfl
            have f17 := (ev_form av 17).symm.trans d17
            have d19 : (fun u w' => ∃ b, u = .slice (some ⟨b, 0, none⟩) 1 1 ∧ some b ≠ v.ownBlock ∧ w'.heap[b]? = some (.cells #[.string y.1] 9 (0, 0))) (av.eval (.tmp 19)) wv := hD.2.1 rfl _ rfl
            refine ⟨rfl, ?_⟩
            obtain ⟨b19, h19, hb19, hc19⟩ := d19
            have hown1 : wv.ownsRow w.heap.size 9 1 v m (acc.map Value.string) := own_below (w := w3.drew) HO3.out (hS rfl)
            refine wp_append_lies wv _ _ _ rfl w.heap.size 9 i0 (.string ⟨#[]⟩) 1 16 Tryz.underlying26 hi hz0 hz1 hz2 rfl (by decide) v m _ d17 hown1 ⟨b19, 0, none⟩ 1 1 [.string y.1] (by exact h19) rfl (World.news_of_block hc19) (by intro u hu; simp at hu; rcases hu with rfl <;> rfl) (by decide) (by unfold maxLen; omega) (by omega) (by have := hE.size; simp at this; omega) _ rfl ?_
            intro g2 cap2 w2 hown2 hgrow hat hlt2
            exact ⟨_, rfl, es_sp hgrow, hown2⟩
          case s7 =>
            refine step_val (v := (.pointer (some ⟨tb, o, none⟩))) (fun av wv hE hS hO hD => ?_) (fun _ => rfl)
            have d14 : av.eval (.tmp 14) = (.pointer (some ⟨tb, o, none⟩)) := hD.1 rfl _ rfl
            have f14 := (ev_form av 14).symm.trans d14
            refine ⟨rfl, ?_⟩
            simp [go_sem, f14]
          intro a' w' hE hO hall
          have hA := act_of_outer (ds := [14, 15, 16, 17, 18, 19, 20, 21]) rfl hO (by kernel_rfl)
          have e14 : (fun u _ => u = (.pointer (some ⟨tb, o, none⟩))) (a'.eval (.tmp 14)) w' := hall.1 _ rfl
          have e15 : (fun u _ => u = (.pointer (some ⟨tb, o, none⟩))) (a'.eval (.tmp 15)) w' := hall.2.1 _ rfl
          have e16 : (fun u _ => u = (.pointer (some ⟨tb, o, none⟩))) (a'.eval (.tmp 16)) w' := hall.2.2.1 _ rfl
          have e17 : (fun u _ => u = (v)) (a'.eval (.tmp 17)) w' := hall.2.2.2.1 _ rfl
          have e18 : (fun u _ => u = (.string y.1)) (a'.eval (.tmp 18)) w' := hall.2.2.2.2.1 _ rfl
          have e19 : (fun u w' => ∃ b, u = .slice (some ⟨b, 0, none⟩) 1 1 ∧ some b ≠ v.ownBlock ∧ w'.heap[b]? = some (.cells #[.string y.1] 9 (0, 0))) (a'.eval (.tmp 19)) w' := hall.2.2.2.2.2.1 _ rfl
          have e20 : (fun u w' => w'.ownsRow w.heap.size 9 1 u (m + 1) ((acc.map Value.string) ++ [.string y.1])) (a'.eval (.tmp 20)) w' := hall.2.2.2.2.2.2.1 _ rfl
          have e21 : (fun u _ => u = (.pointer (some ⟨tb, o, none⟩))) (a'.eval (.tmp 21)) w' := hall.2.2.2.2.2.2.2.1 _ rfl
          obtain ⟨v19, hv19⟩ : ∃ v, a'.eval (.tmp 19) = v := ⟨_, rfl⟩
          rw [hv19] at e19
          obtain ⟨v20, hv20⟩ : ∃ v, a'.eval (.tmp 20) = v := ⟨_, rfl⟩
          rw [hv20] at e20
          simp only [List.foldl_cons, List.foldl_nil, Act.put, List.setIfInBounds_toArray, List.set_cons_succ, List.set_cons_zero, e14, e15, e16, e17, e18, hv19, hv20, e21] at hA
          clear hO hall e14 e15 e16 e17 e18 hv19 hv20 e21
          subst hA
          obtain ⟨g2, cap2, rfl, hg1, hg2⟩ := e20.form (by omega)
          have hB4 : w'.heap[tb]? = some (.cells (cs.setIfInBounds o v) T (0, 0)) := extB_block (of_drewE hE) hne2 HB3.out
          have hf4 : w'.frozen? ⟨tb, o, none⟩ = false := block_free hB4 o
          have q4 : w'.cell? ⟨tb, o, none⟩ = some v := by rw [block_cell hB4, Array.getElem?_setIfInBounds_self_of_lt ho']
          have HO4 := Lib.hid e20
          have HB4 := Lib.hid hB4
          have HC4 : Hid (Chg rb tb w w') := Lib.hid ⟨(of_drewE hE).os.trans HC3.out.os, (of_drewE hE).tape.trans HC3.out.tape, (of_drewE hE).output.trans HC3.out.output, Nat.le_trans HC3.out.size (of_drewE hE).size, fun i hi h1 h2 => ((of_drewE hE).block i (Nat.lt_of_lt_of_le hi HC3.out.size) (own_apart_lt HO3.out hi)).trans (HC3.out.block i hi h1 h2)⟩
          have HRD4 : Hid (RdB w' rb s y.2 10240) := Lib.hid (extB_block (of_drewE hE) hrn HRD3.out)
          clear e20 hB4 hE e19 cl ct hi hz0 hz1 hz2 hne1 hne2 hne3 hrn
          go_wp2
          have hsz : ∀ u, (cs.setIfInBounds o v).setIfInBounds o u = cs.setIfInBounds o u := fun u => Array.setIfInBounds_setIfInBounds ..
          go_roundg g'
          case rel =>
            exact ⟨m + 1, acc ++ [y.1], y.2, _, by omega, by go_num, HRM3.out, Lib.hid (by have := HLA.out; simp only [len, List.length_append, List.length_singleton] at this ⊢; omega), HLE3.out, block_setCell_ne HRD4.out (by exact fun e => htr e.symm) _, HC4.out.set o _, Lib.hid (by rw [← hsz]; exact block_setCell HB4.out _), own_set HO4.out hts (by simp), fun h0 => by omega⟩
          case measure => omega
      · obtain rfl : m = k := by omega
        have i1 : ¬ ((m : Nat) : Int) < m := by omega
        obtain rfl : gk = 0 := by omega
        go_wp2
        go_end0
        refine ⟨HC.out, ?_⟩
        rw [gmany_ok HR.out (HRM.out.trans (rmany.eq_1 ..))]
        exact ⟨rfl, HRD.out, HLE.out, RecAt.put HCS.out HX.out ho HC.out HB.out (own_tx HO.out hrs hts H0.out)⟩
set_option maxRecDepth 100000 in
set_option maxHeartbeats 4000000 in
theorem many4u_any (B qb rb tb o bx mb gb gf most : Nat) (gc : Array Value) (x0 : Rcd) (T : TypeId) (n : Nat) (s key : ByteArray) (a : Nat) (x : Rcd) (w : World) (rd : Nat → Except Flt (Int × Nat))
    (h1 : w.heap[bx]? = some (.cells #[.pointer (some ⟨tb, o, none⟩)] 232 (0, 0))) (h2 : w.heap[mb]? = some (.cells #[.int .i64 most] 3 (0, 0))) (h3 : ∃ t, w.heap[gb]? = some (.cells #[.func (.func gf) #[] gc] t (0, 0)))
    (hbr : bx ≠ rb ∧ bx ≠ tb) (hgr : gb ≠ rb ∧ gb ≠ tb) (htr : tb ≠ rb) (hqt : qb ≠ tb) (hBt : B ≤ tb) (ho : o < n) (hm : most ≤ 10240)
    (eg : ∀ args w, (callFunc gf args).run Tryz.prog w = .ok (.enter gf args) w)
    (hget : ∀ w' xb a', Chg rb tb w w' → w.heap.size ≤ xb → w'.heap[xb]? = some (.cells #[.int .u64 0] 23 (0, 0)) → RdEnv B w' qb rb s a' → Calls Tryz.prog gf (#[.pointer (some ⟨qb, 0, none⟩), .pointer (some ⟨xb, 0, none⟩)] ++ gc) w' (ElIs (rd a') (fun y _ c => c = #[.int .u64 y]) rb xb 23 s w'))
    (hx : RecAt rb tb T n w x) (hx0 : x o = .nums []) (h : RdEnv B w qb rb s a) :
    Calls Tryz.prog 220 #[.pointer (some ⟨qb, 0, none⟩), .pointer (some ⟨mb, 0, none⟩), .pointer (some ⟨gb, 0, none⟩), .pointer (some ⟨bx, 0, none⟩)] w (GetIs ((gmany s key o most .nums rd).read x a) rb tb T n s w) := by
  have H := Lib.hid h
  have HX := Lib.hid hx
  have HG := Lib.hid hget
  obtain ⟨tg, h3⟩ := h3
  have H1 := Lib.hid h1
  have H3 := Lib.hid h3
  have hrs : rb < w.heap.size := lt_of_block h.r
  have hts : tb < w.heap.size := hx.lt
  have hbs : bx < w.heap.size := lt_of_block h1
  have hgs : gb < w.heap.size := lt_of_block h3
  have c1 : w.cell? ⟨mb, 0, none⟩ = some (.int .i64 most) := block_cell h2 0
  obtain ⟨cs, hcs, hcn, hch⟩ := hx
  have HCS := Lib.hid hcs
  have ho' : o < cs.size := by omega
  have HCN := Lib.hid hcn
  obtain ⟨v0, hv0, hd0⟩ := hch o ho
  rw [hx0] at hd0
  obtain ⟨za, zc, hz1, hz2, -⟩ := hd0
  obtain ⟨rfl, rfl⟩ := hz2 rfl
  have HZ : Hid (cs[o]? = some (.slice none 0 0)) := Lib.hid (by rw [hv0, hz1]; rfl)
  clear h1 h2 h3 h hget hcs hcn hch hv0 hz1 hz2 hx0
  go_enter Tryz.func220, Tryz.ntmps220
  go_wp2_with fail
  refine (lsRead_any B qb rb s a most w H.out).mono ?_
  intro e w1 hh
  cases hr : rlist s most a with
  | error f =>
    rw [hr] at hh
    obtain ⟨fb, rfl, hf, hE⟩ := vIs_err hh
    have HF := Lib.hid hf
    have HE := Lib.hid hE
    have HR : Hid ((gmany s key o most .nums rd).read x a = .error f) := Lib.hid (by simp only [gmany, hr])
    clear hh hf hE hr
    go_wp2
    refine ⟨rfl, ?_⟩
    rw [HR.out]
    exact ⟨Chg.of_ext HE.out, fb, rfl, HF.out, (HX.out.ext HE.out htr).thAt⟩
  | ok kk =>
    rw [hr] at hh
    obtain ⟨rfl, hrd, hle, hE⟩ := vIs_ok hh
    have HRD := Lib.hid hrd
    have HLE := Lib.hid hle
    have hc1 := Chg.of_ext (tb := tb) hE
    have HC1 := Lib.hid hc1
    have HB1 : Hid (w1.heap[tb]? = some (.cells cs T (0, 0))) := Lib.hid ((hE.block _ hts (by simpa using htr)).trans HCS.out)
    have hkm : kk.1 ≤ 10240 := by have := rlist_le hr; omega
    obtain ⟨k, a0⟩ := kk
    have HR := Lib.hid hr
    clear hh hrd hle hE hr hc1
    go_wp2
    clear c1
    go_loopg [9] k (fun g i wr => ∃ (m : Nat) (acc : List Int) (a' : Nat) (v : Value), g + m = k ∧ i = .int .i64 m ∧ Hid (rmany rd k a0 [] = rmany rd g a' acc) ∧ Hid (len acc = m) ∧ Hid (a' ≤ s.size) ∧ Hid (RdB wr rb s a' 10240) ∧ Hid (Chg rb tb w wr) ∧
      Hid (wr.heap[tb]? = some (.cells (cs.setIfInBounds o v) T (0, 0))) ∧ Hid (wr.ownsRow w.heap.size 23 1 v m (acc.map (Value.int .u64))) ∧ Hid (m = 0 → v = .slice none 0 0))
    case atStart =>
      have e : cs.setIfInBounds o (.slice none 0 0) = cs := by
        apply Array.ext'
        rw [Array.toList_setIfInBounds]
        have h6 := HZ.out
        apply List.ext_getElem?
        intro i
        by_cases e2 : i = o
        · subst e2; rw [List.getElem?_set_self (by have := (Array.getElem?_eq_some_iff.1 h6).1; simpa using this)]; simpa using h6.symm
        · rw [List.getElem?_set_ne (fun e3 => e2 e3.symm)]
      exact ⟨0, [], a0, .slice none 0 0, rfl, rfl, rfl, rfl, HLE.out, HRD.out, HC1.out, by rw [e]; exact HB1.out, World.ownsRow_nil _ _ _ _, fun _ => rfl⟩
    case round =>
      clear HRD HLE HC1 HB1
      obtain ⟨m, acc, a', v, hgm, rfl, HRM, HLA, HLE, HRD, HC, HB, HO, H0⟩ := hrel
      have HEV : Hid (RdEnv B wr qb rb s a') := Lib.hid (H.out.chg HC.out hqt hBt HRD.out HLE.out)
      by_cases hlt : m < k
      · have i1 : (m : Int) < k := by omega
        obtain ⟨g', rfl⟩ : ∃ g', gk = g' + 1 := ⟨gk - 1, by omega⟩
        have c3 : (wr.alloc (.cells #[.int .u64 0] 23)).cell? ⟨gb, 0, none⟩ = some (.func (.func gf) #[] gc) := block_cell (block_alloc ((HC.out.block gb hgs hgr.1 hgr.2).trans H3.out) _) 0
        obtain ⟨xb, hxb⟩ : ∃ xb, wr.heap.size = xb := ⟨_, rfl⟩
        have hxw : w.heap.size ≤ xb := by rw [← hxb]; exact HC.out.size
        obtain ⟨wa, hwa⟩ : ∃ wa, wr.alloc (.cells #[.int .u64 0] 23) = wa := ⟨_, rfl⟩
        have HA : Hid (Below wr.heap.size wr wa) := Lib.hid (by rw [← hwa]; exact balloc (Below.refl _ _) _)
        have HXB : Hid (wa.heap[xb]? = some (.cells #[.int .u64 0] 23 (0, 0))) := Lib.hid (by rw [← hwa, ← hxb]; exact heap_alloc_new _ _)
        rw [hwa] at c3
        have HEA : Hid (RdEnv B wa qb rb s a') := Lib.hid (HEV.out.below HA.out)
        go_upto_region 3 with fail
        try rw [hwa]
        try simp only [hxb]
        clear hwa
        go_wp2_with fail
        refine (HG.out wa xb a' (HC.out.next HA.out) hxw HXB.out HEA.out).mono ?_
        intro e w3 hh
        cases hr3 : rd a' with
        | error f =>
          rw [hr3] at hh
          obtain ⟨fb, rfl, hf, hc⟩ := elIs_err hh
          have HF := Lib.hid hf
          have HC3 : Hid (Chg rb tb w w3) := Lib.hid ((HC.out.next HA.out).inner hc hxw)
          have HTH : Hid (ThAt tb T n w3) := Lib.hid ⟨_, (((Chg.of_below HA.out).trans hc).block tb (Nat.lt_of_lt_of_le hts HC.out.size) htr (by omega)).trans HB.out, by rw [Array.size_setIfInBounds]; exact HCN.out⟩
          have HE : Hid (rmany rd k a0 [] = .error f) := Lib.hid (HRM.out.trans (rmany_succ_err hr3))
          clear hh hf hc hr3 c3
          go_wp2
          refine ⟨rfl, ?_⟩
          rw [gmany_err HR.out HE.out]
          exact ⟨HC3.out, fb, rfl, HF.out, HTH.out⟩
        | ok y =>
          rw [hr3] at hh
          obtain ⟨rfl, hc, hrd3, hle3, cx, hx3, rfl⟩ := elIs_ok hh
          have hcw : Chg rb xb wr w3 := (Chg.of_below HA.out).trans hc
          have HC3 : Hid (Chg rb tb w w3) := Lib.hid ((HC.out.next HA.out).inner hc hxw)
          have HRM3 : Hid (rmany rd k a0 [] = rmany rd g' y.2 (acc ++ [y.1])) := Lib.hid (HRM.out.trans (rmany_succ_ok hr3))
          have HRD3 := Lib.hid hrd3
          have HLE3 := Lib.hid hle3
          have HX3 := Lib.hid hx3
          have hxs : xb < w3.heap.size := lt_of_block hx3
          have htw : tb < wr.heap.size := Nat.lt_of_lt_of_le hts HC.out.size
          have HB3 : Hid (w3.heap[tb]? = some (.cells (cs.setIfInBounds o v) T (0, 0))) := Lib.hid ((hcw.block tb htw htr (by omega)).trans HB.out)
          have HO3 : Hid (w3.ownsRow w.heap.size 23 1 v m (acc.map (Value.int .u64))) := Lib.hid (own_chg HO.out hcw hrs (by omega))
          have cl : w3.cell? ⟨bx, 0, none⟩ = some (.pointer (some ⟨tb, o, none⟩)) := block_cell ((HC3.out.block bx hbs hbr.1 hbr.2).trans H1.out) 0
          have ct : w3.cell? ⟨tb, o, none⟩ = some v := by rw [block_cell HB3.out, Array.getElem?_setIfInBounds_self_of_lt ho']
          have cx1 : w3.cell? ⟨xb, 0, none⟩ = some (.int .u64 y.1) := block_cell hx3 0
          have hne1 : some bx ≠ v.ownBlock := own_apart_lt HO3.out hbs
          have hne2 : some tb ≠ v.ownBlock := own_apart_lt HO3.out hts
          have hne3 : some xb ≠ v.ownBlock := own_apart_ge HO.out (by omega)
          have hrn : some rb ≠ v.ownBlock := own_apart_lt HO3.out hrs
          obtain ⟨i0, hi, hz0, hz1, hz2⟩ := info_parts info_u64
          have hmk : m < 10240 := by omega
          have hws : w.heap.size ≤ w3.heap.size := HC3.out.size
          clear hh hc hcw hrd3 hle3 hx3 hr3 c3 HB HO HRM HRD HLE HXB HEA HEV
          go_upto_region 4 with fail
          refine wp_region_tail 8 6 (v.ownBlock) (phis [fun u _ => u = (.pointer (some ⟨tb, o, none⟩)), fun u _ => u = (.pointer (some ⟨tb, o, none⟩)), fun u _ => u = (.pointer (some ⟨tb, o, none⟩)), fun u _ => u = (v), fun u _ => u = (.int .u64 y.1), fun u w' => ∃ b, u = .slice (some ⟨b, 0, none⟩) 1 1 ∧ some b ≠ v.ownBlock ∧ w'.heap[b]? = some (.cells #[.int .u64 y.1] 23 (0, 0)), fun u w' => w'.ownsRow w.heap.size 23 1 u (m + 1) ((acc.map (Value.int .u64)) ++ [.int .u64 y.1]), fun u _ => u = (.pointer (some ⟨tb, o, none⟩))]) rfl (by kernel_rfl) (by kernel_rfl) (mono_of ⟨mono_eq, mono_eq, mono_eq, mono_eq, mono_eq, ?m5, ?m6, mono_eq, trivial⟩) (steps_of 8 ⟨?s0, ?s1, ?s2, ?s3, ?s4, ?s5, ?s6, ?s7, trivial⟩) ?_
          case m5 =>
            exact ⟨fun u w1 w' h ⟨b, h1, hb, hb'⟩ => ⟨b, h1, hb, ext_block h hb'⟩, fun _ u w1 w' h ⟨b, h1, hb, hb'⟩ => ⟨b, h1, hb, extB_block h hb hb'⟩⟩
          case m6 =>
            exact ⟨fun u w1 w' h hu => own_below hu h, fun hn => absurd rfl hn⟩
          case s0 =>
            refine step_val (v := (.pointer (some ⟨tb, o, none⟩))) (fun av wv hE hS hO hD => ?_) (fun _ => rfl)
            have h3 : av.eval (.tmp 3) = (.pointer (some ⟨bx, 0, none⟩)) := hO.2.2 3 rfl
            have f3 := (ev_form av 3).symm.trans h3
            have cl := extB_cell hE hne1 cl
            have ct := extB_cell hE hne2 ct
            have cx1 := extB_cell hE hne3 cx1
            refine ⟨rfl, ?_⟩
            simp [go_sem, f3, cl, ct, cx1]
          case s1 =>
            refine step_val (v := (.pointer (some ⟨tb, o, none⟩))) (fun av wv hE hS hO hD => ?_) (fun _ => rfl)
            have h3 : av.eval (.tmp 3) = (.pointer (some ⟨bx, 0, none⟩)) := hO.2.2 3 rfl
            have f3 := (ev_form av 3).symm.trans h3
            have cl := extB_cell hE hne1 cl
            have ct := extB_cell hE hne2 ct
            have cx1 := extB_cell hE hne3 cx1
            refine ⟨rfl, ?_⟩
            simp [go_sem, f3, cl, ct, cx1]
          case s2 =>
            refine step_val (v := (.pointer (some ⟨tb, o, none⟩))) (fun av wv hE hS hO hD => ?_) (fun _ => rfl)
            have d15 : av.eval (.tmp 15) = (.pointer (some ⟨tb, o, none⟩)) := hD.1 rfl _ rfl
            have f15 := (ev_form av 15).symm.trans d15
            refine ⟨rfl, ?_⟩
            simp [go_sem, f15]
          case s3 =>
            refine step_val (v := (v)) (fun av wv hE hS hO hD => ?_) (fun _ => rfl)
            have d16 : av.eval (.tmp 16) = (.pointer (some ⟨tb, o, none⟩)) := hD.1 rfl _ rfl
            have f16 := (ev_form av 16).symm.trans d16
            have cl := extB_cell hE hne1 cl
            have ct := extB_cell hE hne2 ct
            have cx1 := extB_cell hE hne3 cx1
            refine ⟨rfl, ?_⟩
            simp [go_sem, f16, cl, ct, cx1]
          case s4 =>
            refine step_val (v := (.int .u64 y.1)) (fun av wv hE hS hO hD => ?_) (fun _ => rfl)
            have h5 : av.eval (.tmp 5) = (.pointer (some ⟨xb, 0, none⟩)) := hO.2.2 5 rfl
            have f5 := (ev_form av 5).symm.trans h5
            have cl := extB_cell hE hne1 cl
            have ct := extB_cell hE hne2 ct
            have cx1 := extB_cell hE hne3 cx1
            refine ⟨rfl, ?_⟩
            simp [go_sem, f5, cl, ct, cx1]
          case s5 =>
            refine step_wp (fun av wv hE hS hO hD => ?_)
            have d18 : av.eval (.tmp 18) = (.int .u64 y.1) := hD.1 rfl _ rfl
            have f18 := (ev_form av 18).symm.trans d18
            refine ⟨rfl, ?_⟩
            refine wp_of_run (v := .slice (some ⟨wv.heap.size, 0, none⟩) 1 1) (w' := wv.alloc (.cells #[.int .u64 y.1] 23)) (by simp [go_sem, f18]) ⟨_, rfl, es_of_ext (balloc (Ext_refl _) _), wv.heap.size, rfl, ?_, heap_alloc_new _ _⟩
            exact own_apart_ge HO3.out (by have := hE.size; simp at this; omega)
          case s6 =>
            refine step_wp (fun av wv hE hS hO hD => ?_)
            have d17 : av.eval (.tmp 17) = (v) := hD.1 rfl _ rfl
            have f17 := (ev_form av 17).symm.trans d17
            have d19 : (fun u w' => ∃ b, u = .slice (some ⟨b, 0, none⟩) 1 1 ∧ some b ≠ v.ownBlock ∧ w'.heap[b]? = some (.cells #[.int .u64 y.1] 23 (0, 0))) (av.eval (.tmp 19)) wv := hD.2.1 rfl _ rfl
            refine ⟨rfl, ?_⟩
            obtain ⟨b19, h19, hb19, hc19⟩ := d19
            have hown1 : wv.ownsRow w.heap.size 23 1 v m (acc.map (Value.int .u64)) := own_below (w := w3.drew) HO3.out (hS rfl)
            refine wp_append_lies wv _ _ _ rfl w.heap.size 23 i0 (.int .u64 0) 1 8 Tryz.underlying25 hi hz0 hz1 hz2 rfl (by decide) v m _ d17 hown1 ⟨b19, 0, none⟩ 1 1 [.int .u64 y.1] (by exact h19) rfl (World.news_of_block hc19) (by intro u hu; simp at hu; rcases hu with rfl <;> rfl) (by decide) (by unfold maxLen; omega) (by omega) (by have := hE.size; simp at this; omega) _ rfl ?_
            intro g2 cap2 w2 hown2 hgrow hat hlt2
            exact ⟨_, rfl, es_sp hgrow, hown2⟩
          case s7 =>
            refine step_val (v := (.pointer (some ⟨tb, o, none⟩))) (fun av wv hE hS hO hD => ?_) (fun _ => rfl)
            have d14 : av.eval (.tmp 14) = (.pointer (some ⟨tb, o, none⟩)) := hD.1 rfl _ rfl
            have f14 := (ev_form av 14).symm.trans d14
            refine ⟨rfl, ?_⟩
            simp [go_sem, f14]
          intro a' w' hE hO hall
          have hA := act_of_outer (ds := [14, 15, 16, 17, 18, 19, 20, 21]) rfl hO (by kernel_rfl)
          have e14 : (fun u _ => u = (.pointer (some ⟨tb, o, none⟩))) (a'.eval (.tmp 14)) w' := hall.1 _ rfl
          have e15 : (fun u _ => u = (.pointer (some ⟨tb, o, none⟩))) (a'.eval (.tmp 15)) w' := hall.2.1 _ rfl
          have e16 : (fun u _ => u = (.pointer (some ⟨tb, o, none⟩))) (a'.eval (.tmp 16)) w' := hall.2.2.1 _ rfl
          have e17 : (fun u _ => u = (v)) (a'.eval (.tmp 17)) w' := hall.2.2.2.1 _ rfl
          have e18 : (fun u _ => u = (.int .u64 y.1)) (a'.eval (.tmp 18)) w' := hall.2.2.2.2.1 _ rfl
          have e19 : (fun u w' => ∃ b, u = .slice (some ⟨b, 0, none⟩) 1 1 ∧ some b ≠ v.ownBlock ∧ w'.heap[b]? = some (.cells #[.int .u64 y.1] 23 (0, 0))) (a'.eval (.tmp 19)) w' := hall.2.2.2.2.2.1 _ rfl
          have e20 : (fun u w' => w'.ownsRow w.heap.size 23 1 u (m + 1) ((acc.map (Value.int .u64)) ++ [.int .u64 y.1])) (a'.eval (.tmp 20)) w' := hall.2.2.2.2.2.2.1 _ rfl
          have e21 : (fun u _ => u = (.pointer (some ⟨tb, o, none⟩))) (a'.eval (.tmp 21)) w' := hall.2.2.2.2.2.2.2.1 _ rfl
          obtain ⟨v19, hv19⟩ : ∃ v, a'.eval (.tmp 19) = v := ⟨_, rfl⟩
          rw [hv19] at e19
          obtain ⟨v20, hv20⟩ : ∃ v, a'.eval (.tmp 20) = v := ⟨_, rfl⟩
          rw [hv20] at e20
          simp only [List.foldl_cons, List.foldl_nil, Act.put, List.setIfInBounds_toArray, List.set_cons_succ, List.set_cons_zero, e14, e15, e16, e17, e18, hv19, hv20, e21] at hA
          clear hO hall e14 e15 e16 e17 e18 hv19 hv20 e21
          subst hA
          obtain ⟨g2, cap2, rfl, hg1, hg2⟩ := e20.form (by omega)
          have hB4 : w'.heap[tb]? = some (.cells (cs.setIfInBounds o v) T (0, 0)) := extB_block (of_drewE hE) hne2 HB3.out
          have hf4 : w'.frozen? ⟨tb, o, none⟩ = false := block_free hB4 o
          have q4 : w'.cell? ⟨tb, o, none⟩ = some v := by rw [block_cell hB4, Array.getElem?_setIfInBounds_self_of_lt ho']
          have HO4 := Lib.hid e20
          have HB4 := Lib.hid hB4
          have HC4 : Hid (Chg rb tb w w') := Lib.hid ⟨(of_drewE hE).os.trans HC3.out.os, (of_drewE hE).tape.trans HC3.out.tape, (of_drewE hE).output.trans HC3.out.output, Nat.le_trans HC3.out.size (of_drewE hE).size, fun i hi h1 h2 => ((of_drewE hE).block i (Nat.lt_of_lt_of_le hi HC3.out.size) (own_apart_lt HO3.out hi)).trans (HC3.out.block i hi h1 h2)⟩
          have HRD4 : Hid (RdB w' rb s y.2 10240) := Lib.hid (extB_block (of_drewE hE) hrn HRD3.out)
          clear e20 hB4 hE e19 cl ct hi hz0 hz1 hz2 hne1 hne2 hne3 hrn
          go_wp2
          have hsz : ∀ u, (cs.setIfInBounds o v).setIfInBounds o u = cs.setIfInBounds o u := fun u => Array.setIfInBounds_setIfInBounds ..
          go_roundg g'
          case rel =>
            exact ⟨m + 1, acc ++ [y.1], y.2, _, by omega, by go_num, HRM3.out, Lib.hid (by have := HLA.out; simp only [len, List.length_append, List.length_singleton] at this ⊢; omega), HLE3.out, block_setCell_ne HRD4.out (by exact fun e => htr e.symm) _, HC4.out.set o _, Lib.hid (by rw [← hsz]; exact block_setCell HB4.out _), own_set HO4.out hts (by simp), fun h0 => by omega⟩
          case measure => omega
      · obtain rfl : m = k := by omega
        have i1 : ¬ ((m : Nat) : Int) < m := by omega
        obtain rfl : gk = 0 := by omega
        go_wp2
        go_end0
        refine ⟨HC.out, ?_⟩
        rw [gmany_ok HR.out (HRM.out.trans (rmany.eq_1 ..))]
        exact ⟨rfl, HRD.out, HLE.out, RecAt.put HCS.out HX.out ho HC.out HB.out (own_ux HO.out hrs hts H0.out)⟩
set_option maxRecDepth 100000 in
set_option maxHeartbeats 4000000 in
theorem many4r_any (B qb rb tb o bx mb gb gf most : Nat) (gc : Array Value) (x0 : Rcd) (T : TypeId) (n : Nat) (s key : ByteArray) (a : Nat) (x : Rcd) (w : World) (rd : Nat → Except Flt (RevD × Nat))
    (h1 : w.heap[bx]? = some (.cells #[.pointer (some ⟨tb, o, none⟩)] 241 (0, 0))) (h2 : w.heap[mb]? = some (.cells #[.int .i64 most] 3 (0, 0))) (h3 : ∃ t, w.heap[gb]? = some (.cells #[.func (.func gf) #[] gc] t (0, 0)))
    (hbr : bx ≠ rb ∧ bx ≠ tb) (hgr : gb ≠ rb ∧ gb ≠ tb) (htr : tb ≠ rb) (hqt : qb ≠ tb) (hBt : B ≤ tb) (ho : o < n) (hm : most ≤ 10240)
    (eg : ∀ args w, (callFunc gf args).run Tryz.prog w = .ok (.enter gf args) w)
    (hget : ∀ w' xb a', Chg rb tb w w' → w.heap.size ≤ xb → w'.heap[xb]? = some (.cells #[.int .u64 0, .int .u64 0, .bool false, .int .u64 0, .slice none 0 0, .slice none 0 0, .string ⟨#[]⟩, .int .u64 0, .int .u64 0, .int .u64 0, .int .u64 0] 48 (0, 0)) → RdEnv B w' qb rb s a' → Calls Tryz.prog gf (#[.pointer (some ⟨qb, 0, none⟩), .pointer (some ⟨xb, 0, none⟩)] ++ gc) w' (ElIs (rd a') (fun d w2 c => ∃ r : Rev, c = r.cells.toArray ∧ RevIs rb xb w2 r d) rb xb 48 s w'))
    (hx : RecAt rb tb T n w x) (hx0 : x o = .revs []) (h : RdEnv B w qb rb s a) :
    Calls Tryz.prog 231 #[.pointer (some ⟨qb, 0, none⟩), .pointer (some ⟨mb, 0, none⟩), .pointer (some ⟨gb, 0, none⟩), .pointer (some ⟨bx, 0, none⟩)] w (GetIs ((gmany s key o most .revs rd).read x a) rb tb T n s w) := by
  have H := Lib.hid h
  have HX := Lib.hid hx
  have HG := Lib.hid hget
  obtain ⟨tg, h3⟩ := h3
  have H1 := Lib.hid h1
  have H3 := Lib.hid h3
  have hrs : rb < w.heap.size := lt_of_block h.r
  have hts : tb < w.heap.size := hx.lt
  have hbs : bx < w.heap.size := lt_of_block h1
  have hgs : gb < w.heap.size := lt_of_block h3
  have c1 : w.cell? ⟨mb, 0, none⟩ = some (.int .i64 most) := block_cell h2 0
  obtain ⟨cs, hcs, hcn, hch⟩ := hx
  have HCS := Lib.hid hcs
  have ho' : o < cs.size := by omega
  have HCN := Lib.hid hcn
  obtain ⟨v0, hv0, hd0⟩ := hch o ho
  rw [hx0] at hd0
  obtain ⟨za, zc, hz1, hz2, -⟩ := hd0
  obtain ⟨rfl, rfl⟩ := hz2 rfl
  have HZ : Hid (cs[o]? = some (.slice none 0 0)) := Lib.hid (by rw [hv0, hz1]; rfl)
  clear h1 h2 h3 h hget hcs hcn hch hv0 hz1 hz2 hx0
  go_enter Tryz.func231, Tryz.ntmps231
  go_wp2_with fail
  refine (lsRead_any B qb rb s a most w H.out).mono ?_
  intro e w1 hh
  cases hr : rlist s most a with
  | error f =>
    rw [hr] at hh
    obtain ⟨fb, rfl, hf, hE⟩ := vIs_err hh
    have HF := Lib.hid hf
    have HE := Lib.hid hE
    have HR : Hid ((gmany s key o most .revs rd).read x a = .error f) := Lib.hid (by simp only [gmany, hr])
    clear hh hf hE hr
    go_wp2
    refine ⟨rfl, ?_⟩
    rw [HR.out]
    exact ⟨Chg.of_ext HE.out, fb, rfl, HF.out, (HX.out.ext HE.out htr).thAt⟩
  | ok kk =>
    rw [hr] at hh
    obtain ⟨rfl, hrd, hle, hE⟩ := vIs_ok hh
    have HRD := Lib.hid hrd
    have HLE := Lib.hid hle
    have hc1 := Chg.of_ext (tb := tb) hE
    have HC1 := Lib.hid hc1
    have HB1 : Hid (w1.heap[tb]? = some (.cells cs T (0, 0))) := Lib.hid ((hE.block _ hts (by simpa using htr)).trans HCS.out)
    have hkm : kk.1 ≤ 10240 := by have := rlist_le hr; omega
    obtain ⟨k, a0⟩ := kk
    have HR := Lib.hid hr
    clear hh hrd hle hE hr hc1
    go_wp2
    clear c1
    go_loopg [9] k (fun g i wr => ∃ (m : Nat) (acc : List RevD) (a' : Nat) (v : Value) (rs : List Rev), g + m = k ∧ i = .int .i64 m ∧ Hid (rmany rd k a0 [] = rmany rd g a' acc) ∧ Hid (len acc = m) ∧ Hid (a' ≤ s.size) ∧ Hid (RdB wr rb s a' 10240) ∧ Hid (Chg rb tb w wr) ∧
      Hid (wr.heap[tb]? = some (.cells (cs.setIfInBounds o v) T (0, 0))) ∧ Hid (wr.ownsRow w.heap.size 48 11 v m (rs.flatMap Rev.cells)) ∧ Hid (m = 0 → v = .slice none 0 0) ∧ Hid (len rs = len acc) ∧ Hid (∀ i, i < len acc → RevIs rb tb wr (rnth rs i) (lth acc i)))
    case atStart =>
      have e : cs.setIfInBounds o (.slice none 0 0) = cs := by
        apply Array.ext'
        rw [Array.toList_setIfInBounds]
        have h6 := HZ.out
        apply List.ext_getElem?
        intro i
        by_cases e2 : i = o
        · subst e2; rw [List.getElem?_set_self (by have := (Array.getElem?_eq_some_iff.1 h6).1; simpa using this)]; simpa using h6.symm
        · rw [List.getElem?_set_ne (fun e3 => e2 e3.symm)]
      exact ⟨0, [], a0, .slice none 0 0, [], rfl, rfl, rfl, rfl, HLE.out, HRD.out, HC1.out, by rw [e]; exact HB1.out, World.ownsRow_nil _ _ _ _, fun _ => rfl, rfl, fun i hi => by simp [len] at hi⟩
    case round =>
      clear HRD HLE HC1 HB1
      obtain ⟨m, acc, a', v, rs, hgm, rfl, HRM, HLA, HLE, HRD, HC, HB, HO, H0, HRL, HRI⟩ := hrel
      have HEV : Hid (RdEnv B wr qb rb s a') := Lib.hid (H.out.chg HC.out hqt hBt HRD.out HLE.out)
      by_cases hlt : m < k
      · have i1 : (m : Int) < k := by omega
        obtain ⟨g', rfl⟩ : ∃ g', gk = g' + 1 := ⟨gk - 1, by omega⟩
        have c3 : (wr.alloc (.cells #[.int .u64 0, .int .u64 0, .bool false, .int .u64 0, .slice none 0 0, .slice none 0 0, .string ⟨#[]⟩, .int .u64 0, .int .u64 0, .int .u64 0, .int .u64 0] 48)).cell? ⟨gb, 0, none⟩ = some (.func (.func gf) #[] gc) := block_cell (block_alloc ((HC.out.block gb hgs hgr.1 hgr.2).trans H3.out) _) 0
        obtain ⟨xb, hxb⟩ : ∃ xb, wr.heap.size = xb := ⟨_, rfl⟩
        have hxw : w.heap.size ≤ xb := by rw [← hxb]; exact HC.out.size
        obtain ⟨wa, hwa⟩ : ∃ wa, wr.alloc (.cells #[.int .u64 0, .int .u64 0, .bool false, .int .u64 0, .slice none 0 0, .slice none 0 0, .string ⟨#[]⟩, .int .u64 0, .int .u64 0, .int .u64 0, .int .u64 0] 48) = wa := ⟨_, rfl⟩
        have HA : Hid (Below wr.heap.size wr wa) := Lib.hid (by rw [← hwa]; exact balloc (Below.refl _ _) _)
        have HXB : Hid (wa.heap[xb]? = some (.cells #[.int .u64 0, .int .u64 0, .bool false, .int .u64 0, .slice none 0 0, .slice none 0 0, .string ⟨#[]⟩, .int .u64 0, .int .u64 0, .int .u64 0, .int .u64 0] 48 (0, 0))) := Lib.hid (by rw [← hwa, ← hxb]; exact heap_alloc_new _ _)
        rw [hwa] at c3
        have HEA : Hid (RdEnv B wa qb rb s a') := Lib.hid (HEV.out.below HA.out)
        go_upto_region 3 with fail
        try rw [hwa]
        try simp only [hxb]
        clear hwa
        go_wp2_with fail
        refine (HG.out wa xb a' (HC.out.next HA.out) hxw HXB.out HEA.out).mono ?_
        intro e w3 hh
        cases hr3 : rd a' with
        | error f =>
          rw [hr3] at hh
          obtain ⟨fb, rfl, hf, hc⟩ := elIs_err hh
          have HF := Lib.hid hf
          have HC3 : Hid (Chg rb tb w w3) := Lib.hid ((HC.out.next HA.out).inner hc hxw)
          have HTH : Hid (ThAt tb T n w3) := Lib.hid ⟨_, (((Chg.of_below HA.out).trans hc).block tb (Nat.lt_of_lt_of_le hts HC.out.size) htr (by omega)).trans HB.out, by rw [Array.size_setIfInBounds]; exact HCN.out⟩
          have HE : Hid (rmany rd k a0 [] = .error f) := Lib.hid (HRM.out.trans (rmany_succ_err hr3))
          clear hh hf hc hr3 c3
          go_wp2
          refine ⟨rfl, ?_⟩
          rw [gmany_err HR.out HE.out]
          exact ⟨HC3.out, fb, rfl, HF.out, HTH.out⟩
        | ok y =>
          rw [hr3] at hh
          obtain ⟨rfl, hc, hrd3, hle3, cx, hx3, r, rfl, hri⟩ := elIs_ok hh
          have hcw : Chg rb xb wr w3 := (Chg.of_below HA.out).trans hc
          have HC3 : Hid (Chg rb tb w w3) := Lib.hid ((HC.out.next HA.out).inner hc hxw)
          have HRM3 : Hid (rmany rd k a0 [] = rmany rd g' y.2 (acc ++ [y.1])) := Lib.hid (HRM.out.trans (rmany_succ_ok hr3))
          have HRD3 := Lib.hid hrd3
          have HLE3 := Lib.hid hle3
          have HX3 := Lib.hid hx3
          have hxs : xb < w3.heap.size := lt_of_block hx3
          have htw : tb < wr.heap.size := Nat.lt_of_lt_of_le hts HC.out.size
          have HB3 : Hid (w3.heap[tb]? = some (.cells (cs.setIfInBounds o v) T (0, 0))) := Lib.hid ((hcw.block tb htw htr (by omega)).trans HB.out)
          have HO3 : Hid (w3.ownsRow w.heap.size 48 11 v m (rs.flatMap Rev.cells)) := Lib.hid (own_chg HO.out hcw hrs (by omega))
          have cl : w3.cell? ⟨bx, 0, none⟩ = some (.pointer (some ⟨tb, o, none⟩)) := block_cell ((HC3.out.block bx hbs hbr.1 hbr.2).trans H1.out) 0
          have ct : w3.cell? ⟨tb, o, none⟩ = some v := by rw [block_cell HB3.out, Array.getElem?_setIfInBounds_self_of_lt ho']
          have cx1 : w3.cell? ⟨xb, 0, none⟩ = some (.int .u64 r.pos) := block_cell hx3 0
          have cx2 : w3.cell? ⟨xb, 1, none⟩ = some (.int .u64 r.L) := block_cell hx3 1
          have cx3 : w3.cell? ⟨xb, 2, none⟩ = some (.bool r.signed) := block_cell hx3 2
          have cx4 : w3.cell? ⟨xb, 3, none⟩ = some (.int .u64 r.idx) := block_cell hx3 3
          have cx5 : w3.cell? ⟨xb, 4, none⟩ = some (.slice r.wa r.wn r.wc) := block_cell hx3 4
          have cx6 : w3.cell? ⟨xb, 5, none⟩ = some (.slice r.pa r.pn r.pc) := block_cell hx3 5
          have cx7 : w3.cell? ⟨xb, 6, none⟩ = some (.string r.root) := block_cell hx3 6
          have cx8 : w3.cell? ⟨xb, 7, none⟩ = some (.int .u64 r.wt) := block_cell hx3 7
          have cx9 : w3.cell? ⟨xb, 8, none⟩ = some (.int .u64 r.first) := block_cell hx3 8
          have cx10 : w3.cell? ⟨xb, 9, none⟩ = some (.int .u64 r.life) := block_cell hx3 9
          have cx11 : w3.cell? ⟨xb, 10, none⟩ = some (.int .u64 r.keys) := block_cell hx3 10
          have hne1 : some bx ≠ v.ownBlock := own_apart_lt HO3.out hbs
          have hne2 : some tb ≠ v.ownBlock := own_apart_lt HO3.out hts
          have hne3 : some xb ≠ v.ownBlock := own_apart_ge HO.out (by omega)
          have hrn : some rb ≠ v.ownBlock := own_apart_lt HO3.out hrs
          obtain ⟨i0, hi, hz0, hz1, hz2⟩ := info_parts info_rev
          have hmk : m < 10240 := by omega
          have hws : w.heap.size ≤ w3.heap.size := HC3.out.size
          have HRI3 : Hid (∀ i, i < len (acc ++ [y.1]) → RevIs rb tb w3 (rnth (rs ++ [r]) i) (lth (acc ++ [y.1]) i)) := Lib.hid (fun i hi => by
            have hl1 : rs.length = acc.length := HRL.out
            have hl2 : i < acc.length + 1 := by simpa [len] using hi
            by_cases e : i < acc.length
            · have e1 : rnth (rs ++ [r]) i = rnth rs i := by rw [rnth_eq _ i (by simp; omega), rnth_eq _ i (by omega), List.getElem_append_left (by omega)]
              have e2 : lth (acc ++ [y.1]) i = lth acc i := by rw [lth_eq _ i (by simp; omega), lth_eq _ i (by omega), List.getElem_append_left (by omega)]
              rw [e1, e2]
              exact (HRI.out i e).chgNew hcw (by omega)
            · obtain rfl : i = acc.length := by omega
              have e1 : rnth (rs ++ [r]) acc.length = r := by rw [rnth_eq _ _ (by simp; omega), List.getElem_append_right (by omega)]; simp [hl1]
              have e2 : lth (acc ++ [y.1]) acc.length = y.1 := by rw [lth_eq _ _ (by simp), List.getElem_append_right (by omega)]; simp
              rw [e1, e2]
              exact hri.outer (by omega))
          clear hh hc hcw hrd3 hle3 hx3 hr3 c3 HB HO HRM HRD HLE HXB HEA HEV
          go_upto_region 4 with fail
          refine wp_region_tail 8 6 (v.ownBlock) (phis [fun u _ => u = (.pointer (some ⟨tb, o, none⟩)), fun u _ => u = (.pointer (some ⟨tb, o, none⟩)), fun u _ => u = (.pointer (some ⟨tb, o, none⟩)), fun u _ => u = (v), fun u _ => u = (r.val), fun u w' => ∃ b, u = .slice (some ⟨b, 0, none⟩) 1 1 ∧ some b ≠ v.ownBlock ∧ w'.heap[b]? = some (.cells r.cells.toArray 48 (0, 0)), fun u w' => w'.ownsRow w.heap.size 48 11 u (m + 1) ((rs.flatMap Rev.cells) ++ r.cells), fun u _ => u = (.pointer (some ⟨tb, o, none⟩))]) rfl (by kernel_rfl) (by kernel_rfl) (mono_of ⟨mono_eq, mono_eq, mono_eq, mono_eq, mono_eq, ?m5, ?m6, mono_eq, trivial⟩) (steps_of 8 ⟨?s0, ?s1, ?s2, ?s3, ?s4, ?s5, ?s6, ?s7, trivial⟩) ?_
          case m5 =>
            exact ⟨fun u w1 w' h ⟨b, h1, hb, hb'⟩ => ⟨b, h1, hb, ext_block h hb'⟩, fun _ u w1 w' h ⟨b, h1, hb, hb'⟩ => ⟨b, h1, hb, extB_block h hb hb'⟩⟩
          case m6 =>
            exact ⟨fun u w1 w' h hu => own_below hu h, fun hn => absurd rfl hn⟩
          case s0 =>
            refine step_val (v := (.pointer (some ⟨tb, o, none⟩))) (fun av wv hE hS hO hD => ?_) (fun _ => rfl)
            have h3 : av.eval (.tmp 3) = (.pointer (some ⟨bx, 0, none⟩)) := hO.2.2 3 rfl
            have f3 := (ev_form av 3).symm.trans h3
            have cl := extB_cell hE hne1 cl
            have ct := extB_cell hE hne2 ct
            have cx1 := extB_cell hE hne3 cx1
            have cx2 := extB_cell hE hne3 cx2
            have cx3 := extB_cell hE hne3 cx3
            have cx4 := extB_cell hE hne3 cx4
            have cx5 := extB_cell hE hne3 cx5
            have cx6 := extB_cell hE hne3 cx6
            have cx7 := extB_cell hE hne3 cx7
            have cx8 := extB_cell hE hne3 cx8
            have cx9 := extB_cell hE hne3 cx9
            have cx10 := extB_cell hE hne3 cx10
            have cx11 := extB_cell hE hne3 cx11
            refine ⟨rfl, ?_⟩
            simp [go_sem, f3, cl, ct, cx1, cx2, cx3, cx4, cx5, cx6, cx7, cx8, cx9, cx10, cx11]
          case s1 =>
            refine step_val (v := (.pointer (some ⟨tb, o, none⟩))) (fun av wv hE hS hO hD => ?_) (fun _ => rfl)
            have h3 : av.eval (.tmp 3) = (.pointer (some ⟨bx, 0, none⟩)) := hO.2.2 3 rfl
            have f3 := (ev_form av 3).symm.trans h3
            have cl := extB_cell hE hne1 cl
            have ct := extB_cell hE hne2 ct
            have cx1 := extB_cell hE hne3 cx1
            have cx2 := extB_cell hE hne3 cx2
            have cx3 := extB_cell hE hne3 cx3
            have cx4 := extB_cell hE hne3 cx4
            have cx5 := extB_cell hE hne3 cx5
            have cx6 := extB_cell hE hne3 cx6
            have cx7 := extB_cell hE hne3 cx7
            have cx8 := extB_cell hE hne3 cx8
            have cx9 := extB_cell hE hne3 cx9
            have cx10 := extB_cell hE hne3 cx10
            have cx11 := extB_cell hE hne3 cx11
            refine ⟨rfl, ?_⟩
            simp [go_sem, f3, cl, ct, cx1, cx2, cx3, cx4, cx5, cx6, cx7, cx8, cx9, cx10, cx11]
          case s2 =>
            refine step_val (v := (.pointer (some ⟨tb, o, none⟩))) (fun av wv hE hS hO hD => ?_) (fun _ => rfl)
            have d15 : av.eval (.tmp 15) = (.pointer (some ⟨tb, o, none⟩)) := hD.1 rfl _ rfl
            have f15 := (ev_form av 15).symm.trans d15
            refine ⟨rfl, ?_⟩
            simp [go_sem, f15]
          case s3 =>
            refine step_val (v := (v)) (fun av wv hE hS hO hD => ?_) (fun _ => rfl)
            have d16 : av.eval (.tmp 16) = (.pointer (some ⟨tb, o, none⟩)) := hD.1 rfl _ rfl
            have f16 := (ev_form av 16).symm.trans d16
            have cl := extB_cell hE hne1 cl
            have ct := extB_cell hE hne2 ct
            have cx1 := extB_cell hE hne3 cx1
            have cx2 := extB_cell hE hne3 cx2
            have cx3 := extB_cell hE hne3 cx3
            have cx4 := extB_cell hE hne3 cx4
            have cx5 := extB_cell hE hne3 cx5
            have cx6 := extB_cell hE hne3 cx6
            have cx7 := extB_cell hE hne3 cx7
            have cx8 := extB_cell hE hne3 cx8
            have cx9 := extB_cell hE hne3 cx9
            have cx10 := extB_cell hE hne3 cx10
            have cx11 := extB_cell hE hne3 cx11
            refine ⟨rfl, ?_⟩
            simp [go_sem, f16, cl, ct, cx1, cx2, cx3, cx4, cx5, cx6, cx7, cx8, cx9, cx10, cx11]
          case s4 =>
            refine step_val (v := (r.val)) (fun av wv hE hS hO hD => ?_) (fun _ => rfl)
            have h5 : av.eval (.tmp 5) = (.pointer (some ⟨xb, 0, none⟩)) := hO.2.2 5 rfl
            have f5 := (ev_form av 5).symm.trans h5
            have cl := extB_cell hE hne1 cl
            have ct := extB_cell hE hne2 ct
            have cx1 := extB_cell hE hne3 cx1
            have cx2 := extB_cell hE hne3 cx2
            have cx3 := extB_cell hE hne3 cx3
            have cx4 := extB_cell hE hne3 cx4
            have cx5 := extB_cell hE hne3 cx5
            have cx6 := extB_cell hE hne3 cx6
            have cx7 := extB_cell hE hne3 cx7
            have cx8 := extB_cell hE hne3 cx8
            have cx9 := extB_cell hE hne3 cx9
            have cx10 := extB_cell hE hne3 cx10
            have cx11 := extB_cell hE hne3 cx11
            refine ⟨rfl, ?_⟩
            simp [go_sem, f5, cl, ct, cx1, cx2, cx3, cx4, cx5, cx6, cx7, cx8, cx9, cx10, cx11]
          case s5 =>
            refine step_wp (fun av wv hE hS hO hD => ?_)
            have d18 : av.eval (.tmp 18) = (r.val) := hD.1 rfl _ rfl
            have f18 := (ev_form av 18).symm.trans d18
            refine ⟨rfl, ?_⟩
            refine wp_of_run (v := .slice (some ⟨wv.heap.size, 0, none⟩) 1 1) (w' := wv.alloc (.cells r.cells.toArray 48)) (by simp [go_sem, f18, Rev.cells]) ⟨_, rfl, es_of_ext (balloc (Ext_refl _) _), wv.heap.size, rfl, ?_, heap_alloc_new _ _⟩
            exact own_apart_ge HO3.out (by have := hE.size; simp at this; omega)
          case s6 =>
            refine step_wp (fun av wv hE hS hO hD => ?_)
            have d17 : av.eval (.tmp 17) = (v) := hD.1 rfl _ rfl
            have f17 := (ev_form av 17).symm.trans d17
            have d19 : (fun u w' => ∃ b, u = .slice (some ⟨b, 0, none⟩) 1 1 ∧ some b ≠ v.ownBlock ∧ w'.heap[b]? = some (.cells r.cells.toArray 48 (0, 0))) (av.eval (.tmp 19)) wv := hD.2.1 rfl _ rfl
            refine ⟨rfl, ?_⟩
            obtain ⟨b19, h19, hb19, hc19⟩ := d19
            have hown1 : wv.ownsRow w.heap.size 48 11 v m (rs.flatMap Rev.cells) := own_below (w := w3.drew) HO3.out (hS rfl)
            refine wp_append_lies wv _ _ _ rfl w.heap.size 48 i0 (.agg Rev.zero.cells.toArray) 11 128 Tryz.underlying24 hi hz0 hz1 hz2 rfl (by decide) v m _ d17 hown1 ⟨b19, 0, none⟩ 1 1 r.cells (by exact h19) rfl (World.news_of_block hc19) (by intro u hu; simp [Rev.cells] at hu; rcases hu with rfl | rfl | rfl | rfl | rfl | rfl | rfl | rfl | rfl | rfl | rfl <;> rfl) (by decide) (by unfold maxLen; omega) (by omega) (by have := hE.size; simp at this; omega) _ rfl ?_
            intro g2 cap2 w2 hown2 hgrow hat hlt2
            exact ⟨_, rfl, es_sp hgrow, hown2⟩
          case s7 =>
            refine step_val (v := (.pointer (some ⟨tb, o, none⟩))) (fun av wv hE hS hO hD => ?_) (fun _ => rfl)
            have d14 : av.eval (.tmp 14) = (.pointer (some ⟨tb, o, none⟩)) := hD.1 rfl _ rfl
            have f14 := (ev_form av 14).symm.trans d14
            refine ⟨rfl, ?_⟩
            simp [go_sem, f14]
          intro a' w' hE hO hall
          have hA := act_of_outer (ds := [14, 15, 16, 17, 18, 19, 20, 21]) rfl hO (by kernel_rfl)
          have e14 : (fun u _ => u = (.pointer (some ⟨tb, o, none⟩))) (a'.eval (.tmp 14)) w' := hall.1 _ rfl
          have e15 : (fun u _ => u = (.pointer (some ⟨tb, o, none⟩))) (a'.eval (.tmp 15)) w' := hall.2.1 _ rfl
          have e16 : (fun u _ => u = (.pointer (some ⟨tb, o, none⟩))) (a'.eval (.tmp 16)) w' := hall.2.2.1 _ rfl
          have e17 : (fun u _ => u = (v)) (a'.eval (.tmp 17)) w' := hall.2.2.2.1 _ rfl
          have e18 : (fun u _ => u = (r.val)) (a'.eval (.tmp 18)) w' := hall.2.2.2.2.1 _ rfl
          have e19 : (fun u w' => ∃ b, u = .slice (some ⟨b, 0, none⟩) 1 1 ∧ some b ≠ v.ownBlock ∧ w'.heap[b]? = some (.cells r.cells.toArray 48 (0, 0))) (a'.eval (.tmp 19)) w' := hall.2.2.2.2.2.1 _ rfl
          have e20 : (fun u w' => w'.ownsRow w.heap.size 48 11 u (m + 1) ((rs.flatMap Rev.cells) ++ r.cells)) (a'.eval (.tmp 20)) w' := hall.2.2.2.2.2.2.1 _ rfl
          have e21 : (fun u _ => u = (.pointer (some ⟨tb, o, none⟩))) (a'.eval (.tmp 21)) w' := hall.2.2.2.2.2.2.2.1 _ rfl
          obtain ⟨v19, hv19⟩ : ∃ v, a'.eval (.tmp 19) = v := ⟨_, rfl⟩
          rw [hv19] at e19
          obtain ⟨v20, hv20⟩ : ∃ v, a'.eval (.tmp 20) = v := ⟨_, rfl⟩
          rw [hv20] at e20
          simp only [List.foldl_cons, List.foldl_nil, Act.put, List.setIfInBounds_toArray, List.set_cons_succ, List.set_cons_zero, e14, e15, e16, e17, e18, hv19, hv20, e21] at hA
          clear hO hall e14 e15 e16 e17 e18 hv19 hv20 e21
          subst hA
          obtain ⟨g2, cap2, rfl, hg1, hg2⟩ := e20.form (by omega)
          have hB4 : w'.heap[tb]? = some (.cells (cs.setIfInBounds o v) T (0, 0)) := extB_block (of_drewE hE) hne2 HB3.out
          have hf4 : w'.frozen? ⟨tb, o, none⟩ = false := block_free hB4 o
          have q4 : w'.cell? ⟨tb, o, none⟩ = some v := by rw [block_cell hB4, Array.getElem?_setIfInBounds_self_of_lt ho']
          have HO4 := Lib.hid e20
          have HB4 := Lib.hid hB4
          have HC4 : Hid (Chg rb tb w w') := Lib.hid ⟨(of_drewE hE).os.trans HC3.out.os, (of_drewE hE).tape.trans HC3.out.tape, (of_drewE hE).output.trans HC3.out.output, Nat.le_trans HC3.out.size (of_drewE hE).size, fun i hi h1 h2 => ((of_drewE hE).block i (Nat.lt_of_lt_of_le hi HC3.out.size) (own_apart_lt HO3.out hi)).trans (HC3.out.block i hi h1 h2)⟩
          have HRD4 : Hid (RdB w' rb s y.2 10240) := Lib.hid (extB_block (of_drewE hE) hrn HRD3.out)
          have HRI4 : Hid (∀ i, i < len (acc ++ [y.1]) → RevIs rb tb w' (rnth (rs ++ [r]) i) (lth (acc ++ [y.1]) i)) := Lib.hid (fun i hi => (HRI3.out i hi).ext (of_drewE hE) (fun k hk => by obtain ⟨cs2, h5⟩ := own_type HO3.out k hk; exact ⟨cs2, _, h5, by decide⟩))
          clear e20 hB4 hE e19 cl ct hi hz0 hz1 hz2 hne1 hne2 hne3 hrn
          go_wp2
          have hsz : ∀ u, (cs.setIfInBounds o v).setIfInBounds o u = cs.setIfInBounds o u := fun u => Array.setIfInBounds_setIfInBounds ..
          go_roundg g'
          case rel =>
            exact ⟨m + 1, acc ++ [y.1], y.2, _, rs ++ [r], by omega, by go_num, HRM3.out, Lib.hid (by have := HLA.out; simp only [len, List.length_append, List.length_singleton] at this ⊢; omega), HLE3.out, block_setCell_ne HRD4.out (by exact fun e => htr e.symm) _, HC4.out.set o _, Lib.hid (by rw [← hsz]; exact block_setCell HB4.out _), own_set HO4.out hts (by simp), fun h0 => by omega, Lib.hid (by have := HRL.out; simp only [len, List.length_append, List.length_singleton] at this ⊢; omega), Lib.hid (fun i hi => (HRI4.out i hi).chg ((Chg.refl rb tb w').set o _))⟩
          case measure => omega
      · obtain rfl : m = k := by omega
        have i1 : ¬ ((m : Nat) : Int) < m := by omega
        obtain rfl : gk = 0 := by omega
        go_wp2
        go_end0
        refine ⟨HC.out, ?_⟩
        rw [gmany_ok HR.out (HRM.out.trans (rmany.eq_1 ..))]
        exact ⟨rfl, HRD.out, HLE.out, RecAt.put HCS.out HX.out ho HC.out HB.out (own_rx HO.out hrs hts H0.out HRL.out HRI.out)⟩
end Go.Proofs.YtihiaopilnjonaaGreatDoor
namespace Go.Proofs.YtihiaopilnjonaaGreatDoor
set_option linter.unusedSimpArgs false
set_option linter.unusedVariables false
open Go.RowKit Go.ChangeMaps
theorem ba_beq (a b : ByteArray) : (a == b) = decide (a = b) := by
  show ByteArray.instBEq.beq a b = _
  obtain ⟨x⟩ := a
  obtain ⟨y⟩ := b
  have h : ByteArray.instBEq.beq (⟨x⟩ : ByteArray) ⟨y⟩ = (x == y) := rfl
  rw [h]
  by_cases e : x = y
  · subst e; simp
  · have : (x == y) = false := by simpa using e
    rw [this]; symm; rw [decide_eq_false_iff_not]; intro h2; cases h2; exact e rfl
instance : LawfulBEq ByteArray where
  rfl := by intro a; rw [ba_beq]; exact decide_eq_true rfl
  eq_of_beq := by intro a b h; rw [ba_beq] at h; exact of_decide_eq_true h
def sents : Nat → List (ByteArray × Value) → List MapEntry
  | _, [] => []
  | n, p :: r => ⟨.string p.1, p.2, n⟩ :: sents (n + 1) r
def smObj (l : List (ByteArray × Value)) : Obj := .map (sents 0 l).toArray l.length
def smGet (l : List (ByteArray × Value)) (k : ByteArray) : Option Value := (l.find? (fun p => p.1 == k)).map (·.2)
def smPut : List (ByteArray × Value) → ByteArray → Value → List (ByteArray × Value)
  | [], k, v => [(k, v)]
  | p :: r, k, v => if p.1 = k then (k, v) :: r else p :: smPut r k v
theorem sents_get : ∀ (n : Nat) (l : List (ByteArray × Value)) (i : Nat) (h : i < l.length), (sents n l)[i]? = some ⟨.string l[i].1, l[i].2, n + i⟩
  | n, p :: r, 0, _ => rfl
  | n, p :: r, i + 1, h => by
    simp only [sents, List.getElem?_cons_succ, List.getElem_cons_succ]
    rw [sents_get (n + 1) r i (by simpa using h)]
    congr 2; omega
theorem sents_snoc (k : ByteArray) (v : Value) : ∀ (n : Nat) (l : List (ByteArray × Value)), sents n (l ++ [(k, v)]) = sents n l ++ [⟨.string k, v, n + l.length⟩]
  | n, [] => rfl
  | n, p :: r => by
    simp only [List.cons_append, sents, sents_snoc k v (n + 1) r, List.length_cons]
    congr 4; omega
theorem sfindNow_ents (k : ByteArray) : ∀ (n m : Nat) (l : List (ByteArray × Value)),
    Instr.findNow .string (.string k) (sents n l) m = some (((l.zipIdx m).find? (fun p => p.1.1 == k)).map (fun p => (p.2, p.1.2)))
  | _, _, [] => rfl
  | n, m, p :: r => by
    simp only [sents, Instr.findNow, Instr.sameNow, if_true, List.zipIdx_cons, List.find?_cons]
    by_cases h : p.1 = k
    · subst h; simp
    · have h1 : (k == p.1) = false := by simpa using fun e => h e.symm
      have h2 : (p.1 == k) = false := by simpa using h
      simp only [h1, h2, sfindNow_ents k (n + 1) (m + 1) r]
theorem szip_find_val (k : ByteArray) : ∀ (m : Nat) (l : List (ByteArray × Value)), (((l.zipIdx m).find? (fun p => p.1.1 == k)).map (fun p => p.1.2)) = smGet l k
  | _, [] => rfl
  | m, p :: r => by
    simp only [smGet, List.zipIdx_cons, List.find?_cons]
    by_cases h : (p.1 == k) = true
    · simp [h]
    · simp only [Bool.not_eq_true] at h
      simp only [h]
      exact szip_find_val k (m + 1) r
theorem szip_find_none (k : ByteArray) (v : Value) : ∀ (m : Nat) (l : List (ByteArray × Value)), (l.zipIdx m).find? (fun p => p.1.1 == k) = none → smPut l k v = l ++ [(k, v)]
  | _, [], _ => rfl
  | m, p :: r, h => by
    simp only [List.zipIdx_cons, List.find?_cons] at h
    by_cases h1 : (p.1 == k) = true
    · simp [h1] at h
    · simp only [Bool.not_eq_true] at h1
      simp only [h1] at h
      have h2 : ¬ p.1 = k := by simpa using h1
      simp only [smPut, h2, if_false, List.cons_append, szip_find_none k v (m + 1) r h]
theorem szip_find_some (k : ByteArray) (v : Value) : ∀ (n m : Nat) (l : List (ByteArray × Value)) (i : Nat) (x : Value),
    ((l.zipIdx m).find? (fun p => p.1.1 == k)).map (fun p => (p.2, p.1.2)) = some (i, x) →
    m ≤ i ∧ ∃ h : i - m < l.length, l[i - m].1 = k ∧ (sents n l).modify (i - m) (fun e => { e with key := .string k, val := v }) = sents n (smPut l k v) ∧ (smPut l k v).length = l.length
  | n, m, p :: r, i, x, h => by
    simp only [List.zipIdx_cons, List.find?_cons] at h
    by_cases h1 : (p.1 == k) = true
    · simp only [h1] at h
      simp at h
      obtain ⟨rfl, rfl⟩ := h
      have h2 : p.1 = k := by simpa using h1
      refine ⟨Nat.le_refl _, by simp, by simpa using h2, ?_, ?_⟩
      · simp [sents, smPut, h2]
      · simp [smPut, h2]
    · simp only [Bool.not_eq_true] at h1
      simp only [h1] at h
      have h2 : ¬ p.1 = k := by simpa using h1
      obtain ⟨a, b, c, d, e⟩ := szip_find_some k v (n + 1) (m + 1) r i x h
      have e1 : i - m = (i - (m + 1)) + 1 := by omega
      refine ⟨by omega, by simp; omega, ?_, ?_, ?_⟩
      · simp only [e1, List.getElem_cons_succ]; exact c
      · simp only [e1, sents, smPut, h2, if_false, List.modify_succ_cons, d]
      · simp only [smPut, h2, if_false, List.length_cons, e]
section
open Go.MapKept
variable {P : Program} {K E t : TypeId} {w : World} {b : Nat} {l : List (ByteArray × Value)}
theorem sisKey_int (k : ByteArray) : IsKey .string (.string k) := by simp [IsKey]
theorem srun_lookup_m (ht : P.underlying t = some (.map K E)) (hK : P.underlying K = some .string) {z : Value} (hz : (zeroValue E).run P w = .ok z w) (hb : w.heap[b]? = some (smObj l)) (k : ByteArray) :
    (Instr.lookup t (.map (some b)) (.string k) false).run P w = .ok ((smGet l k).getD z) w := by
  unfold smObj at hb
  rw [← szip_find_val k 0 l]
  simp only [Instr.lookup, run_underlying ht, MapKept.run_getObj_map hb, MapKept.run_checkKey hK (sisKey_int k), MapKept.run_findKey hK (sfindNow_ents k 0 0 l), Result.andThen, Sem.run_bind, Sem.run_pure]
  cases h : (l.zipIdx 0).find? (fun p => p.1.1 == k) <;> simp [hz, Result.andThen]
theorem srun_mapUpdate_m (ht : P.underlying t = some (.map K E)) (hK : P.underlying K = some .string) (hb : w.heap[b]? = some (smObj l)) (k : ByteArray) (v : Value) :
    (Instr.mapUpdate t (.map (some b)) (.string k) v).run P w = .ok () (setBlock w b (smObj (smPut l k v))) := by
  have hb0 := hb
  unfold smObj at hb
  cases h : (l.zipIdx 0).find? (fun p => p.1.1 == k) with
  | none =>
    simp only [Instr.mapUpdate, run_underlying ht, MapKept.run_getObj_map hb, MapKept.run_checkKey hK (sisKey_int k), MapKept.run_findKey hK (sfindNow_ents k 0 0 l), h, Result.andThen, Sem.run_bind, Sem.run_pure, Option.map_none, MapKept.run_setObj_map _ hb]
    rw [szip_find_none k v 0 l h]
    unfold smObj setBlock
    rw [sents_snoc, Nat.zero_add]
    simp
  | some p =>
    obtain ⟨_, h1, h2, h3, h4⟩ := szip_find_some k v 0 0 l p.2 p.1.2 (by rw [h]; rfl)
    have h5 : (((sents 0 l).toArray[p.2]?).map (·.key)).getD (.string k) = .string k := by
      have := sents_get 0 l p.2 (by simpa using h1)
      simp only [List.getElem?_toArray, this, Option.map_some, Option.getD_some]
      have h2' : l[p.2].1 = k := h2
      rw [h2']
    simp only [Instr.mapUpdate, run_underlying ht, MapKept.run_getObj_map hb, MapKept.run_checkKey hK (sisKey_int k), MapKept.run_findKey hK (sfindNow_ents k 0 0 l), h, Result.andThen, Sem.run_bind, Sem.run_pure, Option.map_some, MapKept.run_setObj_map _ hb, h5, MapKept.run_keyThatStays (sisKey_int k)]
    unfold smObj setBlock
    rw [h4, ← h3]
    simp
section
variable {ops : Array Oper} {rest : List Oper} {o : Oper} {a : Act} {Q : Exit → Act → World → Prop}
theorem swpList_mapUpdate_m (hg : o.guard = none) (m x v : Operand) (t K E : TypeId) (hop : o.op = Op.mapUpdate t m x v) (ht : P.underlying t = some (.map K E)) (hK : P.underlying K = some .string)
    (b : Nat) (l : List (ByteArray × Value)) (hm : a.eval m = .map (some b)) (hb : w.heap[b]? = some (smObj l)) (k : ByteArray) (val : Value) (hx : a.eval x = .string k) (hv : a.eval v = val)
    (hN : wpList P ops Q rest (a.put o.dst undef) (setBlock w b (smObj (smPut l k val)))) : wpList P ops Q (o :: rest) a w := by
  refine wpList_plain hg fun K' hK' => ?_
  unfold Oper.wp
  simp [execOp, hop, hm, hx, hv, srun_mapUpdate_m ht hK hb, Result.andThen]
  exact hK' _ _ hN
end
end
end Go.Proofs.YtihiaopilnjonaaGreatDoor
namespace Go.Proofs.YtihiaopilnjonaaGreatDoor
open Go.RowKit Go.ChangeMaps Go.MapKept
set_option linter.unusedSimpArgs false
set_option linter.unusedVariables false
theorem smGet_cons (p : ByteArray × Value) (l : List (ByteArray × Value)) (k : ByteArray) : smGet (p :: l) k = if p.1 = k then some p.2 else smGet l k := by
  unfold smGet
  rw [List.find?_cons]
  by_cases h : p.1 = k
  · simp [h]
  · have : (p.1 == k) = false := by simpa using h
    simp [h, this]
theorem smGet_smPut (l : List (ByteArray × Value)) (k j : ByteArray) (v : Value) : smGet (smPut l k v) j = if k = j then some v else smGet l j := by
  induction l with
  | nil => rw [smPut, smGet_cons]
  | cons p r ih =>
    unfold smPut
    by_cases h : p.1 = k
    · rw [if_pos h, smGet_cons, smGet_cons]
      by_cases h2 : k = j
      · simp [h2]
      · have : ¬ p.1 = j := fun e => h2 (h.symm.trans e)
        simp [h2, this]
    · rw [if_neg h, smGet_cons, smGet_cons, ih]
      by_cases h2 : k = j
      · have : ¬ p.1 = j := fun e => h (e.trans h2.symm)
        simp [h2, this]
      · simp [h2]
def KeysOk (gs : List GSpec) : Prop := ∀ i j, i < gs.length → j < gs.length → (gth gs i).key = (gth gs j).key → i = j
def Disj (gs : List GSpec) : Prop := ∀ i j, i < gs.length → j < gs.length → i ≠ j → ∀ o, o ∈ (gth gs i).offs → o ∉ (gth gs j).offs
def SeenIs (gs : List GSpec) (L : List (ByteArray × Value)) (seen : List Nat) : Prop := ∀ i, i < gs.length → smGet L (gth gs i).key = if i ∈ seen then some (.int .i64 1) else none
theorem SeenIs.put {gs : List GSpec} {L : List (ByteArray × Value)} {seen : List Nat} (h : SeenIs gs L seen) (hk : KeysOk gs) {j : Nat} (hj : j < gs.length) : SeenIs gs (smPut L (gth gs j).key (.int .i64 1)) (j :: seen) := fun i hi => by
  rw [smGet_smPut]
  by_cases e : (gth gs j).key = (gth gs i).key
  · have := hk j i hj hi e
    subst this
    rw [if_pos rfl, if_pos (List.mem_cons_self ..)]
  · rw [if_neg e, h i hi]
    have : i ≠ j := fun e2 => e (by rw [e2])
    by_cases hm : i ∈ seen
    · rw [if_pos hm, if_pos (List.mem_cons_of_mem _ hm)]
    · rw [if_neg hm, if_neg (by simp [this, hm])]
theorem Flds.chg {rb tb : Nat} {w w' : World} {b off : Nat} {l : List FVal} (h : Flds w (some ⟨b, off, none⟩) l) (hc : Chg rb tb w w') (h1 : b ≠ rb) (h2 : b ≠ tb) : Flds w' (some ⟨b, off, none⟩) l := fun i hi => by
  obtain ⟨b', off', e, h3⟩ := h i hi
  cases e
  have hb := hc.block b (lt_of_cell h3.c0) h1 h2
  have e : ∀ q, w'.cell? ⟨b, q, none⟩ = w.cell? ⟨b, q, none⟩ := fun q => World.cell?_of_block (w := w) hb
  obtain ⟨c0, c1, c2, c3, c4, c5⟩ := h3
  exact ⟨b, off, rfl, by constructor <;> (rw [e]; assumption)⟩
theorem Chg.setBlock {rb tb : Nat} {a b : World} (h : Chg rb tb a b) {k : Nat} (hk : a.heap.size ≤ k) (x : Obj) : Chg rb tb a (setBlock b k x) :=
  ⟨h.os, h.tape, h.output, by show a.heap.size ≤ (b.heap.setIfInBounds k x).size; rw [Array.size_setIfInBounds]; exact h.size, fun i hi h1 h2 => by
    show (b.heap.setIfInBounds k x)[i]? = _
    rw [Array.getElem?_setIfInBounds_ne (by omega)]; exact h.block i hi h1 h2⟩
set_option maxRecDepth 100000 in
theorem says_key (kb : Nat) (k : ByteArray) (w : World) (l : List FVal) (h : w.heap[kb]? = some (.cells #[.string k] 9 (0, 0))) : SaysF w l 203 #[.pointer (some ⟨kb, 0, none⟩)] (fun i => (fth l i).key.toList == k.toList) := by
  refine ⟨enters_of Tryz.func203 (by kernel_rfl) rfl, fun i hi w' hb => ?_⟩
  have c0 : w'.cell? ⟨kb, 0, none⟩ = some (.string k) := block_cell ((hb.block _ (lt_of_block h)).trans h) 0
  clear h
  show Calls Tryz.prog _ _ _ (fun e w'' => e = .returned (.bool ((fth l i).key.toList == k.toList)) ∧ Below w'.heap.size w' w'')
  generalize fth l i = v
  show Calls Tryz.prog 203 #[v.val, .pointer (some ⟨kb, 0, none⟩)] w' (fun e w'' => e = .returned (.bool (v.key.toList == k.toList)) ∧ Below w'.heap.size w' w'')
  unfold FVal.val
  have hz : kb < w'.heap.size := lt_of_cell c0
  go_enter Tryz.func203, Tryz.ntmps203
  go_upto_region 1 with fail
  obtain ⟨vb, hvb⟩ : ∃ vb, w'.heap.size = vb := ⟨_, rfl⟩
  obtain ⟨V, hV⟩ : ∃ V, w'.alloc (.cells #[.string v.key, .bool v.must, .func (.func v.ef) #[] v.ec, .func (.func v.mf) #[] v.mc, .func (.func v.pf) #[] v.pc, .func (.func v.gf) #[] v.gc] 172) = V := ⟨_, rfl⟩
  have HBV : Hid (Below w'.heap.size w' V) := Lib.hid (by rw [← hV]; exact balloc (Below.refl _ _) _)
  have hbk : V.heap[vb]? = some (.cells #[.string v.key, .bool v.must, .func (.func v.ef) #[] v.ec, .func (.func v.mf) #[] v.mc, .func (.func v.pf) #[] v.pc, .func (.func v.gf) #[] v.gc] 172 (0, 0)) := by rw [← hV, ← hvb]; exact heap_alloc_new _ _
  have d0 : V.cell? ⟨kb, 0, none⟩ = some (.string k) := by rw [World.cell?_of_block (w := w') (HBV.out.block kb hz)]; exact c0
  have d1 : V.cell? ⟨vb, 0, none⟩ = some (.string v.key) := block_cell hbk 0
  try rw [hV]
  try simp only [hvb]
  clear hV c0 hbk hb
  go_wp2
  go_ret
  exact ⟨rfl, HBV.out⟩
set_option maxRecDepth 100000 in
theorem says_seen (sb mb : Nat) (L : List (ByteArray × Value)) (w : World) (l : List FVal) (hL : ∀ i, i < len l → smGet L (fth l i).key = none ∨ smGet L (fth l i).key = some (.int .i64 1)) (h1 : w.heap[sb]? = some (.cells #[.map (some mb)] 276 (0, 0))) (h2 : w.heap[mb]? = some (smObj L)) : SaysF w l 205 #[.pointer (some ⟨sb, 0, none⟩)] (fun i => (fth l i).must && (smGet L (fth l i).key).isNone) := by
  refine ⟨enters_of Tryz.func205 (by kernel_rfl) rfl, fun i hi w' hb => ?_⟩
  have c0 : w'.cell? ⟨sb, 0, none⟩ = some (.map (some mb)) := block_cell ((hb.block _ (lt_of_block h1)).trans h1) 0
  have c1 := (hb.block _ (lt_of_block h2)).trans h2
  clear h1 h2
  have hLi := hL i hi
  show Calls Tryz.prog _ _ _ (fun e w'' => e = .returned (.bool ((fth l i).must && (smGet L (fth l i).key).isNone)) ∧ Below w'.heap.size w' w'')
  generalize fth l i = v at hLi
  show Calls Tryz.prog 205 #[v.val, .pointer (some ⟨sb, 0, none⟩)] w' (fun e w'' => e = .returned (.bool (v.must && (smGet L v.key).isNone)) ∧ Below w'.heap.size w' w'')
  unfold FVal.val
  have hrun := fun (W : World) (hW : W.heap[mb]? = some (smObj L)) => srun_lookup_m (P := Tryz.prog) (t := 276) (K := 9) (E := 3) Tryz.underlying276 Tryz.underlying9 (Tryz.zeroValue3 W) hW v.key
  have hz : sb < w'.heap.size := lt_of_cell c0
  have hz2 : mb < w'.heap.size := lt_of_block c1
  go_enter Tryz.func205, Tryz.ntmps205
  go_upto_region 1 with fail
  obtain ⟨vb, hvb⟩ : ∃ vb, w'.heap.size = vb := ⟨_, rfl⟩
  obtain ⟨V, hV⟩ : ∃ V, w'.alloc (.cells #[.string v.key, .bool v.must, .func (.func v.ef) #[] v.ec, .func (.func v.mf) #[] v.mc, .func (.func v.pf) #[] v.pc, .func (.func v.gf) #[] v.gc] 172) = V := ⟨_, rfl⟩
  have HBV : Hid (Below w'.heap.size w' V) := Lib.hid (by rw [← hV]; exact balloc (Below.refl _ _) _)
  have hbk : V.heap[vb]? = some (.cells #[.string v.key, .bool v.must, .func (.func v.ef) #[] v.ec, .func (.func v.mf) #[] v.mc, .func (.func v.pf) #[] v.pc, .func (.func v.gf) #[] v.gc] 172 (0, 0)) := by rw [← hV, ← hvb]; exact heap_alloc_new _ _
  have d0 : V.cell? ⟨sb, 0, none⟩ = some (.map (some mb)) := by rw [World.cell?_of_block (w := w') (HBV.out.block sb hz)]; exact c0
  have d1 : V.cell? ⟨vb, 0, none⟩ = some (.string v.key) := block_cell hbk 0
  have d2 : V.cell? ⟨vb, 1, none⟩ = some (.bool v.must) := block_cell hbk 1
  have hr := hrun V ((HBV.out.block mb hz2).trans c1)
  try rw [hV]
  try simp only [hvb]
  clear hV hrun c0 c1 hbk hb
  cases hm : v.must with
  | false =>
    rw [hm] at d2
    go_wp2
    go_ret
    exact ⟨ret_bool (by simp [hm]), HBV.out⟩
  | true =>
    rw [hm] at d2
    rcases hLi with hLi | hLi
    · rw [hLi] at hr
      have hr' : Sem.run Tryz.prog (Instr.lookup 276 (.map (some mb)) (.string v.key) false) V = .ok (.int .i64 0) V := hr
      have HL2 := Lib.hid hLi
      clear hr hLi hL
      go_wp2
      go_ret
      exact ⟨ret_bool (by rw [HL2.out]; simp [hm]), HBV.out⟩
    · rw [hLi] at hr
      have hr' : Sem.run Tryz.prog (Instr.lookup 276 (.map (some mb)) (.string v.key) false) V = .ok (.int .i64 1) V := hr
      have HL2 := Lib.hid hLi
      clear hr hLi hL
      go_wp2
      go_ret
      exact ⟨ret_bool (by rw [HL2.out]; simp [hm]), HBV.out⟩
end Go.Proofs.YtihiaopilnjonaaGreatDoor
