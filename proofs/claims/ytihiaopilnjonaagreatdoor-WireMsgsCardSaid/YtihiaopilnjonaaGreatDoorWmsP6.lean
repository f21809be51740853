/- Parts of the proof, one behind the other. -/
import Derived.Test.YtihiaopilnjonaaGreatDoorWmsP5
import Derived.ProofKit
import Derived.OpenShut
import Derived.ShutString
import Derived.ChangeOld
import Derived.Deep.Slices
import Derived.Deep.Fields
import Derived.ChangeMaps5
import Derived.WideShapes
import Derived.LaidMore
import Derived.LaidHandle
import Derived.Stop.Joined
import Derived.ChangeVars
import Derived.JoinedOf
import Derived.RowKitTokens
namespace Go.Proofs.YtihiaopilnjonaaGreatDoor
open Go.RowKit
set_option linter.unusedSimpArgs false
set_option linter.unusedVariables false
theorem Chg.low {rb cb : Nat} {w w1 w' : World} (h : Below w.heap.size w w1) (hc : Chg rb cb w1 w') (h1 : w.heap.size ≤ rb) (h2 : w.heap.size ≤ cb) : Below w.heap.size w w' :=
  ⟨hc.os.trans h.os, hc.tape.trans h.tape, hc.output.trans h.output, Nat.le_trans h.size hc.size, fun i hi => (hc.block i (Nat.lt_of_lt_of_le hi h.size) (by omega) (by omega)).trans (h.block i hi)⟩
def rdMsgS (s : ByteArray) : Except Flt Rcd := match endS s (msgS s (.ok 0)).2 with | .error f => .error f | .ok _ => .ok (msgS s (.ok 0)).1
def RrMsg (s : ByteArray) (w : World) (e : Ending) (w' : World) : Prop := (match rdMsgS s with | .error f => f.1 ≠ 0 ∧ e = .returned (.tuple #[zeroMsg, .agg #[.int .i64 f.1, .int .i64 f.2]]) | .ok x => Kd msg0 x ∧ e = .returned (.tuple #[.agg (cellsMsg x), .agg #[.int .i64 0, .int .i64 0]])) ∧ Below w.heap.size w w'
set_option maxRecDepth 100000 in
set_option maxHeartbeats 8000000 in
theorem rreMsg_any (s : ByteArray) (w : World) (hs : s.size ≤ 140737488355328) : Calls Tryz.prog 43 #[.string s] w (RrMsg s w) := by
  go_enter Tryz.func43, Tryz.ntmps43
  go_upto_region 1 with fail
  obtain ⟨b0, hb0⟩ : ∃ b0, w.heap.size = b0 := ⟨_, rfl⟩
  obtain ⟨V, hV⟩ : ∃ V, (w.alloc (.cells #[.string ⟨#[]⟩, .string ⟨#[]⟩, .int .u64 0, .int .u64 0, .int .u64 0, .int .u64 0] 76)).alloc (.cells #[.int .i64 0, .int .i64 0] 63) = V := ⟨_, rfl⟩
  have VB : Hid (Below w.heap.size w V) := Lib.hid (by rw [← hV]; exact balloc (balloc (Below.refl _ _) _) _)
  have V0 : Hid (V.heap[b0]? = some (.cells #[.string ⟨#[]⟩, .string ⟨#[]⟩, .int .u64 0, .int .u64 0, .int .u64 0, .int .u64 0] 76 (0, 0))) := Lib.hid (by rw [← hV, ← hb0]; exact block_alloc (heap_alloc_new _ _) _)
  have V1 : Hid (V.heap[b0 + 1]? = some (.cells #[.int .i64 0, .int .i64 0] 63 (0, 0))) := Lib.hid (by rw [← hV]; exact alloc_new_at _ (by simp [hb0]))
  have hvs : V.heap.size = b0 + 1 + 1 := by rw [← hV]; simp [hb0]
  have HB0 := Lib.hid hb0
  try rw [hV]
  try simp only [hb0]
  clear hV hb0
  go_wp2_with fail
  refine (begin_any s V hs).mono ?_
  rintro e w1 ⟨cb, rb, rfl, hc, h1, h2, hb⟩
  have HC1 := Lib.hid hc
  have B1 := Lib.hid hb
  have hr1 : b0 + 1 < rb := by omega
  have hc1 : b0 + 1 < cb := by omega
  have HRV : Hid (V.heap.size ≤ rb ∧ V.heap.size ≤ cb) := Lib.hid ⟨h1, h2⟩
  clear hc hb h1 h2 hvs
  go_wp2_with fail
  refine (cmsg_any cb rb s (.ok 0) w1 HC1.out).mono ?_
  rintro e w2 ⟨rfl, hk, hc, hg⟩
  have HC2 := Lib.hid hc
  have HK := Lib.hid hk
  have B2 : Hid (Below V.heap.size V w2) := Lib.hid (Chg.low B1.out hg HRV.out.1 HRV.out.2)
  clear hc hg hk HC1 B1
  obtain ⟨z, hz⟩ : ∃ z, msgS s (.ok 0) = z := ⟨_, rfl⟩
  have HC2 : Hid (CurIs w2 cb rb s z.2) := Lib.hid (by rw [← hz]; exact HC2.out)
  have HK : Hid (Kd msg0 z.1) := Lib.hid (by rw [← hz]; exact HK.out)
  rw [hz]
  have HZ := Lib.hid hz
  clear hz
  obtain ⟨x, τ⟩ := z
  go_upto_region 3 with fail
  obtain ⟨b5, hb5⟩ : ∃ b5, w2.heap.size = b5 := ⟨_, rfl⟩
  obtain ⟨U, hU⟩ : ∃ U, w2.alloc (.cells #[.string (x 0).s, .string (x 1).s, .int .u64 (x 2).n, .int .u64 (x 3).n, .int .u64 (x 4).n, .int .u64 (x 5).n] 76) = U := ⟨_, rfl⟩
  have UB : Hid (Below w2.heap.size w2 U) := Lib.hid (by rw [← hU]; exact balloc (Below.refl _ _) _)
  have U5 : Hid (U.heap[b5]? = some (.cells #[.string (x 0).s, .string (x 1).s, .int .u64 (x 2).n, .int .u64 (x 3).n, .int .u64 (x 4).n, .int .u64 (x 5).n] 76 (0, 0))) := Lib.hid (by rw [← hU, ← hb5]; exact heap_alloc_new _ _)
  have hcl2 : cb < b5 ∧ rb < b5 := by rw [← hb5]; exact ⟨HC2.out.clt, HC2.out.rlt⟩
  try rw [hU]
  try simp only [hb5]
  clear hU hb5
  go_wp2_with fail
  refine (cend_any cb rb s τ U (HC2.out.below UB.out)).mono ?_
  rintro e w3 ⟨rfl, hc, hg⟩
  have HC3 := Lib.hid hc
  have B3 : Hid (Below V.heap.size V w3) := Lib.hid (Chg.low (bnext B2.out UB.out) hg HRV.out.1 HRV.out.2)
  have W5 : Hid (w3.heap[b5]? = some (.cells #[.string (x 0).s, .string (x 1).s, .int .u64 (x 2).n, .int .u64 (x 3).n, .int .u64 (x 4).n, .int .u64 (x 5).n] 76 (0, 0))) := Lib.hid ((hg.block _ (lt_of_block U5.out) (by omega) (by omega)).trans U5.out)
  clear hc hg
  obtain ⟨σ2, hσ⟩ : ∃ σ2, endS s τ = σ2 := ⟨_, rfl⟩
  have HC3 : Hid (CurIs w3 cb rb s σ2) := Lib.hid (by rw [← hσ]; exact HC3.out)
  rw [hσ]
  have HS := Lib.hid hσ
  clear hσ
  obtain ⟨f, hf⟩ : ∃ f, σ2.flt = f := ⟨_, rfl⟩
  rw [hf]
  go_upto_region 4 with fail
  obtain ⟨b6, hb6⟩ : ∃ b6, w3.heap.size = b6 := ⟨_, rfl⟩
  obtain ⟨W, hW⟩ : ∃ W, w3.alloc (.cells #[.int .i64 f.1, .int .i64 f.2] 63) = W := ⟨_, rfl⟩
  have WB : Hid (Below w3.heap.size w3 W) := Lib.hid (by rw [← hW]; exact balloc (Below.refl _ _) _)
  have W6 : Hid (W.heap[b6]? = some (.cells #[.int .i64 f.1, .int .i64 f.2] 63 (0, 0))) := Lib.hid (by rw [← hW, ← hb6]; exact heap_alloc_new _ _)
  have BVW : Hid (Below V.heap.size V W) := Lib.hid (bnext B3.out WB.out)
  have BW : Hid (Below w.heap.size w W) := Lib.hid (bnext VB.out BVW.out)
  have WB0 : Hid (W.heap[b0]? = some (.cells #[.string ⟨#[]⟩, .string ⟨#[]⟩, .int .u64 0, .int .u64 0, .int .u64 0, .int .u64 0] 76 (0, 0))) := Lib.hid ((BVW.out.block _ (lt_of_block V0.out)).trans V0.out)
  have WB1 : Hid (W.heap[b0 + 1]? = some (.cells #[.int .i64 0, .int .i64 0] 63 (0, 0))) := Lib.hid ((BVW.out.block _ (lt_of_block V1.out)).trans V1.out)
  have WB5 : Hid (W.heap[b5]? = some (.cells #[.string (x 0).s, .string (x 1).s, .int .u64 (x 2).n, .int .u64 (x 3).n, .int .u64 (x 4).n, .int .u64 (x 5).n] 76 (0, 0))) := Lib.hid ((WB.out.block _ (lt_of_block W5.out)).trans W5.out)
  have j0 : W.cell? ⟨b6, 0, none⟩ = some (.int .i64 f.1) := block_cell W6.out 0
  have j1 : W.cell? ⟨b6, 1, none⟩ = some (.int .i64 f.2) := block_cell W6.out 1
  have hn5 : some b5 ≠ some b0 := by simp; omega
  have hn6 : some b6 ≠ some b0 := by have := lt_of_block W5.out; simp; omega
  try rw [hW]
  try simp only [hb6]
  clear hW hb6
  cases σ2 with
  | error g =>
    obtain rfl : g = f := hf
    have hg0 : (g.1 != 0) = true := by simpa using HC3.out.flt0
    have HG0 : Hid (g.1 ≠ 0) := Lib.hid HC3.out.flt0
    have HR : Hid (rdMsgS s = .error g) := Lib.hid (by unfold rdMsgS; rw [HZ.out]; show (match endS s τ with | .error f => Except.error f | .ok _ => .ok x) = _; rw [HS.out])
    go_upto_region 5 with fail
    refine wp_region_tail 3 2 ((some b0)) (phis [fun u _ => u = (.agg #[.string ⟨#[]⟩, .string ⟨#[]⟩, .int .u64 0, .int .u64 0, .int .u64 0, .int .u64 0]), fun u _ => u = (.agg #[.int .i64 g.1, .int .i64 g.2]), fun _ w' => w'.heap[b0]? = some (.cells #[.string ⟨#[]⟩, .string ⟨#[]⟩, .int .u64 0, .int .u64 0, .int .u64 0, .int .u64 0] 76 (0, 0))]) rfl (by kernel_rfl) (by kernel_rfl) (mono_of ⟨mono_eq, mono_eq, ?m2, trivial⟩) (steps_of 3 ⟨?s0, ?s1, ?s2, trivial⟩) ?_
    case m2 =>
      exact ⟨fun u w1 w2 h hb => ext_block h hb, fun hn => absurd rfl hn⟩
    case s0 =>
      refine step_val (v := (.agg #[.string ⟨#[]⟩, .string ⟨#[]⟩, .int .u64 0, .int .u64 0, .int .u64 0, .int .u64 0])) (fun av wv hE hS hO hD => ?_) (fun _ => rfl)
      refine ⟨rfl, ?_⟩
      simp [go_sem]
    case s1 =>
      refine step_val (v := (.agg #[.int .i64 g.1, .int .i64 g.2])) (fun av wv hE hS hO hD => ?_) (fun _ => rfl)
      have h6 : av.eval (.tmp 6) = (.pointer (some ⟨b6, 0, none⟩)) := hO.2.2 6 rfl
      have f6 := (ev_form av 6).symm.trans h6
      have j0 := extB_cell hE hn6 j0
      have j1 := extB_cell hE hn6 j1
      refine ⟨rfl, ?_⟩
      simp [go_sem, f6, j0, j1]
    case s2 =>
      refine step_wp (fun av wv hE hS hO hD => ?_)
      have h2 : av.eval (.tmp 2) = (.pointer (some ⟨b0, 0, none⟩)) := hO.2.2 2 rfl
      have f2 := (ev_form av 2).symm.trans h2
      have d16 : av.eval (.tmp 16) = (.agg #[.string ⟨#[]⟩, .string ⟨#[]⟩, .int .u64 0, .int .u64 0, .int .u64 0, .int .u64 0]) := hD.1 rfl _ rfl
      have f16 := (ev_form av 16).symm.trans d16
      refine ⟨rfl, ?_⟩
      have hq : wv.heap[b0]? = some (.cells #[.string ⟨#[]⟩, .string ⟨#[]⟩, .int .u64 0, .int .u64 0, .int .u64 0, .int .u64 0] 76 (0, 0)) := ext_block (w := W.drew) (hS rfl) WB0.out
      have q0 : wv.cell? ⟨b0, 0, none⟩ = some (.string ⟨#[]⟩) := block_cell hq 0
      have q1 : wv.cell? ⟨b0, 1, none⟩ = some (.string ⟨#[]⟩) := block_cell hq 1
      have q2 : wv.cell? ⟨b0, 2, none⟩ = some (.int .u64 0) := block_cell hq 2
      have q3 : wv.cell? ⟨b0, 3, none⟩ = some (.int .u64 0) := block_cell hq 3
      have q4 : wv.cell? ⟨b0, 4, none⟩ = some (.int .u64 0) := block_cell hq 4
      have q5 : wv.cell? ⟨b0, 5, none⟩ = some (.int .u64 0) := block_cell hq 5
      have hz : ∀ o, wv.frozen? ⟨b0, o, none⟩ = false := block_free hq
      have l0 : b0 < wv.heap.size := lt_of_block hq
      have h2 : av.eval (.tmp 2) = (.pointer (some ⟨b0, 0, none⟩)) := hO.2.2 2 rfl
      have f2 := (ev_form av 2).symm.trans h2
      unfold Oper.wp
      simp [go_sem, f2, f16, hz, l0, q0, q1, q2, q3, q4, q5]
      exact ⟨es_sp (extB_setIn (extB_setIn (extB_setIn (extB_setIn (extB_setIn (extB_setIn (ExtB_refl _ _) 0 _) 1 _) 2 _) 3 _) 4 _) 5 _), undef, (block_setCell (block_setCell (block_setCell (block_setCell (block_setCell (block_setCell hq (o := 0) _) (o := 1) _) (o := 2) _) (o := 3) _) (o := 4) _) (o := 5) _)⟩
    intro a' w' hE hO hall
    have hA := act_of_outer (ds := [16, 17]) rfl hO (by kernel_rfl)
    have e16 : (fun u _ => u = (.agg #[.string ⟨#[]⟩, .string ⟨#[]⟩, .int .u64 0, .int .u64 0, .int .u64 0, .int .u64 0])) (a'.eval (.tmp 16)) w' := hall.1 _ rfl
    have e17 : (fun u _ => u = (.agg #[.int .i64 g.1, .int .i64 g.2])) (a'.eval (.tmp 17)) w' := hall.2.1 _ rfl
    have z2 : (fun _ w' => w'.heap[b0]? = some (.cells #[.string ⟨#[]⟩, .string ⟨#[]⟩, .int .u64 0, .int .u64 0, .int .u64 0, .int .u64 0] 76 (0, 0))) undef w' := hall.2.2.1 _ rfl
    simp only [List.foldl_cons, List.foldl_nil, Act.put, List.setIfInBounds_toArray, List.set_cons_succ, List.set_cons_zero, e16, e17] at hA
    clear hO hall e16 e17
    subst hA
    have HX : Hid (ExtB (some b0) W w') := Lib.hid (of_drewE hE)
    have Z2 := Lib.hid z2
    have Q1 : Hid (w'.heap[b0 + 1]? = some (.cells #[.int .i64 0, .int .i64 0] 63 (0, 0))) := Lib.hid (extB_block HX.out (by simp) WB1.out)
    have g0 : ∀ o, w'.cell? ⟨b0 + 1, o, none⟩ = _ := block_cell Q1.out
    have g1 : ∀ o, w'.frozen? ⟨b0 + 1, o, none⟩ = false := block_free Q1.out
    have g2 : b0 + 1 < w'.heap.size := lt_of_block Q1.out
    have HBX : Hid (Below w.heap.size w w') := Lib.hid (grownBy_below BW.out HX.out (fun k hk => by have := HB0.out; obtain rfl : b0 = k := Option.some.inj hk; omega))
    clear hE z2
    go_wp2
    have hb := block_setCell (block_setCell Q1.out (o := 0) (.int .i64 g.1)) (o := 1) (.int .i64 g.2)
    have hb2 := block_setCell_ne (block_setCell_ne Z2.out (show b0 ≠ (⟨b0 + 1, 0, none⟩ : Addr).block by show b0 ≠ b0 + 1; omega) (.int .i64 g.1)) (show b0 ≠ (⟨b0 + 1, 1, none⟩ : Addr).block by show b0 ≠ b0 + 1; omega) (.int .i64 g.2)
    have d : ∀ o, _ = _ := block_cell hb
    have d2 : ∀ o, _ = _ := block_cell hb2
    refine bodyPost_ret (v := .tuple #[.agg #[.string ⟨#[]⟩, .string ⟨#[]⟩, .int .u64 0, .int .u64 0, .int .u64 0, .int .u64 0], .agg #[.int .i64 g.1, .int .i64 g.2]]) ?_ rfl ?_
    · simp [results, Tryz.results43, go_sem, d, d2]
    · refine ⟨?_, (HBX.out.setCell (show w.heap.size ≤ b0 + 1 by have := HB0.out; omega) _).setCell (show w.heap.size ≤ b0 + 1 by have := HB0.out; omega) _⟩
      rw [HR.out]
      exact ⟨HG0.out, rfl⟩
  | ok a =>
    obtain rfl : (0, 0) = f := hf
    have k0 : W.cell? ⟨b5, 0, none⟩ = some (.string (x 0).s) := block_cell WB5.out 0
    have k1 : W.cell? ⟨b5, 1, none⟩ = some (.string (x 1).s) := block_cell WB5.out 1
    have k2 : W.cell? ⟨b5, 2, none⟩ = some (.int .u64 (x 2).n) := block_cell WB5.out 2
    have k3 : W.cell? ⟨b5, 3, none⟩ = some (.int .u64 (x 3).n) := block_cell WB5.out 3
    have k4 : W.cell? ⟨b5, 4, none⟩ = some (.int .u64 (x 4).n) := block_cell WB5.out 4
    have k5 : W.cell? ⟨b5, 5, none⟩ = some (.int .u64 (x 5).n) := block_cell WB5.out 5
    have f : Flt := (0, 0)
    have HR : Hid (rdMsgS s = .ok x) := Lib.hid (by unfold rdMsgS; rw [HZ.out]; show (match endS s τ with | .error f => Except.error f | .ok _ => .ok x) = _; rw [HS.out])
    go_upto_region 6 with fail
    refine wp_region_tail 3 2 ((some b0)) (phis [fun u _ => u = (.agg #[.string (x 0).s, .string (x 1).s, .int .u64 (x 2).n, .int .u64 (x 3).n, .int .u64 (x 4).n, .int .u64 (x 5).n]), fun u _ => u = (.agg #[.int .i64 0, .int .i64 0]), fun _ w' => w'.heap[b0]? = some (.cells #[.string (x 0).s, .string (x 1).s, .int .u64 (x 2).n, .int .u64 (x 3).n, .int .u64 (x 4).n, .int .u64 (x 5).n] 76 (0, 0))]) rfl (by kernel_rfl) (by kernel_rfl) (mono_of ⟨mono_eq, mono_eq, ?m2, trivial⟩) (steps_of 3 ⟨?s0, ?s1, ?s2, trivial⟩) ?_
    case m2 =>
      exact ⟨fun u w1 w2 h hb => ext_block h hb, fun hn => absurd rfl hn⟩
    case s0 =>
      refine step_val (v := (.agg #[.string (x 0).s, .string (x 1).s, .int .u64 (x 2).n, .int .u64 (x 3).n, .int .u64 (x 4).n, .int .u64 (x 5).n])) (fun av wv hE hS hO hD => ?_) (fun _ => rfl)
      have h5 : av.eval (.tmp 5) = (.pointer (some ⟨b5, 0, none⟩)) := hO.2.2 5 rfl
      have f5 := (ev_form av 5).symm.trans h5
      have k0 := extB_cell hE hn5 k0
      have k1 := extB_cell hE hn5 k1
      have k2 := extB_cell hE hn5 k2
      have k3 := extB_cell hE hn5 k3
      have k4 := extB_cell hE hn5 k4
      have k5 := extB_cell hE hn5 k5
      have j0 := extB_cell hE hn6 j0
      have j1 := extB_cell hE hn6 j1
      refine ⟨rfl, ?_⟩
      simp [go_sem, f5, k0, k1, k2, k3, k4, k5, j0, j1]
    case s1 =>
      refine step_val (v := (.agg #[.int .i64 0, .int .i64 0])) (fun av wv hE hS hO hD => ?_) (fun _ => rfl)
      have h6 : av.eval (.tmp 6) = (.pointer (some ⟨b6, 0, none⟩)) := hO.2.2 6 rfl
      have f6 := (ev_form av 6).symm.trans h6
      have k0 := extB_cell hE hn5 k0
      have k1 := extB_cell hE hn5 k1
      have k2 := extB_cell hE hn5 k2
      have k3 := extB_cell hE hn5 k3
      have k4 := extB_cell hE hn5 k4
      have k5 := extB_cell hE hn5 k5
      have j0 := extB_cell hE hn6 j0
      have j1 := extB_cell hE hn6 j1
      refine ⟨rfl, ?_⟩
      simp [go_sem, f6, k0, k1, k2, k3, k4, k5, j0, j1]
    case s2 =>
      refine step_wp (fun av wv hE hS hO hD => ?_)
      have h2 : av.eval (.tmp 2) = (.pointer (some ⟨b0, 0, none⟩)) := hO.2.2 2 rfl
      have f2 := (ev_form av 2).symm.trans h2
      have d18 : av.eval (.tmp 18) = (.agg #[.string (x 0).s, .string (x 1).s, .int .u64 (x 2).n, .int .u64 (x 3).n, .int .u64 (x 4).n, .int .u64 (x 5).n]) := hD.1 rfl _ rfl
      have f18 := (ev_form av 18).symm.trans d18
      refine ⟨rfl, ?_⟩
      have hq : wv.heap[b0]? = some (.cells #[.string ⟨#[]⟩, .string ⟨#[]⟩, .int .u64 0, .int .u64 0, .int .u64 0, .int .u64 0] 76 (0, 0)) := ext_block (w := W.drew) (hS rfl) WB0.out
      have q0 : wv.cell? ⟨b0, 0, none⟩ = some (.string ⟨#[]⟩) := block_cell hq 0
      have q1 : wv.cell? ⟨b0, 1, none⟩ = some (.string ⟨#[]⟩) := block_cell hq 1
      have q2 : wv.cell? ⟨b0, 2, none⟩ = some (.int .u64 0) := block_cell hq 2
      have q3 : wv.cell? ⟨b0, 3, none⟩ = some (.int .u64 0) := block_cell hq 3
      have q4 : wv.cell? ⟨b0, 4, none⟩ = some (.int .u64 0) := block_cell hq 4
      have q5 : wv.cell? ⟨b0, 5, none⟩ = some (.int .u64 0) := block_cell hq 5
      have hz : ∀ o, wv.frozen? ⟨b0, o, none⟩ = false := block_free hq
      have l0 : b0 < wv.heap.size := lt_of_block hq
      have h2 : av.eval (.tmp 2) = (.pointer (some ⟨b0, 0, none⟩)) := hO.2.2 2 rfl
      have f2 := (ev_form av 2).symm.trans h2
      unfold Oper.wp
      simp [go_sem, f2, f18, hz, l0, q0, q1, q2, q3, q4, q5]
      exact ⟨es_sp (extB_setIn (extB_setIn (extB_setIn (extB_setIn (extB_setIn (extB_setIn (ExtB_refl _ _) 0 _) 1 _) 2 _) 3 _) 4 _) 5 _), undef, (block_setCell (block_setCell (block_setCell (block_setCell (block_setCell (block_setCell hq (o := 0) _) (o := 1) _) (o := 2) _) (o := 3) _) (o := 4) _) (o := 5) _)⟩
    intro a' w' hE hO hall
    have hA := act_of_outer (ds := [18, 19]) rfl hO (by kernel_rfl)
    have e18 : (fun u _ => u = (.agg #[.string (x 0).s, .string (x 1).s, .int .u64 (x 2).n, .int .u64 (x 3).n, .int .u64 (x 4).n, .int .u64 (x 5).n])) (a'.eval (.tmp 18)) w' := hall.1 _ rfl
    have e19 : (fun u _ => u = (.agg #[.int .i64 0, .int .i64 0])) (a'.eval (.tmp 19)) w' := hall.2.1 _ rfl
    have z2 : (fun _ w' => w'.heap[b0]? = some (.cells #[.string (x 0).s, .string (x 1).s, .int .u64 (x 2).n, .int .u64 (x 3).n, .int .u64 (x 4).n, .int .u64 (x 5).n] 76 (0, 0))) undef w' := hall.2.2.1 _ rfl
    simp only [List.foldl_cons, List.foldl_nil, Act.put, List.setIfInBounds_toArray, List.set_cons_succ, List.set_cons_zero, e18, e19] at hA
    clear hO hall e18 e19
    subst hA
    have HX : Hid (ExtB (some b0) W w') := Lib.hid (of_drewE hE)
    have Z2 := Lib.hid z2
    have Q1 : Hid (w'.heap[b0 + 1]? = some (.cells #[.int .i64 0, .int .i64 0] 63 (0, 0))) := Lib.hid (extB_block HX.out (by simp) WB1.out)
    have g0 : ∀ o, w'.cell? ⟨b0 + 1, o, none⟩ = _ := block_cell Q1.out
    have g1 : ∀ o, w'.frozen? ⟨b0 + 1, o, none⟩ = false := block_free Q1.out
    have g2 : b0 + 1 < w'.heap.size := lt_of_block Q1.out
    have HBX : Hid (Below w.heap.size w w') := Lib.hid (grownBy_below BW.out HX.out (fun k hk => by have := HB0.out; obtain rfl : b0 = k := Option.some.inj hk; omega))
    clear hE z2
    go_wp2
    have hb := block_setCell (block_setCell Q1.out (o := 0) (.int .i64 0)) (o := 1) (.int .i64 0)
    have hb2 := block_setCell_ne (block_setCell_ne Z2.out (show b0 ≠ (⟨b0 + 1, 0, none⟩ : Addr).block by show b0 ≠ b0 + 1; omega) (.int .i64 0)) (show b0 ≠ (⟨b0 + 1, 1, none⟩ : Addr).block by show b0 ≠ b0 + 1; omega) (.int .i64 0)
    have d : ∀ o, _ = _ := block_cell hb
    have d2 : ∀ o, _ = _ := block_cell hb2
    refine bodyPost_ret (v := .tuple #[.agg #[.string (x 0).s, .string (x 1).s, .int .u64 (x 2).n, .int .u64 (x 3).n, .int .u64 (x 4).n, .int .u64 (x 5).n], .agg #[.int .i64 0, .int .i64 0]]) ?_ rfl ?_
    · simp [results, Tryz.results43, go_sem, d, d2]
    · refine ⟨?_, (HBX.out.setCell (show w.heap.size ≤ b0 + 1 by have := HB0.out; omega) _).setCell (show w.heap.size ≤ b0 + 1 by have := HB0.out; omega) _⟩
      rw [HR.out]
      exact ⟨HK.out, rfl⟩
def rdHeaderS (s : ByteArray) : Except Flt Rcd := match endS s (headerS s (.ok 0)).2 with | .error f => .error f | .ok _ => .ok (headerS s (.ok 0)).1
def RrHeader (s : ByteArray) (w : World) (e : Ending) (w' : World) : Prop := (match rdHeaderS s with | .error f => f.1 ≠ 0 ∧ e = .returned (.tuple #[zeroHeader, .agg #[.int .i64 f.1, .int .i64 f.2]]) | .ok x => Kd header0 x ∧ e = .returned (.tuple #[.agg (cellsHeader x), .agg #[.int .i64 0, .int .i64 0]])) ∧ Below w.heap.size w w'
set_option maxRecDepth 100000 in
set_option maxHeartbeats 8000000 in
theorem rreHeader_any (s : ByteArray) (w : World) (hs : s.size ≤ 140737488355328) : Calls Tryz.prog 45 #[.string s] w (RrHeader s w) := by
  go_enter Tryz.func45, Tryz.ntmps45
  go_upto_region 1 with fail
  obtain ⟨b0, hb0⟩ : ∃ b0, w.heap.size = b0 := ⟨_, rfl⟩
  obtain ⟨V, hV⟩ : ∃ V, (w.alloc (.cells #[.int .u64 0, .string ⟨#[]⟩, .string ⟨#[]⟩, .string ⟨#[]⟩] 78)).alloc (.cells #[.int .i64 0, .int .i64 0] 63) = V := ⟨_, rfl⟩
  have VB : Hid (Below w.heap.size w V) := Lib.hid (by rw [← hV]; exact balloc (balloc (Below.refl _ _) _) _)
  have V0 : Hid (V.heap[b0]? = some (.cells #[.int .u64 0, .string ⟨#[]⟩, .string ⟨#[]⟩, .string ⟨#[]⟩] 78 (0, 0))) := Lib.hid (by rw [← hV, ← hb0]; exact block_alloc (heap_alloc_new _ _) _)
  have V1 : Hid (V.heap[b0 + 1]? = some (.cells #[.int .i64 0, .int .i64 0] 63 (0, 0))) := Lib.hid (by rw [← hV]; exact alloc_new_at _ (by simp [hb0]))
  have hvs : V.heap.size = b0 + 1 + 1 := by rw [← hV]; simp [hb0]
  have HB0 := Lib.hid hb0
  try rw [hV]
  try simp only [hb0]
  clear hV hb0
  go_wp2_with fail
  refine (begin_any s V hs).mono ?_
  rintro e w1 ⟨cb, rb, rfl, hc, h1, h2, hb⟩
  have HC1 := Lib.hid hc
  have B1 := Lib.hid hb
  have hr1 : b0 + 1 < rb := by omega
  have hc1 : b0 + 1 < cb := by omega
  have HRV : Hid (V.heap.size ≤ rb ∧ V.heap.size ≤ cb) := Lib.hid ⟨h1, h2⟩
  clear hc hb h1 h2 hvs
  go_wp2_with fail
  refine (cheader_any cb rb s (.ok 0) w1 HC1.out).mono ?_
  rintro e w2 ⟨rfl, hk, hc, hg⟩
  have HC2 := Lib.hid hc
  have HK := Lib.hid hk
  have B2 : Hid (Below V.heap.size V w2) := Lib.hid (Chg.low B1.out hg HRV.out.1 HRV.out.2)
  clear hc hg hk HC1 B1
  obtain ⟨z, hz⟩ : ∃ z, headerS s (.ok 0) = z := ⟨_, rfl⟩
  have HC2 : Hid (CurIs w2 cb rb s z.2) := Lib.hid (by rw [← hz]; exact HC2.out)
  have HK : Hid (Kd header0 z.1) := Lib.hid (by rw [← hz]; exact HK.out)
  rw [hz]
  have HZ := Lib.hid hz
  clear hz
  obtain ⟨x, τ⟩ := z
  go_upto_region 3 with fail
  obtain ⟨b5, hb5⟩ : ∃ b5, w2.heap.size = b5 := ⟨_, rfl⟩
  obtain ⟨U, hU⟩ : ∃ U, w2.alloc (.cells #[.int .u64 (x 0).n, .string (x 1).s, .string (x 2).s, .string (x 3).s] 78) = U := ⟨_, rfl⟩
  have UB : Hid (Below w2.heap.size w2 U) := Lib.hid (by rw [← hU]; exact balloc (Below.refl _ _) _)
  have U5 : Hid (U.heap[b5]? = some (.cells #[.int .u64 (x 0).n, .string (x 1).s, .string (x 2).s, .string (x 3).s] 78 (0, 0))) := Lib.hid (by rw [← hU, ← hb5]; exact heap_alloc_new _ _)
  have hcl2 : cb < b5 ∧ rb < b5 := by rw [← hb5]; exact ⟨HC2.out.clt, HC2.out.rlt⟩
  try rw [hU]
  try simp only [hb5]
  clear hU hb5
  go_wp2_with fail
  refine (cend_any cb rb s τ U (HC2.out.below UB.out)).mono ?_
  rintro e w3 ⟨rfl, hc, hg⟩
  have HC3 := Lib.hid hc
  have B3 : Hid (Below V.heap.size V w3) := Lib.hid (Chg.low (bnext B2.out UB.out) hg HRV.out.1 HRV.out.2)
  have W5 : Hid (w3.heap[b5]? = some (.cells #[.int .u64 (x 0).n, .string (x 1).s, .string (x 2).s, .string (x 3).s] 78 (0, 0))) := Lib.hid ((hg.block _ (lt_of_block U5.out) (by omega) (by omega)).trans U5.out)
  clear hc hg
  obtain ⟨σ2, hσ⟩ : ∃ σ2, endS s τ = σ2 := ⟨_, rfl⟩
  have HC3 : Hid (CurIs w3 cb rb s σ2) := Lib.hid (by rw [← hσ]; exact HC3.out)
  rw [hσ]
  have HS := Lib.hid hσ
  clear hσ
  obtain ⟨f, hf⟩ : ∃ f, σ2.flt = f := ⟨_, rfl⟩
  rw [hf]
  go_upto_region 4 with fail
  obtain ⟨b6, hb6⟩ : ∃ b6, w3.heap.size = b6 := ⟨_, rfl⟩
  obtain ⟨W, hW⟩ : ∃ W, w3.alloc (.cells #[.int .i64 f.1, .int .i64 f.2] 63) = W := ⟨_, rfl⟩
  have WB : Hid (Below w3.heap.size w3 W) := Lib.hid (by rw [← hW]; exact balloc (Below.refl _ _) _)
  have W6 : Hid (W.heap[b6]? = some (.cells #[.int .i64 f.1, .int .i64 f.2] 63 (0, 0))) := Lib.hid (by rw [← hW, ← hb6]; exact heap_alloc_new _ _)
  have BVW : Hid (Below V.heap.size V W) := Lib.hid (bnext B3.out WB.out)
  have BW : Hid (Below w.heap.size w W) := Lib.hid (bnext VB.out BVW.out)
  have WB0 : Hid (W.heap[b0]? = some (.cells #[.int .u64 0, .string ⟨#[]⟩, .string ⟨#[]⟩, .string ⟨#[]⟩] 78 (0, 0))) := Lib.hid ((BVW.out.block _ (lt_of_block V0.out)).trans V0.out)
  have WB1 : Hid (W.heap[b0 + 1]? = some (.cells #[.int .i64 0, .int .i64 0] 63 (0, 0))) := Lib.hid ((BVW.out.block _ (lt_of_block V1.out)).trans V1.out)
  have WB5 : Hid (W.heap[b5]? = some (.cells #[.int .u64 (x 0).n, .string (x 1).s, .string (x 2).s, .string (x 3).s] 78 (0, 0))) := Lib.hid ((WB.out.block _ (lt_of_block W5.out)).trans W5.out)
  have j0 : W.cell? ⟨b6, 0, none⟩ = some (.int .i64 f.1) := block_cell W6.out 0
  have j1 : W.cell? ⟨b6, 1, none⟩ = some (.int .i64 f.2) := block_cell W6.out 1
  have hn5 : some b5 ≠ some b0 := by simp; omega
  have hn6 : some b6 ≠ some b0 := by have := lt_of_block W5.out; simp; omega
  try rw [hW]
  try simp only [hb6]
  clear hW hb6
  cases σ2 with
  | error g =>
    obtain rfl : g = f := hf
    have hg0 : (g.1 != 0) = true := by simpa using HC3.out.flt0
    have HG0 : Hid (g.1 ≠ 0) := Lib.hid HC3.out.flt0
    have HR : Hid (rdHeaderS s = .error g) := Lib.hid (by unfold rdHeaderS; rw [HZ.out]; show (match endS s τ with | .error f => Except.error f | .ok _ => .ok x) = _; rw [HS.out])
    go_upto_region 5 with fail
    refine wp_region_tail 3 2 ((some b0)) (phis [fun u _ => u = (.agg #[.int .u64 0, .string ⟨#[]⟩, .string ⟨#[]⟩, .string ⟨#[]⟩]), fun u _ => u = (.agg #[.int .i64 g.1, .int .i64 g.2]), fun _ w' => w'.heap[b0]? = some (.cells #[.int .u64 0, .string ⟨#[]⟩, .string ⟨#[]⟩, .string ⟨#[]⟩] 78 (0, 0))]) rfl (by kernel_rfl) (by kernel_rfl) (mono_of ⟨mono_eq, mono_eq, ?m2, trivial⟩) (steps_of 3 ⟨?s0, ?s1, ?s2, trivial⟩) ?_
    case m2 =>
      exact ⟨fun u w1 w2 h hb => ext_block h hb, fun hn => absurd rfl hn⟩
    case s0 =>
      refine step_val (v := (.agg #[.int .u64 0, .string ⟨#[]⟩, .string ⟨#[]⟩, .string ⟨#[]⟩])) (fun av wv hE hS hO hD => ?_) (fun _ => rfl)
      refine ⟨rfl, ?_⟩
      simp [go_sem]
    case s1 =>
      refine step_val (v := (.agg #[.int .i64 g.1, .int .i64 g.2])) (fun av wv hE hS hO hD => ?_) (fun _ => rfl)
      have h6 : av.eval (.tmp 6) = (.pointer (some ⟨b6, 0, none⟩)) := hO.2.2 6 rfl
      have f6 := (ev_form av 6).symm.trans h6
      have j0 := extB_cell hE hn6 j0
      have j1 := extB_cell hE hn6 j1
      refine ⟨rfl, ?_⟩
      simp [go_sem, f6, j0, j1]
    case s2 =>
      refine step_wp (fun av wv hE hS hO hD => ?_)
      have h2 : av.eval (.tmp 2) = (.pointer (some ⟨b0, 0, none⟩)) := hO.2.2 2 rfl
      have f2 := (ev_form av 2).symm.trans h2
      have d16 : av.eval (.tmp 16) = (.agg #[.int .u64 0, .string ⟨#[]⟩, .string ⟨#[]⟩, .string ⟨#[]⟩]) := hD.1 rfl _ rfl
      have f16 := (ev_form av 16).symm.trans d16
      refine ⟨rfl, ?_⟩
      have hq : wv.heap[b0]? = some (.cells #[.int .u64 0, .string ⟨#[]⟩, .string ⟨#[]⟩, .string ⟨#[]⟩] 78 (0, 0)) := ext_block (w := W.drew) (hS rfl) WB0.out
      have q0 : wv.cell? ⟨b0, 0, none⟩ = some (.int .u64 0) := block_cell hq 0
      have q1 : wv.cell? ⟨b0, 1, none⟩ = some (.string ⟨#[]⟩) := block_cell hq 1
      have q2 : wv.cell? ⟨b0, 2, none⟩ = some (.string ⟨#[]⟩) := block_cell hq 2
      have q3 : wv.cell? ⟨b0, 3, none⟩ = some (.string ⟨#[]⟩) := block_cell hq 3
      have hz : ∀ o, wv.frozen? ⟨b0, o, none⟩ = false := block_free hq
      have l0 : b0 < wv.heap.size := lt_of_block hq
      have h2 : av.eval (.tmp 2) = (.pointer (some ⟨b0, 0, none⟩)) := hO.2.2 2 rfl
      have f2 := (ev_form av 2).symm.trans h2
      unfold Oper.wp
      simp [go_sem, f2, f16, hz, l0, q0, q1, q2, q3]
      exact ⟨es_sp (extB_setIn (extB_setIn (extB_setIn (extB_setIn (ExtB_refl _ _) 0 _) 1 _) 2 _) 3 _), undef, (block_setCell (block_setCell (block_setCell (block_setCell hq (o := 0) _) (o := 1) _) (o := 2) _) (o := 3) _)⟩
    intro a' w' hE hO hall
    have hA := act_of_outer (ds := [16, 17]) rfl hO (by kernel_rfl)
    have e16 : (fun u _ => u = (.agg #[.int .u64 0, .string ⟨#[]⟩, .string ⟨#[]⟩, .string ⟨#[]⟩])) (a'.eval (.tmp 16)) w' := hall.1 _ rfl
    have e17 : (fun u _ => u = (.agg #[.int .i64 g.1, .int .i64 g.2])) (a'.eval (.tmp 17)) w' := hall.2.1 _ rfl
    have z2 : (fun _ w' => w'.heap[b0]? = some (.cells #[.int .u64 0, .string ⟨#[]⟩, .string ⟨#[]⟩, .string ⟨#[]⟩] 78 (0, 0))) undef w' := hall.2.2.1 _ rfl
    simp only [List.foldl_cons, List.foldl_nil, Act.put, List.setIfInBounds_toArray, List.set_cons_succ, List.set_cons_zero, e16, e17] at hA
    clear hO hall e16 e17
    subst hA
    have HX : Hid (ExtB (some b0) W w') := Lib.hid (of_drewE hE)
    have Z2 := Lib.hid z2
    have Q1 : Hid (w'.heap[b0 + 1]? = some (.cells #[.int .i64 0, .int .i64 0] 63 (0, 0))) := Lib.hid (extB_block HX.out (by simp) WB1.out)
    have g0 : ∀ o, w'.cell? ⟨b0 + 1, o, none⟩ = _ := block_cell Q1.out
    have g1 : ∀ o, w'.frozen? ⟨b0 + 1, o, none⟩ = false := block_free Q1.out
    have g2 : b0 + 1 < w'.heap.size := lt_of_block Q1.out
    have HBX : Hid (Below w.heap.size w w') := Lib.hid (grownBy_below BW.out HX.out (fun k hk => by have := HB0.out; obtain rfl : b0 = k := Option.some.inj hk; omega))
    clear hE z2
    go_wp2
    have hb := block_setCell (block_setCell Q1.out (o := 0) (.int .i64 g.1)) (o := 1) (.int .i64 g.2)
    have hb2 := block_setCell_ne (block_setCell_ne Z2.out (show b0 ≠ (⟨b0 + 1, 0, none⟩ : Addr).block by show b0 ≠ b0 + 1; omega) (.int .i64 g.1)) (show b0 ≠ (⟨b0 + 1, 1, none⟩ : Addr).block by show b0 ≠ b0 + 1; omega) (.int .i64 g.2)
    have d : ∀ o, _ = _ := block_cell hb
    have d2 : ∀ o, _ = _ := block_cell hb2
    refine bodyPost_ret (v := .tuple #[.agg #[.int .u64 0, .string ⟨#[]⟩, .string ⟨#[]⟩, .string ⟨#[]⟩], .agg #[.int .i64 g.1, .int .i64 g.2]]) ?_ rfl ?_
    · simp [results, Tryz.results45, go_sem, d, d2]
    · refine ⟨?_, (HBX.out.setCell (show w.heap.size ≤ b0 + 1 by have := HB0.out; omega) _).setCell (show w.heap.size ≤ b0 + 1 by have := HB0.out; omega) _⟩
      rw [HR.out]
      exact ⟨HG0.out, rfl⟩
  | ok a =>
    obtain rfl : (0, 0) = f := hf
    have k0 : W.cell? ⟨b5, 0, none⟩ = some (.int .u64 (x 0).n) := block_cell WB5.out 0
    have k1 : W.cell? ⟨b5, 1, none⟩ = some (.string (x 1).s) := block_cell WB5.out 1
    have k2 : W.cell? ⟨b5, 2, none⟩ = some (.string (x 2).s) := block_cell WB5.out 2
    have k3 : W.cell? ⟨b5, 3, none⟩ = some (.string (x 3).s) := block_cell WB5.out 3
    have f : Flt := (0, 0)
    have HR : Hid (rdHeaderS s = .ok x) := Lib.hid (by unfold rdHeaderS; rw [HZ.out]; show (match endS s τ with | .error f => Except.error f | .ok _ => .ok x) = _; rw [HS.out])
    go_upto_region 6 with fail
    refine wp_region_tail 3 2 ((some b0)) (phis [fun u _ => u = (.agg #[.int .u64 (x 0).n, .string (x 1).s, .string (x 2).s, .string (x 3).s]), fun u _ => u = (.agg #[.int .i64 0, .int .i64 0]), fun _ w' => w'.heap[b0]? = some (.cells #[.int .u64 (x 0).n, .string (x 1).s, .string (x 2).s, .string (x 3).s] 78 (0, 0))]) rfl (by kernel_rfl) (by kernel_rfl) (mono_of ⟨mono_eq, mono_eq, ?m2, trivial⟩) (steps_of 3 ⟨?s0, ?s1, ?s2, trivial⟩) ?_
    case m2 =>
      exact ⟨fun u w1 w2 h hb => ext_block h hb, fun hn => absurd rfl hn⟩
    case s0 =>
      refine step_val (v := (.agg #[.int .u64 (x 0).n, .string (x 1).s, .string (x 2).s, .string (x 3).s])) (fun av wv hE hS hO hD => ?_) (fun _ => rfl)
      have h5 : av.eval (.tmp 5) = (.pointer (some ⟨b5, 0, none⟩)) := hO.2.2 5 rfl
      have f5 := (ev_form av 5).symm.trans h5
      have k0 := extB_cell hE hn5 k0
      have k1 := extB_cell hE hn5 k1
      have k2 := extB_cell hE hn5 k2
      have k3 := extB_cell hE hn5 k3
      have j0 := extB_cell hE hn6 j0
      have j1 := extB_cell hE hn6 j1
      refine ⟨rfl, ?_⟩
      simp [go_sem, f5, k0, k1, k2, k3, j0, j1]
    case s1 =>
      refine step_val (v := (.agg #[.int .i64 0, .int .i64 0])) (fun av wv hE hS hO hD => ?_) (fun _ => rfl)
      have h6 : av.eval (.tmp 6) = (.pointer (some ⟨b6, 0, none⟩)) := hO.2.2 6 rfl
      have f6 := (ev_form av 6).symm.trans h6
      have k0 := extB_cell hE hn5 k0
      have k1 := extB_cell hE hn5 k1
      have k2 := extB_cell hE hn5 k2
      have k3 := extB_cell hE hn5 k3
      have j0 := extB_cell hE hn6 j0
      have j1 := extB_cell hE hn6 j1
      refine ⟨rfl, ?_⟩
      simp [go_sem, f6, k0, k1, k2, k3, j0, j1]
    case s2 =>
      refine step_wp (fun av wv hE hS hO hD => ?_)
      have h2 : av.eval (.tmp 2) = (.pointer (some ⟨b0, 0, none⟩)) := hO.2.2 2 rfl
      have f2 := (ev_form av 2).symm.trans h2
      have d18 : av.eval (.tmp 18) = (.agg #[.int .u64 (x 0).n, .string (x 1).s, .string (x 2).s, .string (x 3).s]) := hD.1 rfl _ rfl
      have f18 := (ev_form av 18).symm.trans d18
      refine ⟨rfl, ?_⟩
      have hq : wv.heap[b0]? = some (.cells #[.int .u64 0, .string ⟨#[]⟩, .string ⟨#[]⟩, .string ⟨#[]⟩] 78 (0, 0)) := ext_block (w := W.drew) (hS rfl) WB0.out
      have q0 : wv.cell? ⟨b0, 0, none⟩ = some (.int .u64 0) := block_cell hq 0
      have q1 : wv.cell? ⟨b0, 1, none⟩ = some (.string ⟨#[]⟩) := block_cell hq 1
      have q2 : wv.cell? ⟨b0, 2, none⟩ = some (.string ⟨#[]⟩) := block_cell hq 2
      have q3 : wv.cell? ⟨b0, 3, none⟩ = some (.string ⟨#[]⟩) := block_cell hq 3
      have hz : ∀ o, wv.frozen? ⟨b0, o, none⟩ = false := block_free hq
      have l0 : b0 < wv.heap.size := lt_of_block hq
      have h2 : av.eval (.tmp 2) = (.pointer (some ⟨b0, 0, none⟩)) := hO.2.2 2 rfl
      have f2 := (ev_form av 2).symm.trans h2
      unfold Oper.wp
      simp [go_sem, f2, f18, hz, l0, q0, q1, q2, q3]
      exact ⟨es_sp (extB_setIn (extB_setIn (extB_setIn (extB_setIn (ExtB_refl _ _) 0 _) 1 _) 2 _) 3 _), undef, (block_setCell (block_setCell (block_setCell (block_setCell hq (o := 0) _) (o := 1) _) (o := 2) _) (o := 3) _)⟩
    intro a' w' hE hO hall
    have hA := act_of_outer (ds := [18, 19]) rfl hO (by kernel_rfl)
    have e18 : (fun u _ => u = (.agg #[.int .u64 (x 0).n, .string (x 1).s, .string (x 2).s, .string (x 3).s])) (a'.eval (.tmp 18)) w' := hall.1 _ rfl
    have e19 : (fun u _ => u = (.agg #[.int .i64 0, .int .i64 0])) (a'.eval (.tmp 19)) w' := hall.2.1 _ rfl
    have z2 : (fun _ w' => w'.heap[b0]? = some (.cells #[.int .u64 (x 0).n, .string (x 1).s, .string (x 2).s, .string (x 3).s] 78 (0, 0))) undef w' := hall.2.2.1 _ rfl
    simp only [List.foldl_cons, List.foldl_nil, Act.put, List.setIfInBounds_toArray, List.set_cons_succ, List.set_cons_zero, e18, e19] at hA
    clear hO hall e18 e19
    subst hA
    have HX : Hid (ExtB (some b0) W w') := Lib.hid (of_drewE hE)
    have Z2 := Lib.hid z2
    have Q1 : Hid (w'.heap[b0 + 1]? = some (.cells #[.int .i64 0, .int .i64 0] 63 (0, 0))) := Lib.hid (extB_block HX.out (by simp) WB1.out)
    have g0 : ∀ o, w'.cell? ⟨b0 + 1, o, none⟩ = _ := block_cell Q1.out
    have g1 : ∀ o, w'.frozen? ⟨b0 + 1, o, none⟩ = false := block_free Q1.out
    have g2 : b0 + 1 < w'.heap.size := lt_of_block Q1.out
    have HBX : Hid (Below w.heap.size w w') := Lib.hid (grownBy_below BW.out HX.out (fun k hk => by have := HB0.out; obtain rfl : b0 = k := Option.some.inj hk; omega))
    clear hE z2
    go_wp2
    have hb := block_setCell (block_setCell Q1.out (o := 0) (.int .i64 0)) (o := 1) (.int .i64 0)
    have hb2 := block_setCell_ne (block_setCell_ne Z2.out (show b0 ≠ (⟨b0 + 1, 0, none⟩ : Addr).block by show b0 ≠ b0 + 1; omega) (.int .i64 0)) (show b0 ≠ (⟨b0 + 1, 1, none⟩ : Addr).block by show b0 ≠ b0 + 1; omega) (.int .i64 0)
    have d : ∀ o, _ = _ := block_cell hb
    have d2 : ∀ o, _ = _ := block_cell hb2
    refine bodyPost_ret (v := .tuple #[.agg #[.int .u64 (x 0).n, .string (x 1).s, .string (x 2).s, .string (x 3).s], .agg #[.int .i64 0, .int .i64 0]]) ?_ rfl ?_
    · simp [results, Tryz.results45, go_sem, d, d2]
    · refine ⟨?_, (HBX.out.setCell (show w.heap.size ≤ b0 + 1 by have := HB0.out; omega) _).setCell (show w.heap.size ≤ b0 + 1 by have := HB0.out; omega) _⟩
      rw [HR.out]
      exact ⟨HK.out, rfl⟩
end Go.Proofs.YtihiaopilnjonaaGreatDoor
namespace Go.Proofs.YtihiaopilnjonaaGreatDoor
open Go.RowKit
set_option linter.unusedSimpArgs false
set_option linter.unusedVariables false
theorem gdig_read {s key : ByteArray} {o : Nat} {x : Rcd} {a : Nat} {y : Rcd × Nat} (h : (gdig s key o).read x a = .ok y) : (y.1 o).s.size = 32 := by
  simp only [gdig] at h
  split at h
  · cases h
  · next z hz =>
    cases h
    unfold rdig at hz
    split at hz
    · cases hz
    · split at hz
      · next h32 => cases hz; show (upd x o (.str _) o).s.size = 32; rw [upd_at]; exact h32
      · cases hz
def Must (o i : Nat) (x : Rcd) (seen : List Nat) : Prop := (i ∈ seen → (x o).s.size = 32) ∧ (i ∉ seen → (x o).s.size = 0)
theorem must_loop {s key : ByteArray} {gs : List GSpec} (hd : Disj gs) (hf : ∀ g ∈ gs, g.Frames) {i o : Nat} (hi : i < gs.length) (hg : gth gs i = gdig s key o) : ∀ (n fr : Nat) (x : Rcd) (seen : List Nat) (a : Nat) (y : Rcd × List Nat × Nat), objLoop s gs n fr x seen a = .ok y → Must o i x seen → Must o i y.1 y.2.1
  | 0, fr, x, seen, a, y, h, hm => by simp only [objLoop] at h; cases h; exact hm
  | n + 1, fr, x, seen, a, y, h, hm => by
    simp only [objLoop] at h
    split at h
    · cases h
    · split at h
      · cases h
      · next j hj =>
        have hl := keyIdx_lt hj
        split at h
        · cases h
        · next z hz =>
          split at h
          · cases h
          · refine must_loop hd hf hi hg n _ _ _ _ y h ?_
            by_cases e : fr + j = i
            · rw [e, hg] at hz
              have h32 := gdig_read hz
              exact ⟨fun _ => h32, fun hn => absurd (by rw [e]; exact List.mem_cons_self ..) hn⟩
            · have ho : o ∉ (gth gs (fr + j)).offs := hd i (fr + j) hi hl (fun e2 => e e2.symm) o (by rw [hg]; simp [gdig])
              have hx := hf (gth gs (fr + j)) (by rw [gth_eq gs _ hl]; exact List.getElem_mem _) x _ z hz o ho
              have hmem : i ∈ (fr + j) :: seen ↔ i ∈ seen := by
                rw [List.mem_cons]
                exact ⟨fun h => h.resolve_left (fun e2 => e e2.symm), .inr⟩
              unfold Must
              rw [hx, hmem]
              exact hm
theorem empty_iff (t : ByteArray) : t.toList.isEmpty = decide (t.size = 0) := by
  by_cases h : t.size = 0
  · rw [decide_eq_true h]; exact empty_of h
  · rw [decide_eq_false h]; exact full_of h
theorem must_empty {o i : Nat} {x : Rcd} {seen : List Nat} (h : Must o i x seen) : (x o).s.toList.isEmpty = !seen.contains i := by
  rw [empty_iff]
  by_cases hm : i ∈ seen
  · have h1 := h.1 hm
    simp [hm, h1]
  · have h1 := h.2 hm
    simp [hm, h1]
def thingS (s all : ByteArray) (specs : List (UInt8 × RStep)) (miss : Rcd → Bool) (x0 : Rcd) (σ : Cst) : Rcd × Cst := ((objS s all specs x0 σ).1, failS (miss (objS s all specs x0 σ).1) 5 (objS s all specs x0 σ).2)
theorem thing_same {x0 : Rcd} {s all : ByteArray} {specs : List (UInt8 × RStep)} {gs : List GSpec} {miss : Rcd → Bool} (h : SpecsOk x0 all specs gs) (hG : GOk x0 gs) (hm : ∀ n a y, objLoop s gs n 0 x0 [] a = .ok y → missing gs y.2.1 = miss y.1) (a : Nat) :
    match objR s gs x0 a with
    | .error e => (thingS s all specs miss x0 (.ok a)).2 = .error e
    | .ok y => thingS s all specs miss x0 (.ok a) = (y.1, .ok y.2) := by
  unfold thingS objS pairsS
  cases hz : tkR 4 s a with
  | error e =>
    rw [objR_err4 hz]
    simp only [tkS, hz]
    rw [rLoop_bad]; rfl
  | ok z =>
    simp only [tkS, hz]
    have hl := loop_same h hG.keys hG.disj hG.frames z.1.toNat 0 ⟨#[]⟩ x0 [] z.2.2 (Nat.zero_le _) (by unfold LastIs; rw [if_pos rfl, ByteArray.toList_eq]) (fun i _ _ o _ => rfl) (s := s)
    cases hL : objLoop s gs z.1.toNat 0 x0 [] z.2.2 with
    | error e =>
      rw [hL] at hl
      rw [objR_errL hz hL]
      show failS _ 5 (rLoop s all specs z.1.toNat ⟨#[]⟩ x0 (.ok z.2.2)).2 = .error e
      have hl' : (rLoop s all specs z.1.toNat ⟨#[]⟩ x0 (.ok z.2.2)).2 = .error e := hl
      rw [hl']; rfl
    | ok y =>
      rw [hL] at hl
      have hl' : rLoop s all specs z.1.toNat ⟨#[]⟩ x0 (.ok z.2.2) = (y.1, .ok y.2.2) := hl
      rw [hl']
      have hmm := hm _ _ _ hL
      cases hmi : missing gs y.2.1 with
      | true =>
        rw [objR_miss hz hL hmi]
        show failS (miss y.1) 5 (.ok y.2.2) = .error (5, 0)
        rw [← hmm, hmi]; rfl
      | false =>
        rw [objR_ok hz hL hmi]
        show (y.1, failS (miss y.1) 5 (.ok y.2.2)) = (y.1, .ok y.2.2)
        rw [← hmm, hmi]; rfl
theorem all_same {x0 : Rcd} {s : ByteArray} {gs : List GSpec} {F : Cst → Rcd × Cst} (h : match objR s gs x0 0 with | .error e => (F (.ok 0)).2 = .error e | .ok y => F (.ok 0) = (y.1, .ok y.2)) :
    (match endS s (F (.ok 0)).2 with | .error f => Except.error f | .ok _ => .ok (F (.ok 0)).1) = readR s gs x0 := by
  unfold readR
  cases hr : objR s gs x0 0 with
  | error e =>
    rw [hr] at h
    have h' : (F (.ok 0)).2 = .error e := h
    rw [h']; rfl
  | ok y =>
    rw [hr] at h
    have h' : F (.ok 0) = (y.1, .ok y.2) := h
    rw [h']
    show (match endS s (.ok y.2) with | .error f => Except.error f | .ok _ => .ok y.1) = if y.2 < s.size then .error (5, y.2) else .ok y.1
    unfold endS
    by_cases hlt : y.2 < s.size
    · simp only [hlt, if_true]
    · simp only [hlt, if_false]
theorem mem_of_any {all k : ByteArray} (L : List UInt8) (h : all.data.toList = L) : isKey all k all.size = true ↔ ∃ c, c ∈ L ∧ k.toList = [c] := by
  subst h
  unfold isKey
  rw [List.any_eq_true]
  have key : ∀ i, (hi : i < all.size) → (all.extract i (i + 1)).toList = [all.data.toList[i]'(by rw [ba_len]; exact hi)] := fun i hi => by
    rw [ByteArray.toList_eq, ByteArray.data_extract, Array.toList_extract, List.extract_eq_take_drop]
    have : i < all.data.toList.length := by rw [ba_len]; exact hi
    rw [Nat.add_sub_cancel_left, List.drop_eq_getElem_cons this]
    rfl
  constructor
  · rintro ⟨i, hi, h⟩
    have hi' : i < all.size := by simpa using hi
    refine ⟨all.data.toList[i]'(by rw [ba_len]; exact hi'), List.getElem_mem _, ?_⟩
    rw [key i hi'] at h
    exact (by simpa using h : _ = k.toList).symm
  · rintro ⟨c, hc, h⟩
    obtain ⟨i, hi, rfl⟩ := List.getElem_of_mem hc
    have hi' : i < all.size := by rw [ba_len] at hi; exact hi
    exact ⟨i, by simpa using hi', by rw [key i hi', h]; simp⟩
end Go.Proofs.YtihiaopilnjonaaGreatDoor
namespace Go.Proofs.YtihiaopilnjonaaGreatDoor
open Go.RowKit
set_option linter.unusedSimpArgs false
set_option linter.unusedVariables false
theorem specsOk_of {x0 : Rcd} {all : ByteArray} {specs : List (UInt8 × RStep)} {gs : List GSpec} (L : List UInt8) (h1 : specs.map (fun p => p.1) = L) (h2 : gs.map (fun g => g.key) = L.map (fun c => (⟨#[c]⟩ : ByteArray))) (h3 : all.data.toList = L) (h4 : L.Pairwise (· < ·)) (h5 : ∀ i, i < gs.length → StepOk x0 (gth gs i) (rth specs i).2) : SpecsOk x0 all specs gs := by
  have l1 : specs.length = L.length := by rw [← h1]; simp
  have l2 : gs.length = L.length := by have := congrArg List.length h2; simpa using this
  have e1 : ∀ i (hi : i < L.length), (rth specs i).1 = L[i] := fun i hi => by
    rw [rth_eq specs i (by omega)]
    have : (specs.map (fun p => p.1))[i]'(by simp; omega) = L[i] := by simp only [h1]
    simpa using this
  refine ⟨by omega, fun i hi => ?_, fun k => ?_, fun i j hij hj => ?_, h5⟩
  · rw [gth_eq gs i hi, e1 i (by omega)]
    have : (gs.map (fun g => g.key))[i]'(by simp; omega) = (L.map (fun c => (⟨#[c]⟩ : ByteArray)))[i]'(by simp; omega) := by simp only [h2]
    have h9 : gs[i].key = ⟨#[L[i]'(by omega)]⟩ := by simpa using this
    rw [h9, ByteArray.toList_eq]
  · rw [mem_of_any L h3]
    constructor
    · rintro ⟨c, hc, hk⟩
      obtain ⟨i, hi, rfl⟩ := List.getElem_of_mem hc
      exact ⟨i, by omega, by rw [hk, e1 i hi]⟩
    · rintro ⟨i, hi, hk⟩
      exact ⟨L[i]'(by omega), List.getElem_mem _, by rw [hk, e1 i (by omega)]⟩
  · rw [e1 i (by omega), e1 j (by omega)]
    exact List.pairwise_iff_getElem.1 h4 i j (by omega) (by omega) hij
theorem msg_specs (s : ByteArray) : SpecsOk msg0 ⟨#[102, 104, 108, 110, 118, 119]⟩ (msgQs s) (msgGs s) := by
  refine specsOk_of [102, 104, 108, 110, 118, 119] rfl rfl rfl (by decide) fun i hi => ?_
  match i, hi with
  | 0, _ => exact num_step _ _ _
  | 1, _ => exact dig_step _ _ _
  | 2, _ => exact num_step _ _ _
  | 3, _ => exact num_step _ _ _
  | 4, _ => exact dig_step _ _ _
  | 5, _ => exact num_step _ _ _
  | i + 6, hi => exact absurd hi (by simp [msgGs]; try omega)
theorem msg_miss (s : ByteArray) (n a : Nat) (y : Rcd × List Nat × Nat) (h : objLoop s (msgGs s) n 0 msg0 [] a = .ok y) : missing (msgGs s) y.2.1 = msgMiss y.1 := by
  have G := MsgOk s
  have m0 : Must 0 1 y.1 y.2.1 := must_loop (i := 1) (o := 0) G.disj G.frames (show (1 : Nat) < 6 by decide) rfl n 0 msg0 [] a y h ⟨fun h => (by cases h), fun _ => rfl⟩
  have q0 := must_empty m0
  have m1 : Must 1 4 y.1 y.2.1 := must_loop (i := 4) (o := 1) G.disj G.frames (show (4 : Nat) < 6 by decide) rfl n 0 msg0 [] a y h ⟨fun h => (by cases h), fun _ => rfl⟩
  have q1 := must_empty m1
  unfold missing
  show ((List.range 6).any fun i => (gth (msgGs s) i).must && !y.2.1.contains i) = _
  rw [show List.range 6 = [0, 1, 2, 3, 4, 5] from rfl]
  simp only [List.any_cons, List.any_nil, Bool.or_false]
  rw [show (gth (msgGs s) 0).must = false from rfl]
  rw [show (gth (msgGs s) 1).must = true from rfl]
  rw [show (gth (msgGs s) 2).must = false from rfl]
  rw [show (gth (msgGs s) 3).must = false from rfl]
  rw [show (gth (msgGs s) 4).must = true from rfl]
  rw [show (gth (msgGs s) 5).must = false from rfl]
  simp only [Bool.false_and, Bool.true_and, Bool.false_or, Bool.or_false]
  show _ = ((y.1 0).s.toList.isEmpty || (y.1 1).s.toList.isEmpty)
  rw [q0, q1]
theorem rdMsg_same (s : ByteArray) : rdMsgS s = readR s (msgGs s) msg0 := all_same (F := msgS s) (thing_same (miss := msgMiss) (msg_specs s) (MsgOk s) (msg_miss s) 0)
theorem header_specs (s : ByteArray) : SpecsOk header0 ⟨#[112, 114, 115, 116]⟩ (headerQs s) (headerGs s) := by
  refine specsOk_of [112, 114, 115, 116] rfl rfl rfl (by decide) fun i hi => ?_
  match i, hi with
  | 0, _ => exact dig_step _ _ _
  | 1, _ => exact num_step _ _ _
  | 2, _ => exact dig_step _ _ _
  | 3, _ => exact dig_step _ _ _
  | i + 4, hi => exact absurd hi (by simp [headerGs]; try omega)
theorem header_miss (s : ByteArray) (n a : Nat) (y : Rcd × List Nat × Nat) (h : objLoop s (headerGs s) n 0 header0 [] a = .ok y) : missing (headerGs s) y.2.1 = headerMiss y.1 := by
  have G := HeaderOk s
  have m0 : Must 1 0 y.1 y.2.1 := must_loop (i := 0) (o := 1) G.disj G.frames (show (0 : Nat) < 4 by decide) rfl n 0 header0 [] a y h ⟨fun h => (by cases h), fun _ => rfl⟩
  have q0 := must_empty m0
  have m1 : Must 3 2 y.1 y.2.1 := must_loop (i := 2) (o := 3) G.disj G.frames (show (2 : Nat) < 4 by decide) rfl n 0 header0 [] a y h ⟨fun h => (by cases h), fun _ => rfl⟩
  have q1 := must_empty m1
  have m2 : Must 2 3 y.1 y.2.1 := must_loop (i := 3) (o := 2) G.disj G.frames (show (3 : Nat) < 4 by decide) rfl n 0 header0 [] a y h ⟨fun h => (by cases h), fun _ => rfl⟩
  have q2 := must_empty m2
  unfold missing
  show ((List.range 4).any fun i => (gth (headerGs s) i).must && !y.2.1.contains i) = _
  rw [show List.range 4 = [0, 1, 2, 3] from rfl]
  simp only [List.any_cons, List.any_nil, Bool.or_false]
  rw [show (gth (headerGs s) 0).must = true from rfl]
  rw [show (gth (headerGs s) 1).must = false from rfl]
  rw [show (gth (headerGs s) 2).must = true from rfl]
  rw [show (gth (headerGs s) 3).must = true from rfl]
  simp only [Bool.false_and, Bool.true_and, Bool.false_or, Bool.or_false]
  show _ = ((y.1 1).s.toList.isEmpty || (y.1 3).s.toList.isEmpty || (y.1 2).s.toList.isEmpty)
  rw [q0, q1, q2]
  cases y.2.1.contains 0 <;> cases y.2.1.contains 2 <;> cases y.2.1.contains 3 <;> rfl
theorem rdHeader_same (s : ByteArray) : rdHeaderS s = readR s (headerGs s) header0 := all_same (F := headerS s) (thing_same (miss := headerMiss) (header_specs s) (HeaderOk s) (header_miss s) 0)
end Go.Proofs.YtihiaopilnjonaaGreatDoor
namespace Go.Proofs.YtihiaopilnjonaaGreatDoor
open Go.RowKit
set_option linter.unusedSimpArgs false
set_option linter.unusedVariables false
def TextOf (fs : List FSpec) : ByteArray := if allMay fs then layP fs else ⟨#[]⟩
def CodeOf (fs : List FSpec) : Int := if allMay fs then 0 else 2
theorem LaidIs.both {fs : List FSpec} {w w' : World} {e : Ending} (h : LaidIs fs w e w') : e = .returned (.tuple #[.string (TextOf fs), .int .i64 (CodeOf fs)]) ∧ Below w.heap.size w w' := by
  obtain ⟨h1, h2⟩ := h
  refine ⟨h1.trans ?_, h2⟩
  unfold TextOf CodeOf
  cases allMay fs <;> rfl
end Go.Proofs.YtihiaopilnjonaaGreatDoor
namespace Go.Proofs.YtihiaopilnjonaaGreatDoor
set_option linter.unusedSimpArgs false
set_option linter.unusedVariables false
open Go.RowKit Go.ChangeShapes Go.WideShapes Go.ChangeAt Go.Deep
section
variable {H : Type} {enc : TypeId × Value → H} {P : Program} {w : World}
theorem below_trodAll (hl : laidOutB P = true) {W W' : World} (hb : Below W.heap.size W W') : ∀ {ts : List TypeId} {vs : List Value} {ds : List (DataW H)} {ps : List MemPlace},
    (∀ t ∈ ts, P.readableRec t = true ∧ t < P.types.size) → DataW.TrodAll enc P W 0 (fun _ => true) true ts vs ds ps → DataW.TrodAll enc P W' 0 (fun b => decide (b < W.heap.size)) true ts vs ds ps
  | [], vs, ds, ps, _, h => by
    obtain ⟨rfl, rfl, rfl⟩ := trodAll_nil h
    exact trodAll_mk0
  | t :: ts, vs, ds, ps, ht, h => by
    obtain ⟨v, vs', d, ds', p, q, rfl, rfl, rfl, h0, r0⟩ := trodAll_cons h
    have lt0 : ∀ x ∈ p, x.block < W.heap.size := by obtain ⟨m, hm⟩ := h0; exact DataW.trod_lt m _ _ _ hm
    exact trodAll_cons_mk (Below.trod hl (ht t (List.mem_cons_self ..)).1 (ht t (List.mem_cons_self ..)).2 h0 hb lt0) (below_trodAll hl hb (fun t' h' => ht t' (List.mem_cons_of_mem _ h')) r0)
theorem cell_read {n : Nat} {e : TypeId} {k : IntKind} {v : Value} {y : DataW H × List MemPlace} (he : P.underlying e = some (.int k)) (h : DataW.trod enc P w 0 (fun _ => true) true n e [v] = some y) : ∃ x, v = .int k x ∧ (Lit.int k x).wf = true := by
  obtain ⟨x, hx, _, hw⟩ := DataW.trod_int he h
  exact ⟨x, by simpa using hx, hw⟩
end
end Go.Proofs.YtihiaopilnjonaaGreatDoor
namespace Go.Proofs.YtihiaopilnjonaaGreatDoor
set_option linter.unusedSimpArgs false
set_option linter.unusedVariables false
open Go.RowKit Go.ChangeShapes Go.WideShapes Go.ChangeAt
theorem own : ownKnob Tryz.prog.godebug = none := by kernel_rfl
theorem laidOut : laidOutB Tryz.prog = true := by kernel_rfl
end Go.Proofs.YtihiaopilnjonaaGreatDoor
namespace Go.Proofs.YtihiaopilnjonaaGreatDoor
set_option linter.unusedSimpArgs false
set_option linter.unusedVariables false
open Go.RowKit Go.ChangeShapes Go.WideShapes Go.ChangeAt Go.ChangeMaps
section
variable {P : Program} {H : Type} {enc : TypeId × Value → H} {w : World}
theorem open_str {t : TypeId} (ht : P.underlying t = some .string) {v : Value} {d : DataW H} {p : List MemPlace} {r : Reach} {base : Nat} (hv : Value.okWide P w r base t v) (h : DataW.Trod enc P w 0 (fun _ => true) true t v d p) :
    ∃ s : ByteArray, v = .string s ∧ d = .lit (.string s.data.toList) ∧ p = [] ∧ s.size ≤ 9223372036854775807 := by
  obtain ⟨s, rfl, h1, h2, h3⟩ := open_string ht hv h
  exact ⟨s, rfl, h1, h2, by unfold maxLen at h3; exact h3⟩
end
end Go.Proofs.YtihiaopilnjonaaGreatDoor
namespace Go.Proofs.YtihiaopilnjonaaGreatDoor
open Go.RowKit Go.ChangeShapes Go.WideShapes Go.ChangeAt
set_option linter.unusedSimpArgs false
set_option linter.unusedVariables false
section
variable {P : Program} {H : Type} {enc : TypeId × Value → H} {w : World}
theorem str_readw {n : Nat} {e : TypeId} {v : Value} {y : DataW H × List MemPlace} (he : P.underlying e = some .string) (h : DataW.trod enc P w 0 (fun _ => true) true n e [v] = some y) : ∃ s : ByteArray, v = .string s ∧ s.size ≤ maxLen := by
  obtain ⟨s, hx, _, hw⟩ := DataW.trod_string he h
  exact ⟨s, by simpa using hx, hw⟩
theorem wfi_u64 {n : Int} (h : (Lit.int .u64 n).wf = true) : U64i n := by simp [Lit.wf, IntKind.min, IntKind.max, IntKind.signed, IntKind.bits] at h; unfold U64i; omega
theorem wfi_u16 {n : Int} (h : (Lit.int .u16 n).wf = true) : 0 ≤ n ∧ n ≤ 65535 := by simp [Lit.wf, IntKind.min, IntKind.max, IntKind.signed, IntKind.bits] at h; omega
theorem wfi_u8 {n : Int} (h : (Lit.int .u8 n).wf = true) : 0 ≤ n ∧ n ≤ 255 := by simp [Lit.wf, IntKind.min, IntKind.max, IntKind.signed, IntKind.bits] at h; omega
end
set_option maxRecDepth 100000 in
theorem open_turn {H : Type} {enc : TypeId × Value → H} {w : World} {v : Value} {d : DataW H} {p : List MemPlace} {r : Reach} {base : Nat} (hv : Value.okWide Tryz.prog w r base 55 v) (h : DataW.Trod enc Tryz.prog w 0 (fun _ => true) true 55 v d p) :
    ∃ a y t : Int, v = .agg #[.int .u16 a, .int .u8 y, .int .i64 t] ∧ (0 ≤ a ∧ a ≤ 65535) ∧ (0 ≤ y ∧ y ≤ 255) := by
  obtain ⟨cs', rfl, hsz⟩ := okWide_struct Tryz.underlying55 hv
  have hsz' : cs'.size = 3 := hsz.trans (by kernel_rfl)
  obtain ⟨l⟩ := cs'
  match l, hsz' with
  | [v0, v1, v2], _ =>
    obtain ⟨fuel, hf⟩ := h
    obtain ⟨xs, m, _, _, _, hxl, hx⟩ := DataW.trod_struct Tryz.underlying55 hf
    have hxl' : xs.length = 3 := hxl
    simp only [Value.cells] at hx
    have h0 : DataW.trod enc Tryz.prog w 0 (fun _ => true) true m 53 (([v0, v1, v2].drop 0).take (Tryz.prog.cellsOf 53)) = xs[0]? := hx 0 _ rfl
    rw [show Tryz.prog.cellsOf 53 = 1 by kernel_rfl] at h0
    have h1 : DataW.trod enc Tryz.prog w 0 (fun _ => true) true m 5 (([v0, v1, v2].drop 1).take (Tryz.prog.cellsOf 5)) = xs[1]? := hx 1 _ rfl
    rw [show Tryz.prog.cellsOf 5 = 1 by kernel_rfl] at h1
    have h2 : DataW.trod enc Tryz.prog w 0 (fun _ => true) true m 3 (([v0, v1, v2].drop 2).take (Tryz.prog.cellsOf 3)) = xs[2]? := hx 2 _ rfl
    rw [show Tryz.prog.cellsOf 3 = 1 by kernel_rfl] at h2
    obtain ⟨x0, rfl, w0⟩ := cell_read Tryz.underlying53 (h0.trans (List.getElem?_eq_getElem (show 0 < xs.length by omega)))
    obtain ⟨x1, rfl, w1⟩ := cell_read Tryz.underlying5 (h1.trans (List.getElem?_eq_getElem (show 1 < xs.length by omega)))
    obtain ⟨x2, rfl, w2⟩ := cell_read Tryz.underlying3 (h2.trans (List.getElem?_eq_getElem (show 2 < xs.length by omega)))
    exact ⟨x0, x1, x2, rfl, wfi_u16 w0, wfi_u8 w1⟩
end Go.Proofs.YtihiaopilnjonaaGreatDoor
namespace Go.Proofs.YtihiaopilnjonaaGreatDoor
open Go.RowKit Go.ChangeShapes Go.WideShapes Go.ChangeAt Go.Deep
set_option linter.unusedSimpArgs false
set_option linter.unusedVariables false
def CW (w : World) : CP := fun b o x => w.cell? ⟨b, o, none⟩ = some x
theorem CW.at {w : World} {b o : Nat} {x : Value} (h : CW w b o x) : CellAt w.heap.size w b o x := ⟨h, .inl (lt_of_cell h)⟩
section
variable {H : Type} {enc : TypeId × Value → H} {P : Program} {w : World}
end
section
variable {H : Type} {enc : TypeId × Value → H} {w : World}
set_option maxRecDepth 100000 in
theorem cells_msg {n : Nat} {v0 v1 v2 v3 v4 v5 : Value} {y : DataW H × List MemPlace} (h : DataW.trod enc Tryz.prog w 0 (fun _ => true) true n 76 [v0, v1, v2, v3, v4, v5] = some y) :
    ∃ (x0 : ByteArray) (x1 : ByteArray) (x2 : Int) (x3 : Int) (x4 : Int) (x5 : Int), v0 = .string x0 ∧ v1 = .string x1 ∧ v2 = .int .u64 x2 ∧ v3 = .int .u64 x3 ∧ v4 = .int .u64 x4 ∧ v5 = .int .u64 x5 ∧ x0.size ≤ maxLen ∧ x1.size ≤ maxLen ∧ U64i x2 ∧ U64i x3 ∧ U64i x4 ∧ U64i x5 := by
  obtain ⟨xs, m, _, _, _, hxl, hx⟩ := DataW.trod_struct Tryz.underlying76 h
  have hxl' : xs.length = 6 := hxl
  have h0 : DataW.trod enc Tryz.prog w 0 (fun _ => true) true m 9 (([v0, v1, v2, v3, v4, v5].drop 0).take (Tryz.prog.cellsOf 9)) = xs[0]? := hx 0 _ rfl
  rw [show Tryz.prog.cellsOf 9 = 1 by kernel_rfl] at h0
  have h1 : DataW.trod enc Tryz.prog w 0 (fun _ => true) true m 9 (([v0, v1, v2, v3, v4, v5].drop 1).take (Tryz.prog.cellsOf 9)) = xs[1]? := hx 1 _ rfl
  rw [show Tryz.prog.cellsOf 9 = 1 by kernel_rfl] at h1
  have h2 : DataW.trod enc Tryz.prog w 0 (fun _ => true) true m 23 (([v0, v1, v2, v3, v4, v5].drop 2).take (Tryz.prog.cellsOf 23)) = xs[2]? := hx 2 _ rfl
  rw [show Tryz.prog.cellsOf 23 = 1 by kernel_rfl] at h2
  have h3 : DataW.trod enc Tryz.prog w 0 (fun _ => true) true m 23 (([v0, v1, v2, v3, v4, v5].drop 3).take (Tryz.prog.cellsOf 23)) = xs[3]? := hx 3 _ rfl
  rw [show Tryz.prog.cellsOf 23 = 1 by kernel_rfl] at h3
  have h4 : DataW.trod enc Tryz.prog w 0 (fun _ => true) true m 23 (([v0, v1, v2, v3, v4, v5].drop 4).take (Tryz.prog.cellsOf 23)) = xs[4]? := hx 4 _ rfl
  rw [show Tryz.prog.cellsOf 23 = 1 by kernel_rfl] at h4
  have h5 : DataW.trod enc Tryz.prog w 0 (fun _ => true) true m 23 (([v0, v1, v2, v3, v4, v5].drop 5).take (Tryz.prog.cellsOf 23)) = xs[5]? := hx 5 _ rfl
  rw [show Tryz.prog.cellsOf 23 = 1 by kernel_rfl] at h5
  obtain ⟨z0, rfl, w0⟩ := str_readw Tryz.underlying9 (h0.trans (List.getElem?_eq_getElem (show 0 < xs.length by omega)))
  obtain ⟨z1, rfl, w1⟩ := str_readw Tryz.underlying9 (h1.trans (List.getElem?_eq_getElem (show 1 < xs.length by omega)))
  obtain ⟨z2, rfl, w2⟩ := cell_read Tryz.underlying23 (h2.trans (List.getElem?_eq_getElem (show 2 < xs.length by omega)))
  obtain ⟨z3, rfl, w3⟩ := cell_read Tryz.underlying23 (h3.trans (List.getElem?_eq_getElem (show 3 < xs.length by omega)))
  obtain ⟨z4, rfl, w4⟩ := cell_read Tryz.underlying23 (h4.trans (List.getElem?_eq_getElem (show 4 < xs.length by omega)))
  obtain ⟨z5, rfl, w5⟩ := cell_read Tryz.underlying23 (h5.trans (List.getElem?_eq_getElem (show 5 < xs.length by omega)))
  exact ⟨z0, z1, z2, z3, z4, z5, rfl, rfl, rfl, rfl, rfl, rfl, w0, w1, wfi_u64 w2, wfi_u64 w3, wfi_u64 w4, wfi_u64 w5⟩
set_option maxRecDepth 100000 in
theorem cells_header {n : Nat} {v0 v1 v2 v3 : Value} {y : DataW H × List MemPlace} (h : DataW.trod enc Tryz.prog w 0 (fun _ => true) true n 78 [v0, v1, v2, v3] = some y) :
    ∃ (x0 : Int) (x1 : ByteArray) (x2 : ByteArray) (x3 : ByteArray), v0 = .int .u64 x0 ∧ v1 = .string x1 ∧ v2 = .string x2 ∧ v3 = .string x3 ∧ U64i x0 ∧ x1.size ≤ maxLen ∧ x2.size ≤ maxLen ∧ x3.size ≤ maxLen := by
  obtain ⟨xs, m, _, _, _, hxl, hx⟩ := DataW.trod_struct Tryz.underlying78 h
  have hxl' : xs.length = 4 := hxl
  have h0 : DataW.trod enc Tryz.prog w 0 (fun _ => true) true m 23 (([v0, v1, v2, v3].drop 0).take (Tryz.prog.cellsOf 23)) = xs[0]? := hx 0 _ rfl
  rw [show Tryz.prog.cellsOf 23 = 1 by kernel_rfl] at h0
  have h1 : DataW.trod enc Tryz.prog w 0 (fun _ => true) true m 9 (([v0, v1, v2, v3].drop 1).take (Tryz.prog.cellsOf 9)) = xs[1]? := hx 1 _ rfl
  rw [show Tryz.prog.cellsOf 9 = 1 by kernel_rfl] at h1
  have h2 : DataW.trod enc Tryz.prog w 0 (fun _ => true) true m 9 (([v0, v1, v2, v3].drop 2).take (Tryz.prog.cellsOf 9)) = xs[2]? := hx 2 _ rfl
  rw [show Tryz.prog.cellsOf 9 = 1 by kernel_rfl] at h2
  have h3 : DataW.trod enc Tryz.prog w 0 (fun _ => true) true m 9 (([v0, v1, v2, v3].drop 3).take (Tryz.prog.cellsOf 9)) = xs[3]? := hx 3 _ rfl
  rw [show Tryz.prog.cellsOf 9 = 1 by kernel_rfl] at h3
  obtain ⟨z0, rfl, w0⟩ := cell_read Tryz.underlying23 (h0.trans (List.getElem?_eq_getElem (show 0 < xs.length by omega)))
  obtain ⟨z1, rfl, w1⟩ := str_readw Tryz.underlying9 (h1.trans (List.getElem?_eq_getElem (show 1 < xs.length by omega)))
  obtain ⟨z2, rfl, w2⟩ := str_readw Tryz.underlying9 (h2.trans (List.getElem?_eq_getElem (show 2 < xs.length by omega)))
  obtain ⟨z3, rfl, w3⟩ := str_readw Tryz.underlying9 (h3.trans (List.getElem?_eq_getElem (show 3 < xs.length by omega)))
  exact ⟨z0, z1, z2, z3, rfl, rfl, rfl, rfl, wfi_u64 w0, w1, w2, w3⟩
structure RvX where
  d : RevD
  wa : Option Addr
  wc : Nat
  pa : Option Addr
  pc : Nat
def RvX.cells (x : RvX) : List Value := [.int .u64 x.d.pos, .int .u64 x.d.L, .bool x.d.signed, .int .u64 x.d.idx, .slice x.wa (len x.d.ws) x.wc, .slice x.pa (len x.d.ps) x.pc, .string x.d.root, .int .u64 x.d.wt, .int .u64 x.d.first, .int .u64 x.d.life, .int .u64 x.d.keys]
set_option maxRecDepth 100000 in
theorem cells_both {n : Nat} {v0 v1 v2 v3 v4 v5 v6 v7 v8 v9 : Value} {y : DataW H × List MemPlace} (h : DataW.trod enc Tryz.prog w 0 (fun _ => true) true n 80 [v0, v1, v2, v3, v4, v5, v6, v7, v8, v9] = some y) :
    ∃ (x0 : ByteArray) (x1 : ByteArray) (x2 : Int) (x3 : Int) (x4 : Int) (x5 : Int) (x6 : Int) (x7 : ByteArray) (x8 : ByteArray) (x9 : ByteArray), v0 = .string x0 ∧ v1 = .string x1 ∧ v2 = .int .u64 x2 ∧ v3 = .int .u64 x3 ∧ v4 = .int .u64 x4 ∧ v5 = .int .u64 x5 ∧ v6 = .int .u64 x6 ∧ v7 = .string x7 ∧ v8 = .string x8 ∧ v9 = .string x9 ∧ x0.size ≤ maxLen ∧ x1.size ≤ maxLen ∧ U64i x2 ∧ U64i x3 ∧ U64i x4 ∧ U64i x5 ∧ U64i x6 ∧ x7.size ≤ maxLen ∧ x8.size ≤ maxLen ∧ x9.size ≤ maxLen := by
  obtain ⟨xs, m, _, _, _, hxl, hx⟩ := DataW.trod_struct Tryz.underlying80 h
  have hxl' : xs.length = 2 := hxl
  have h0 : DataW.trod enc Tryz.prog w 0 (fun _ => true) true m 76 (([v0, v1, v2, v3, v4, v5, v6, v7, v8, v9].drop 0).take (Tryz.prog.cellsOf 76)) = xs[0]? := hx 0 _ rfl
  rw [show Tryz.prog.cellsOf 76 = 6 by kernel_rfl] at h0
  have h1 : DataW.trod enc Tryz.prog w 0 (fun _ => true) true m 78 (([v0, v1, v2, v3, v4, v5, v6, v7, v8, v9].drop 6).take (Tryz.prog.cellsOf 78)) = xs[1]? := hx 1 _ rfl
  rw [show Tryz.prog.cellsOf 78 = 4 by kernel_rfl] at h1
  obtain ⟨z0_0, z0_1, z0_2, z0_3, z0_4, z0_5, rfl, rfl, rfl, rfl, rfl, rfl, w0_0, w0_1, w0_2, w0_3, w0_4, w0_5⟩ := cells_msg (h0.trans (List.getElem?_eq_getElem (show 0 < xs.length by omega)))
  obtain ⟨z1_0, z1_1, z1_2, z1_3, rfl, rfl, rfl, rfl, w1_0, w1_1, w1_2, w1_3⟩ := cells_header (h1.trans (List.getElem?_eq_getElem (show 1 < xs.length by omega)))
  exact ⟨z0_0, z0_1, z0_2, z0_3, z0_4, z0_5, z1_0, z1_1, z1_2, z1_3, rfl, rfl, rfl, rfl, rfl, rfl, rfl, rfl, rfl, rfl, w0_0, w0_1, w0_2, w0_3, w0_4, w0_5, w1_0, w1_1, w1_2, w1_3⟩
set_option maxRecDepth 100000 in
theorem open_both {v : Value} {d : DataW H} {p : List MemPlace} {r : Reach} {base : Nat} (hv : Value.okWide Tryz.prog w r base 80 v) (h : DataW.Trod enc Tryz.prog w 0 (fun _ => true) true 80 v d p) :
    ∃ (x0 : ByteArray) (x1 : ByteArray) (x2 : Int) (x3 : Int) (x4 : Int) (x5 : Int) (x6 : Int) (x7 : ByteArray) (x8 : ByteArray) (x9 : ByteArray), v = .agg #[.string x0, .string x1, .int .u64 x2, .int .u64 x3, .int .u64 x4, .int .u64 x5, .int .u64 x6, .string x7, .string x8, .string x9] ∧ x0.size ≤ maxLen ∧ x1.size ≤ maxLen ∧ U64i x2 ∧ U64i x3 ∧ U64i x4 ∧ U64i x5 ∧ U64i x6 ∧ x7.size ≤ maxLen ∧ x8.size ≤ maxLen ∧ x9.size ≤ maxLen := by
  obtain ⟨cs', rfl, hsz⟩ := okWide_struct Tryz.underlying80 hv
  have hsz' : cs'.size = 10 := hsz.trans (by kernel_rfl)
  obtain ⟨l⟩ := cs'
  match l, hsz' with
  | [v0, v1, v2, v3, v4, v5, v6, v7, v8, v9], _ =>
    obtain ⟨fuel, hf⟩ := h
    simp only [Value.cells] at hf
    obtain ⟨x0, x1, x2, x3, x4, x5, x6, x7, x8, x9, rfl, rfl, rfl, rfl, rfl, rfl, rfl, rfl, rfl, rfl, w0, w1, w2, w3, w4, w5, w6, w7, w8, w9⟩ := cells_both hf
    exact ⟨x0, x1, x2, x3, x4, x5, x6, x7, x8, x9, rfl, w0, w1, w2, w3, w4, w5, w6, w7, w8, w9⟩
end
end Go.Proofs.YtihiaopilnjonaaGreatDoor
namespace Go.Proofs.YtihiaopilnjonaaGreatDoor
set_option linter.unusedSimpArgs false
set_option linter.unusedVariables false
open Go.RowKit Go.ChangeShapes Go.WideShapes Go.ChangeAt
def rowD (r : URow) : DataW Unit := .agg [.lit (.int .u8 r.lo), .lit (.int .u8 r.hi), .lit (.int .i64 r.size), .lit (.int .u64 r.least)]
set_option maxRecDepth 100000 in
theorem laid_row {w : World} {fuel : Nat} {cs' : List Value} {r : URow} {q : List MemPlace} (hl : cs'.length = 4) (h : DataW.trod (fun _ => ()) Tryz.prog w 0 (fun _ => true) false fuel 338 cs' = some (rowD r, q)) : cs' = r.cells := by
  match cs', hl with
  | [v0, v1, v2, v3], _ =>
    obtain ⟨xs, m, _, e, _, hxl, hx⟩ := DataW.trod_struct Tryz.underlying338 h
    have cu : Tryz.prog.cellsOf 5 = 1 := by kernel_rfl
    have ci : Tryz.prog.cellsOf 3 = 1 := by kernel_rfl
    have cq : Tryz.prog.cellsOf 23 = 1 := by kernel_rfl
    have hxl' : xs.length = 4 := hxl
    have h0 : DataW.trod (fun _ => ()) Tryz.prog w 0 (fun _ => true) false m 5 (([v0, v1, v2, v3].drop 0).take (Tryz.prog.cellsOf 5)) = xs[0]? := hx 0 _ rfl
    have h1 : DataW.trod (fun _ => ()) Tryz.prog w 0 (fun _ => true) false m 5 (([v0, v1, v2, v3].drop 1).take (Tryz.prog.cellsOf 5)) = xs[1]? := hx 1 _ rfl
    have h2 : DataW.trod (fun _ => ()) Tryz.prog w 0 (fun _ => true) false m 3 (([v0, v1, v2, v3].drop 2).take (Tryz.prog.cellsOf 3)) = xs[2]? := hx 2 _ rfl
    have h3 : DataW.trod (fun _ => ()) Tryz.prog w 0 (fun _ => true) false m 23 (([v0, v1, v2, v3].drop 3).take (Tryz.prog.cellsOf 23)) = xs[3]? := hx 3 _ rfl
    rw [cu] at h0 h1
    rw [ci] at h2
    rw [cq] at h3
    match xs, hxl' with
    | [x0, x1, x2, x3], _ =>
      obtain ⟨n0, e0, y0, _⟩ := DataW.trod_int Tryz.underlying5 (show DataW.trod (fun _ => ()) Tryz.prog w 0 (fun _ => true) false m 5 [v0] = some x0 from h0)
      obtain ⟨n1, e1, y1, _⟩ := DataW.trod_int Tryz.underlying5 (show DataW.trod (fun _ => ()) Tryz.prog w 0 (fun _ => true) false m 5 [v1] = some x1 from h1)
      obtain ⟨n2, e2, y2, _⟩ := DataW.trod_int Tryz.underlying3 (show DataW.trod (fun _ => ()) Tryz.prog w 0 (fun _ => true) false m 3 [v2] = some x2 from h2)
      obtain ⟨n3, e3, y3, _⟩ := DataW.trod_int Tryz.underlying23 (show DataW.trod (fun _ => ()) Tryz.prog w 0 (fun _ => true) false m 23 [v3] = some x3 from h3)
      subst y0 y1 y2 y3
      simp [rowD] at e e0 e1 e2 e3
      obtain ⟨⟨a0, a1, a2, a3⟩, _⟩ := e
      subst e0 e1 e2 e3
      unfold URow.cells
      rw [a0, a1, a2, a3]
set_option maxRecDepth 100000 in
theorem laid_rows {w : World} {fuel : Nat} {cs : List Value} {l : List URow} {p : List MemPlace} (h : DataW.trod (fun _ => ()) Tryz.prog w 0 (fun _ => true) false fuel 313 cs = some (.slice (l.map rowD) [], p)) (hl : 0 < len l) :
    ∃ tb tq rc, cs = [.slice (some ⟨tb, tq, none⟩) (len l) rc] ∧ URows w (some ⟨tb, tq, none⟩) l := by
  have hC : Tryz.prog.cellsOf 338 = 4 := by kernel_rfl
  rcases Go.Deep.open_slice Tryz.underlying313 h with ⟨_, hx⟩ | ⟨a, n, c, m, q, D, Pl, hcs, _, hln, hm, hmm, hx, hi⟩
  · simp at hx
  · simp only [Prod.mk.injEq, DataW.slice.injEq] at hx
    obtain ⟨⟨hD, _⟩, _⟩ := hx
    have hn : len l = n := by have := congrArg List.length hD; simpa [len] using this
    have hnm : n ≤ m := by rw [hmm]; simp; exact hln
    have each : ∀ i, i < len l → ∃ b off, a = ⟨b, off, none⟩ ∧ URowAt w b (off + i * 4) (unth l i) := fun i hil => by
      obtain ⟨cs', hc, htr⟩ := hi i (by omega)
      rw [hC] at hc
      obtain ⟨_, hcl, hat⟩ := World.cells?_some hc
      have hDi : D i = rowD (unth l i) := by
        have h1 : (l.map rowD)[i]? = ((List.range n).map D)[i]? := by rw [hD]
        have hil' : i < l.length := hil
        rw [List.getElem?_map, List.getElem?_map, List.getElem?_eq_getElem hil', List.getElem?_range (by omega)] at h1
        rw [unth_eq l i hil]
        exact (Option.some.inj h1).symm
      rw [hDi] at htr
      have hcs' := laid_row hcl htr
      obtain ⟨b, off, spot⟩ := a
      have hat0 := hat 0 (by decide)
      rw [hcs'] at hat
      have hspot : spot = none := by
        obtain ⟨cs0, hc0, htr0⟩ := hi 0 (by omega)
        rw [hC] at hc0
        obtain ⟨_, hcl0, hat0⟩ := World.cells?_some hc0
        have h1 := hat0 0 (by decide)
        have h2 : cs0[0]? = some (cs0[0]'(by omega)) := List.getElem?_eq_getElem (by omega)
        rw [h2] at h1
        simpa [Addr.add] using World.cell?_spot h1
      subst hspot
      have key : ∀ j, j < 4 → w.cell? ⟨b, off + i * 4 + j, none⟩ = (unth l i).cells[j]? := fun j hj => by
        have h1 := hat j hj
        rw [Go.Deep.add_add] at h1
        have e : (⟨b, off, none⟩ : Addr).add (i * 4 + j) = ⟨b, off + i * 4 + j, none⟩ := by
          unfold Addr.add; split
          · rename_i h0; simp <;> omega
          · simp [Nat.add_assoc]
        rw [e] at h1; exact h1
      exact ⟨b, off, rfl, key 0 (by decide), key 1 (by decide), key 2 (by decide), key 3 (by decide)⟩
    obtain ⟨b, off, rfl, _⟩ := each 0 hl
    refine ⟨b, off, c, by rw [hn]; exact hcs, fun i hil => ?_⟩
    obtain ⟨b', off', e, hR⟩ := each i hil
    cases e
    exact ⟨b, off, rfl, hR⟩
theorem tab_of {W : World} {nm : String} {g : Nat} {l : List URow} {cs : Array Value} {fuel : Nat} {p : List MemPlace} (hl : 0 < len l) (hg : Tryz.prog.globalNamed nm = some g) (hv : W.var? Tryz.prog nm = some cs)
    (h : DataW.trod (fun _ => ()) Tryz.prog W 0 (fun _ => true) false fuel 313 cs.toList = some (.slice (l.map rowD) [], p)) : TabAt W.heap.size W g l := by
  obtain ⟨tb, tq, rc, hcs, hr⟩ := laid_rows h hl
  have hc : W.cell? ⟨g, 0, none⟩ = some (.slice (some ⟨tb, tq, none⟩) (len l) rc) := by
    have := World.var?_cell hg hv 0
    rw [Array.eq_one_of_toList hcs] at this
    simpa using this
  obtain ⟨b', off', e, hR⟩ := hr 0 hl
  cases e
  exact ⟨tb, tq, rc, lt_of_cell hc, lt_of_cell hR.c0, Nat.le_refl _, hc, hr⟩
theorem oneRow : ((List.range Tryz.prog.types.size).filter fun t => Tryz.prog.rowNamed t [101, 114, 114, 111, 114]) = [59] := by kernel_rfl
end Go.Proofs.YtihiaopilnjonaaGreatDoor
namespace Go.Proofs.YtihiaopilnjonaaGreatDoor
set_option linter.unusedSimpArgs false
set_option linter.unusedVariables false
open Go.RowKit Go.ChangeShapes Go.WideShapes Go.ChangeAt
def rowD5 (r : PRow) : DataW Unit := .agg [.lit (.int .u64 r.below), .lit (.int .u8 r.first), .lit (.int .i64 r.size)]
set_option maxRecDepth 100000 in
theorem laid_prow {w : World} {fuel : Nat} {cs' : List Value} {r : PRow} {q : List MemPlace} (hl : cs'.length = 3) (h : DataW.trod (fun _ => ()) Tryz.prog w 0 (fun _ => true) false fuel 332 cs' = some (rowD5 r, q)) : cs' = r.cells := by
  match cs', hl with
  | [v0, v1, v2], _ =>
    obtain ⟨xs, m, _, e, _, hxl, hx⟩ := DataW.trod_struct Tryz.underlying332 h
    have cu : Tryz.prog.cellsOf 5 = 1 := by kernel_rfl
    have ci : Tryz.prog.cellsOf 3 = 1 := by kernel_rfl
    have cq : Tryz.prog.cellsOf 23 = 1 := by kernel_rfl
    have hxl' : xs.length = 3 := hxl
    have h0 : DataW.trod (fun _ => ()) Tryz.prog w 0 (fun _ => true) false m 23 (([v0, v1, v2].drop 0).take (Tryz.prog.cellsOf 23)) = xs[0]? := hx 0 _ rfl
    have h1 : DataW.trod (fun _ => ()) Tryz.prog w 0 (fun _ => true) false m 5 (([v0, v1, v2].drop 1).take (Tryz.prog.cellsOf 5)) = xs[1]? := hx 1 _ rfl
    have h2 : DataW.trod (fun _ => ()) Tryz.prog w 0 (fun _ => true) false m 3 (([v0, v1, v2].drop 2).take (Tryz.prog.cellsOf 3)) = xs[2]? := hx 2 _ rfl
    rw [cq] at h0
    rw [cu] at h1
    rw [ci] at h2
    match xs, hxl' with
    | [x0, x1, x2], _ =>
      obtain ⟨n0, e0, y0, _⟩ := DataW.trod_int Tryz.underlying23 (show DataW.trod (fun _ => ()) Tryz.prog w 0 (fun _ => true) false m 23 [v0] = some x0 from h0)
      obtain ⟨n1, e1, y1, _⟩ := DataW.trod_int Tryz.underlying5 (show DataW.trod (fun _ => ()) Tryz.prog w 0 (fun _ => true) false m 5 [v1] = some x1 from h1)
      obtain ⟨n2, e2, y2, _⟩ := DataW.trod_int Tryz.underlying3 (show DataW.trod (fun _ => ()) Tryz.prog w 0 (fun _ => true) false m 3 [v2] = some x2 from h2)
      subst y0 y1 y2
      simp [rowD5] at e e0 e1 e2
      obtain ⟨⟨a0, a1, a2⟩, _⟩ := e
      subst e0 e1 e2
      unfold PRow.cells
      rw [a0, a1, a2]
set_option maxRecDepth 100000 in
theorem laid_prows {w : World} {fuel : Nat} {cs : List Value} {l : List PRow} {p : List MemPlace} (h : DataW.trod (fun _ => ()) Tryz.prog w 0 (fun _ => true) false fuel 334 cs = some (.slice (l.map rowD5) [], p)) (hl : 0 < len l) :
    ∃ tb tq rc, cs = [.slice (some ⟨tb, tq, none⟩) (len l) rc] ∧ PRows w (some ⟨tb, tq, none⟩) l := by
  have hC : Tryz.prog.cellsOf 332 = 3 := by kernel_rfl
  rcases Go.Deep.open_slice Tryz.underlying334 h with ⟨_, hx⟩ | ⟨a, n, c, m, q, D, Pl, hcs, _, hln, hm, hmm, hx, hi⟩
  · simp at hx
  · simp only [Prod.mk.injEq, DataW.slice.injEq] at hx
    obtain ⟨⟨hD, _⟩, _⟩ := hx
    have hn : len l = n := by have := congrArg List.length hD; simpa [len] using this
    have hnm : n ≤ m := by rw [hmm]; simp; exact hln
    have each : ∀ i, i < len l → ∃ b off, a = ⟨b, off, none⟩ ∧ PRowAt w b (off + i * 3) (prth l i) := fun i hil => by
      obtain ⟨cs', hc, htr⟩ := hi i (by omega)
      rw [hC] at hc
      obtain ⟨_, hcl, hat⟩ := World.cells?_some hc
      have hDi : D i = rowD5 (prth l i) := by
        have h1 : (l.map rowD5)[i]? = ((List.range n).map D)[i]? := by rw [hD]
        have hil' : i < l.length := hil
        rw [List.getElem?_map, List.getElem?_map, List.getElem?_eq_getElem hil', List.getElem?_range (by omega)] at h1
        rw [prth_eq l i hil]
        exact (Option.some.inj h1).symm
      rw [hDi] at htr
      have hcs' := laid_prow hcl htr
      obtain ⟨b, off, spot⟩ := a
      have hat0 := hat 0 (by decide)
      rw [hcs'] at hat
      have hspot : spot = none := by
        obtain ⟨cs0, hc0, htr0⟩ := hi 0 (by omega)
        rw [hC] at hc0
        obtain ⟨_, hcl0, hat0⟩ := World.cells?_some hc0
        have h1 := hat0 0 (by decide)
        have h2 : cs0[0]? = some (cs0[0]'(by omega)) := List.getElem?_eq_getElem (by omega)
        rw [h2] at h1
        simpa [Addr.add] using World.cell?_spot h1
      subst hspot
      have key : ∀ j, j < 3 → w.cell? ⟨b, off + i * 3 + j, none⟩ = (prth l i).cells[j]? := fun j hj => by
        have h1 := hat j hj
        rw [Go.Deep.add_add] at h1
        have e : (⟨b, off, none⟩ : Addr).add (i * 3 + j) = ⟨b, off + i * 3 + j, none⟩ := by
          unfold Addr.add; split
          · rename_i h0; simp <;> omega
          · simp [Nat.add_assoc]
        rw [e] at h1; exact h1
      exact ⟨b, off, rfl, key 0 (by decide), key 1 (by decide), key 2 (by decide)⟩
    obtain ⟨b, off, rfl, _⟩ := each 0 hl
    refine ⟨b, off, c, by rw [hn]; exact hcs, fun i hil => ?_⟩
    obtain ⟨b', off', e, hR⟩ := each i hil
    cases e
    exact ⟨b, off, rfl, hR⟩
def tabD5 : DataW Unit := .agg ([0, 1, 2, 3, 4].map fun k => .slice ((rowsP k).map rowD5) [])
set_option maxRecDepth 100000 in
theorem ptab_of {W : World} {g : Nat} {cs : Array Value} {fuel : Nat} {p : List MemPlace} (hgg : g = 4) (hg : Tryz.prog.globalNamed "sextant/pack.rows" = some g) (hv : W.var? Tryz.prog "sextant/pack.rows" = some cs)
    (h : DataW.trod (fun _ => ()) Tryz.prog W 0 (fun _ => true) false fuel 335 cs.toList = some (tabD5, p)) : PTab W.heap.size W := by
  obtain ⟨xs, m, _, e, hcl, hxl, hx⟩ := DataW.trod_array Tryz.underlying335 h
  have hC : Tryz.prog.cellsOf 334 = 1 := by kernel_rfl
  have hC5 : Tryz.prog.cellsOf 335 = 5 := by kernel_rfl
  rw [hC5] at hcl
  rw [hC] at hx
  have hd : tabD5 = .agg (xs.map (·.1)) := congrArg Prod.fst e
  unfold tabD5 at hd
  have hd2 : ([0, 1, 2, 3, 4].map fun k => (DataW.slice ((rowsP k).map rowD5) [] : DataW Unit)) = xs.map (·.1) := by injection hd
  subst hgg
  have key : ∀ k, k < 5 → ∃ tb tq rc, cs[k]? = some (.slice (some ⟨tb, tq, none⟩) (len (rowsP k)) rc) ∧ PRows W (some ⟨tb, tq, none⟩) (rowsP k) := fun k hk => by
    have hxk : k < xs.length := by omega
    have h1 := hx k hk
    rw [List.getElem?_eq_getElem hxk] at h1
    have h2 : (xs[k]'hxk).1 = .slice ((rowsP k).map rowD5) [] := by
      have h3 : (xs.map (·.1))[k]? = some (xs[k]'hxk).1 := by rw [List.getElem?_map, List.getElem?_eq_getElem hxk]; rfl
      rw [← hd2, List.getElem?_map] at h3
      have h4 : [0, 1, 2, 3, 4][k]? = some k := by
        have : k = 0 ∨ k = 1 ∨ k = 2 ∨ k = 3 ∨ k = 4 := by omega
        rcases this with rfl | rfl | rfl | rfl | rfl <;> rfl
      rw [h4] at h3
      exact (Option.some.inj h3).symm
    have h5 : DataW.trod (fun _ => ()) Tryz.prog W 0 (fun _ => true) false m 334 ((cs.toList.drop (k * 1)).take 1) = some (.slice ((rowsP k).map rowD5) [], (xs[k]'hxk).2) := by rw [h1, ← h2]
    obtain ⟨tb, tq, rc, hcs, hr⟩ := laid_prows h5 (rowsP_pos k)
    refine ⟨tb, tq, rc, ?_, hr⟩
    have h6 : ((cs.toList.drop (k * 1)).take 1)[0]? = some (.slice (some ⟨tb, tq, none⟩) (len (rowsP k)) rc) := by rw [hcs]; rfl
    rw [List.getElem?_take, if_pos (by decide), List.getElem?_drop] at h6
    simpa using h6
  have hlt : 4 < W.heap.size := by
    obtain ⟨tb, tq, rc, h1, h2⟩ := key 0 (by decide)
    have := World.var?_cell hg hv 0
    exact lt_of_cell (this.trans h1)
  refine ⟨hlt, Nat.le_refl _, fun k hk => ?_⟩
  obtain ⟨tb, tq, rc, h1, h2⟩ := key k hk
  refine ⟨tb, tq, rc, ?_, (World.var?_cell hg hv k).trans h1, h2⟩
  obtain ⟨b, off, e, hR⟩ := h2 0 (rowsP_pos k)
  cases e
  exact lt_of_cell hR.c0
end Go.Proofs.YtihiaopilnjonaaGreatDoor
namespace Go.Proofs.YtihiaopilnjonaaGreatDoor
set_option linter.unusedSimpArgs false
set_option linter.unusedVariables false
open Go.RowKit Go.ChangeShapes Go.WideShapes Go.ChangeAt
set_option maxRecDepth 100000 in
theorem of_laidW {W : World} (h : laidMetH Tryz.prog Rows.wirePartsRow.laid W) : TE7 W.heap.size W := by
  have h' : laidMet Tryz.prog (Rows.wirePartsRow.laid.filter fun x => x.2.handleName?.isNone) W ∧ handlesMet Tryz.prog (Rows.wirePartsRow.laid.filter fun x => x.2.handleName?.isSome) W := h
  obtain ⟨⟨ps, ⟨gp, tp, csp, fp, pp, qp, hgp, htp, hvp, hdp, ⟨g0, t0, cs0, f0, p0, q0, hg0, ht0, hv0, hd0, ⟨g1, t1, cs1, f1, p1, q1, hg1, ht1, hv1, hd1, ⟨g2, t2, cs2, f2, p2, q2, hg2, ht2, hv2, hd2, ⟨g3, t3, cs3, f3, p3, q3, hg3, ht3, hv3, hd3, ⟨g4, t4, cs4, f4, p4, q4, hg4, ht4, hv4, hd4, _⟩, _⟩, _⟩, _⟩, _⟩, _⟩, _, _⟩, hH⟩ := h'
  obtain rfl : 4 = gp := Option.some.inj ((show _ = some 4 by kernel_rfl).symm.trans hgp)
  obtain rfl : 335 = tp := Option.some.inj ((show _ = some 335 by kernel_rfl).symm.trans htp)
  obtain rfl : 1 = g0 := Option.some.inj ((show _ = some 1 by kernel_rfl).symm.trans hg0)
  obtain rfl : 313 = t0 := Option.some.inj ((show _ = some 313 by kernel_rfl).symm.trans ht0)
  obtain rfl : 5 = g1 := Option.some.inj ((show _ = some 5 by kernel_rfl).symm.trans hg1)
  obtain rfl : 313 = t1 := Option.some.inj ((show _ = some 313 by kernel_rfl).symm.trans ht1)
  obtain rfl : 3 = g2 := Option.some.inj ((show _ = some 3 by kernel_rfl).symm.trans hg2)
  obtain rfl : 313 = t2 := Option.some.inj ((show _ = some 313 by kernel_rfl).symm.trans ht2)
  obtain rfl : 6 = g3 := Option.some.inj ((show _ = some 6 by kernel_rfl).symm.trans hg3)
  obtain rfl : 313 = t3 := Option.some.inj ((show _ = some 313 by kernel_rfl).symm.trans ht3)
  obtain rfl : 2 = g4 := Option.some.inj ((show _ = some 2 by kernel_rfl).symm.trans hg4)
  obtain rfl : 313 = t4 := Option.some.inj ((show _ = some 313 by kernel_rfl).symm.trans ht4)
  have hET : ErrType W := by
    obtain ⟨name, u, ty, e1, e2, e3, e4, e5⟩ := hH Rows.wirePartsRow.laid[1] (List.mem_singleton.2 rfl)
    have en : name = [101, 114, 114, 111, 114] := (Option.some.inj e1).symm
    subst en
    obtain rfl : 284 = u := Option.some.inj ((show _ = some 284 by kernel_rfl).symm.trans e2)
    have hm : ty ∈ (List.range Tryz.prog.types.size).filter fun t => Tryz.prog.rowNamed t [101, 114, 114, 111, 114] := List.mem_filter.2 ⟨List.mem_range.2 e3, e4⟩
    rw [oneRow] at hm
    obtain rfl := List.mem_singleton.1 hm
    have hg : Tryz.prog.globalNamed Rows.wirePartsRow.laid[1].1 = some 0 := (by kernel_rfl)
    exact World.var?_cell hg e5 0
  exact ⟨ptab_of rfl hgp hvp hdp, ⟨tab_of (by decide) hg0 hv0 hd0, tab_of (by decide) hg3 hv3 hd3, tab_of (by decide) hg1 hv1 hd1, tab_of (by decide) hg2 hv2 hd2, tab_of (by decide) hg4 hv4 hd4⟩, hET, Nat.le_refl _, lt_of_cell hET⟩
end Go.Proofs.YtihiaopilnjonaaGreatDoor
namespace Go.Proofs.YtihiaopilnjonaaGreatDoor
open Go.RowKit
set_option linter.unusedSimpArgs false
set_option linter.unusedVariables false
def recV (r : Except Flt Rcd) (x0 : Rcd) : Rcd := match r with | .ok x => x | .error _ => x0
def fltV (r : Except Flt Rcd) : Flt := match r with | .ok _ => (0, 0) | .error f => f
def NeV (r : Except Flt Rcd) : Prop := match r with | .ok _ => True | .error f => f.1 ≠ 0
def Tells (B : Nat) (ev : Value) (r : Except Flt Rcd) (w : World) : Prop := NeV r → ∀ w', Below w.heap.size w w' → TE7 B w' → Calls Tryz.prog 31 #[ev, .agg #[.int .i64 (fltV r).1, .int .i64 (fltV r).2]] w' fun e w'' => e = .returned (.bool true) ∧ Below w'.heap.size w' w''
theorem tells_ok (B : Nat) (x : Rcd) (w : World) : Tells B .nilIface (.ok x) w := fun _ w' _ _ => told_none w'
theorem tells_no {B fb : Nat} {f : Flt} {w : World} (h : FltB w fb f.1 f.2) : Tells B (.iface 127 (.pointer (some ⟨fb, 0, none⟩))) (.error f) w := fun hn w' hb ht =>
  told_fault fb f.1 f.2 w' ht.e (h.below hb) hn (Nat.lt_of_lt_of_le ht.g ht.s)
theorem Tells.below {B : Nat} {ev : Value} {r : Except Flt Rcd} {w w' : World} (h : Tells B ev r w) (hb : Below w.heap.size w w') : Tells B ev r w' := fun hn w'' hb2 ht => h hn w'' (bnext hb hb2) ht
theorem rpMsg_any (B : Nat) (s : ByteArray) (w : World) (h : TE7 B w) (hs : s.size ≤ 140737488355328) : Calls Tryz.prog 42 #[.string s] w fun e w' => ∃ ev, e = .returned (.tuple #[.agg (cellsMsg (recV (readR s (msgGs s) msg0) msg0)), ev]) ∧ Tells B ev (readR s (msgGs s) msg0) w' ∧ Below w.heap.size w w' := by
  refine (reaMsg_any B s w h.t h.e h.s h.g (Nat.le_trans hs (by decide))).mono ?_
  rintro e w' ⟨hb, hh⟩
  cases hr : readR s (msgGs s) msg0 with
  | error f =>
    rw [hr] at hh
    obtain ⟨fb, he, hf⟩ := hh
    exact ⟨_, he, tells_no hf, hb⟩
  | ok y =>
    rw [hr] at hh
    exact ⟨_, hh.2.2, tells_ok B y w', hb⟩
theorem rrMsg_any (s : ByteArray) (w : World) (hs : s.size ≤ 140737488355328) : Calls Tryz.prog 43 #[.string s] w fun e w' => e = .returned (.tuple #[.agg (cellsMsg (recV (readR s (msgGs s) msg0) msg0)), .agg #[.int .i64 (fltV (readR s (msgGs s) msg0)).1, .int .i64 (fltV (readR s (msgGs s) msg0)).2]]) ∧ NeV (readR s (msgGs s) msg0) ∧ Below w.heap.size w w' := by
  refine (rreMsg_any s w hs).mono ?_
  rintro e w' ⟨hh, hb⟩
  rw [rdMsg_same] at hh
  cases hr : readR s (msgGs s) msg0 with
  | error f =>
    rw [hr] at hh
    exact ⟨hh.2, hh.1, hb⟩
  | ok y =>
    rw [hr] at hh
    exact ⟨hh.2, trivial, hb⟩
theorem rpHeader_any (B : Nat) (s : ByteArray) (w : World) (h : TE7 B w) (hs : s.size ≤ 140737488355328) : Calls Tryz.prog 44 #[.string s] w fun e w' => ∃ ev, e = .returned (.tuple #[.agg (cellsHeader (recV (readR s (headerGs s) header0) header0)), ev]) ∧ Tells B ev (readR s (headerGs s) header0) w' ∧ Below w.heap.size w w' := by
  refine (reaHeader_any B s w h.t h.e h.s h.g (Nat.le_trans hs (by decide))).mono ?_
  rintro e w' ⟨hb, hh⟩
  cases hr : readR s (headerGs s) header0 with
  | error f =>
    rw [hr] at hh
    obtain ⟨fb, he, hf⟩ := hh
    exact ⟨_, he, tells_no hf, hb⟩
  | ok y =>
    rw [hr] at hh
    exact ⟨_, hh.2.2, tells_ok B y w', hb⟩
theorem rrHeader_any (s : ByteArray) (w : World) (hs : s.size ≤ 140737488355328) : Calls Tryz.prog 45 #[.string s] w fun e w' => e = .returned (.tuple #[.agg (cellsHeader (recV (readR s (headerGs s) header0) header0)), .agg #[.int .i64 (fltV (readR s (headerGs s) header0)).1, .int .i64 (fltV (readR s (headerGs s) header0)).2]]) ∧ NeV (readR s (headerGs s) header0) ∧ Below w.heap.size w w' := by
  refine (rreHeader_any s w hs).mono ?_
  rintro e w' ⟨hh, hb⟩
  rw [rdHeader_same] at hh
  cases hr : readR s (headerGs s) header0 with
  | error f =>
    rw [hr] at hh
    exact ⟨hh.2, hh.1, hb⟩
  | ok y =>
    rw [hr] at hh
    exact ⟨hh.2, trivial, hb⟩
end Go.Proofs.YtihiaopilnjonaaGreatDoor
namespace Go.Proofs.YtihiaopilnjonaaGreatDoor
open Go.RowKit
set_option linter.unusedSimpArgs false
set_option linter.unusedVariables false
def pick5 (a b c d e : ByteArray) : Nat → ByteArray
  | 0 => a
  | 1 => b
  | 2 => c
  | 3 => d
  | _ => e
theorem pick5_at (a b c d e : ByteArray) (m : Nat) (h : m < 5) : (#[Value.string a, .string b, .string c, .string d, .string e] : Array Value)[m]? = some (.string (pick5 a b c d e m)) := by
  match m, h with
  | 0, _ => rfl
  | 1, _ => rfl
  | 2, _ => rfl
  | 3, _ => rfl
  | 4, _ => rfl
theorem pick5_size {a b c d e : ByteArray} {n : Nat} (ha : a.size ≤ n) (hb : b.size ≤ n) (hc : c.size ≤ n) (hd : d.size ≤ n) (he : e.size ≤ n) (m : Nat) : (pick5 a b c d e m).size ≤ n := by
  match m with
  | 0 => exact ha
  | 1 => exact hb
  | 2 => exact hc
  | 3 => exact hd
  | _ + 4 => exact he
theorem msgSz {hd pt : ByteArray} {cnt prv fst lst : Int} (h : allMay (msgSpecs hd pt cnt prv fst lst) = true) : (layP (msgSpecs hd pt cnt prv fst lst)).size ≤ 1000 := by
  have h1 : hd.size = 32 := of_decide_eq_true (may_all h ⟨⟨#[104]⟩, true, false, decide (hd.size = 32), binP hd⟩ (by unfold msgSpecs; simp))
  have h2 : pt.size = 32 := of_decide_eq_true (may_all h ⟨⟨#[118]⟩, true, false, decide (pt.size = 32), binP pt⟩ (by unfold msgSpecs; simp))
  have b1 := binP_len hd
  have b2 := binP_len pt
  refine Nat.le_trans (layP_size _ 41 fun f hf => ?_) (show 9 + 6 * 51 ≤ 1000 by decide)
  unfold msgSpecs at hf
  simp only [List.mem_cons, List.not_mem_nil, or_false] at hf
  rcases hf with rfl | rfl | rfl | rfl | rfl | rfl
  · exact ⟨Nat.le_refl _, Nat.le_trans (numP_size _) (by decide)⟩
  · exact ⟨Nat.le_refl _, by show (binP hd).size ≤ 41; omega⟩
  · exact ⟨Nat.le_refl _, Nat.le_trans (numP_size _) (by decide)⟩
  · exact ⟨Nat.le_refl _, Nat.le_trans (numP_size _) (by decide)⟩
  · exact ⟨Nat.le_refl _, by show (binP pt).size ≤ 41; omega⟩
  · exact ⟨Nat.le_refl _, Nat.le_trans (numP_size _) (by decide)⟩
theorem headerSz {rnd : Int} {prev txns seed : ByteArray} (h : allMay (headerSpecs rnd prev txns seed) = true) : (layP (headerSpecs rnd prev txns seed)).size ≤ 1000 := by
  have h1 : prev.size = 32 := of_decide_eq_true (may_all h ⟨⟨#[112]⟩, true, false, decide (prev.size = 32), binP prev⟩ (by unfold headerSpecs; simp))
  have h2 : seed.size = 32 := of_decide_eq_true (may_all h ⟨⟨#[115]⟩, true, false, decide (seed.size = 32), binP seed⟩ (by unfold headerSpecs; simp))
  have h3 : txns.size = 32 := of_decide_eq_true (may_all h ⟨⟨#[116]⟩, true, false, decide (txns.size = 32), binP txns⟩ (by unfold headerSpecs; simp))
  have b1 := binP_len prev
  have b2 := binP_len seed
  have b3 := binP_len txns
  refine Nat.le_trans (layP_size _ 41 fun f hf => ?_) (show 9 + 4 * 51 ≤ 1000 by decide)
  unfold headerSpecs at hf
  simp only [List.mem_cons, List.not_mem_nil, or_false] at hf
  rcases hf with rfl | rfl | rfl | rfl
  · exact ⟨Nat.le_refl _, by show (binP prev).size ≤ 41; omega⟩
  · exact ⟨Nat.le_refl _, Nat.le_trans (numP_size _) (by decide)⟩
  · exact ⟨Nat.le_refl _, by show (binP seed).size ≤ 41; omega⟩
  · exact ⟨Nat.le_refl _, by show (binP txns).size ≤ 41; omega⟩
theorem text_size {fs : List FSpec} {n : Nat} (h : allMay fs = true → (layP fs).size ≤ n) : (TextOf fs).size ≤ n := by
  unfold TextOf
  cases hm : allMay fs with
  | true => exact h hm
  | false => exact Nat.zero_le _
set_option maxRecDepth 100000 in
set_option maxHeartbeats 4000000 in
theorem msgs7_law (B : Nat) (m0 m1 : ByteArray) (m2 m3 m4 m5 : Int) (h0 : Int) (h1 h2 h3 : ByteArray) (s : ByteArray) (ta ty ts : Int) (w : World) (h : TE7 B w) (q0 : m0.size ≤ 9223372036854775807) (q1 : m1.size ≤ 9223372036854775807) (q2 : U64i m2) (q3 : U64i m3) (q4 : U64i m4) (q5 : U64i m5)
    (r0 : U64i h0) (r1 : h1.size ≤ 9223372036854775807) (r2 : h2.size ≤ 9223372036854775807) (r3 : h3.size ≤ 9223372036854775807) (hs : s.size ≤ 9223372036854775807) (ha : 0 ≤ ta ∧ ta ≤ 65535) (hy : 0 ≤ ty ∧ ty ≤ 255) :
    Calls Tryz.prog 7 #[.agg #[.string m0, .string m1, .int .u64 m2, .int .u64 m3, .int .u64 m4, .int .u64 m5, .int .u64 h0, .string h1, .string h2, .string h3], .string s, .agg #[.int .u16 ta, .int .u8 ty, .int .i64 ts]] w fun e w' => e = .returned (.bool true) ∧ Below w.heap.size w w' := by
  have HE := Lib.hid h
  obtain ⟨fm, hfm⟩ : ∃ fs, (msgSpecs m0 m1 m2 m3 m4 m5) = fs := ⟨_, rfl⟩
  obtain ⟨fh, hfh⟩ : ∃ fs, (headerSpecs h0 h1 h2 h3) = fs := ⟨_, rfl⟩
  have HWM := Lib.hid (fun w' (h : TE7 B w') => wmsg2_any B m0 m1 m2 m3 m4 m5 w' h.p q0 q1 q2 q3 q4 q5 (fun h => Nat.le_trans (msgSz h) (by decide)))
  have HRM := Lib.hid (fun w' => rmsg_any m0 m1 m2 m3 m4 m5 w' q0 q1 q2 q3 q4 q5)
  have HWH := Lib.hid (fun w' (h : TE7 B w') => wheader2_any B h0 h1 h2 h3 w' h.p r0 r1 r2 r3 (fun h => Nat.le_trans (headerSz h) (by decide)))
  have HRH := Lib.hid (fun w' => rheader_any h0 h1 h2 h3 w' r0 r1 r2 r3)
  have HBZ : Hid ((TextOf fm).size ≤ 140737488355328) := Lib.hid (by rw [← hfm]; exact Nat.le_trans (text_size msgSz) (by decide))
  have HDZ : Hid ((TextOf fh).size ≤ 140737488355328) := Lib.hid (by rw [← hfh]; exact Nat.le_trans (text_size headerSz) (by decide))
  rw [hfm] at HWM HRM
  rw [hfh] at HWH HRH
  clear h hfm hfh
  go_enter Tryz.func7, Tryz.ntmps7
  go_upto_region 1 with fail
  obtain ⟨pb, hpb⟩ : ∃ pb, w.heap.size = pb := ⟨_, rfl⟩
  obtain ⟨tb, htb⟩ : ∃ tb, pb + 1 = tb := ⟨_, rfl⟩
  obtain ⟨V, hV⟩ : ∃ V, (w.alloc (.cells #[.string m0, .string m1, .int .u64 m2, .int .u64 m3, .int .u64 m4, .int .u64 m5, .int .u64 h0, .string h1, .string h2, .string h3] 80)).alloc (.cells #[.int .u16 ta, .int .u8 ty, .int .i64 ts] 55) = V := ⟨_, rfl⟩
  have HB : Hid (Below w.heap.size w V) := Lib.hid (by rw [← hV]; exact balloc (balloc (Below.refl _ _) _) _)
  have HP : Hid (V.heap[pb]? = some (.cells #[.string m0, .string m1, .int .u64 m2, .int .u64 m3, .int .u64 m4, .int .u64 m5, .int .u64 h0, .string h1, .string h2, .string h3] 80 (0, 0))) := Lib.hid (by rw [← hV, ← hpb]; exact block_alloc (heap_alloc_new _ _) _)
  have HT : Hid (V.heap[tb]? = some (.cells #[.int .u16 ta, .int .u8 ty, .int .i64 ts] 55 (0, 0))) := Lib.hid (by rw [← hV, ← htb, ← hpb]; exact alloc_new_at _ (by simp))
  have HE := Lib.hid (HE.out.below HB.out)
  simp only [hV, hpb, htb]
  have cP : ∀ o, V.cell? ⟨pb, o, none⟩ = _ := block_cell HP.out
  clear hV htb hpb
  go_wp2_with fail
  refine (HWM.out V HE.out).mono ?_
  rintro e w1 hh
  obtain ⟨rfl, hb⟩ := hh.both
  have HB := Lib.hid (bnext HB.out hb)
  have HE := Lib.hid (HE.out.below hb)
  have HP := Lib.hid ((hb.block _ (lt_of_block HP.out)).trans HP.out)
  have HT := Lib.hid ((hb.block _ (lt_of_block HT.out)).trans HT.out)
  clear cP hh hb
  have cP : ∀ o, w1.cell? ⟨pb, o, none⟩ = _ := block_cell HP.out
  go_wp2_with fail
  refine (HRM.out w1).mono ?_
  rintro e w2 hh
  obtain ⟨rfl, hb⟩ := hh.both
  have HB := Lib.hid (bnext HB.out hb)
  have HE := Lib.hid (HE.out.below hb)
  have HP := Lib.hid ((hb.block _ (lt_of_block HP.out)).trans HP.out)
  have HT := Lib.hid ((hb.block _ (lt_of_block HT.out)).trans HT.out)
  clear cP hh hb
  have cP : ∀ o, w2.cell? ⟨pb, o, none⟩ = _ := block_cell HP.out
  go_wp2_with fail
  refine (HWH.out w2 HE.out).mono ?_
  rintro e w3 hh
  obtain ⟨rfl, hb⟩ := hh.both
  have HB := Lib.hid (bnext HB.out hb)
  have HE := Lib.hid (HE.out.below hb)
  have HP := Lib.hid ((hb.block _ (lt_of_block HP.out)).trans HP.out)
  have HT := Lib.hid ((hb.block _ (lt_of_block HT.out)).trans HT.out)
  clear cP hh hb
  have cP : ∀ o, w3.cell? ⟨pb, o, none⟩ = _ := block_cell HP.out
  go_wp2_with fail
  refine (HRH.out w3).mono ?_
  rintro e w4 hh
  obtain ⟨rfl, hb⟩ := hh.both
  have HB := Lib.hid (bnext HB.out hb)
  have HE := Lib.hid (HE.out.below hb)
  have HP := Lib.hid ((hb.block _ (lt_of_block HP.out)).trans HP.out)
  have HT := Lib.hid ((hb.block _ (lt_of_block HT.out)).trans HT.out)
  clear cP hh hb
  have cP : ∀ o, w4.cell? ⟨pb, o, none⟩ = _ := block_cell HP.out
  clear cP HP HWM HRM HWH HRH
  generalize TextOf fm = b at HBZ
  generalize CodeOf fm = c
  generalize TextOf fh = d at HDZ
  generalize CodeOf fh = g
  obtain ⟨k, hk⟩ : ∃ k, min s.size 300 = k := ⟨_, rfl⟩
  have mn : min (s.size : Int) 300 = (k : Int) := by rw [← hk]; omega
  have sl : k ≤ s.size := by rw [← hk]; exact Nat.min_le_left _ _
  have HK : Hid (k ≤ 300) := Lib.hid (by rw [← hk]; exact Nat.min_le_right _ _)
  obtain ⟨v0, hv0⟩ : ∃ v, s.extract 0 k = v := ⟨_, rfl⟩
  have HV0 : Hid (v0.size ≤ 300) := Lib.hid (by rw [← hv0, ByteArray.size_extract]; have := HK.out; omega)
  have HTN := Lib.hid (fun w' => turned_any b ta ty ts w' ha hy HBZ.out)
  have HTD := Lib.hid (fun w' => turned_any d ta ty ts w' ha hy HDZ.out)
  clear hk
  go_upto_region 7 with fail
  obtain ⟨W, hW⟩ : ∃ W, w4 = W := ⟨_, rfl⟩
  rw [hW] at HB HE HT ⊢
  clear hW
  have y0 : W.cell? ⟨tb, 0, none⟩ = some (.int .u16 ta) := block_cell HT.out 0
  have y1 : W.cell? ⟨tb, 1, none⟩ = some (.int .u8 ty) := block_cell HT.out 1
  have y2 : W.cell? ⟨tb, 2, none⟩ = some (.int .i64 ts) := block_cell HT.out 2
  refine wp_region_tail 15 1000 (none) (phis [fun u _ => u = (.string s), fun u _ => u = (.string s), fun u _ => u = (.int .i64 s.size), fun u _ => u = (.int .i64 k), fun u _ => u = (.string v0), fun u _ => u = (.string b), fun u _ => u = (.string d), fun u _ => u = (.string b), fun u _ => u = (.agg #[.int .u16 ta, .int .u8 ty, .int .i64 ts]), fun u _ => ∃ t : ByteArray, u = .string t ∧ t.size ≤ 140737488355328, fun u _ => u = (.string d), fun u _ => u = (.agg #[.int .u16 ta, .int .u8 ty, .int .i64 ts]), fun u _ => ∃ t : ByteArray, u = .string t ∧ t.size ≤ 140737488355328, fun u _ => ∃ t t2 : ByteArray, u = .agg #[.string v0, .string b, .string d, .string t, .string t2] ∧ t.size ≤ 140737488355328 ∧ t2.size ≤ 140737488355328, fun u w' => ∃ c, u = .pointer (some ⟨c, 0, none⟩) ∧ W.heap.size ≤ c ∧ w'.heap[c]? = some (.cells #[.string ⟨#[]⟩, .string ⟨#[]⟩, .string ⟨#[]⟩, .string ⟨#[]⟩, .string ⟨#[]⟩] 83 (0, 0))]) rfl (by kernel_rfl) (by kernel_rfl) (mono_of ⟨mono_eq, mono_eq, mono_eq, mono_eq, mono_eq, mono_eq, mono_eq, mono_eq, mono_eq, mono_eq, mono_eq, mono_eq, mono_eq, mono_eq, ?m14, trivial⟩) (steps_of 15 ⟨?s0, ?s1, ?s2, ?s3, ?s4, ?s5, ?s6, ?s7, ?s8, ?s9, ?s10, ?s11, ?s12, ?s13, ?s14, trivial⟩) ?_
  case m14 =>
    exact ⟨fun u w1 w2 h ⟨c, h1, h2, h3⟩ => ⟨c, h1, h2, ext_block h h3⟩, fun _ u w1 w2 h ⟨c, h1, h2, h3⟩ => ⟨c, h1, h2, extB_block h (by simp) h3⟩⟩
  case s0 =>
    refine step_val (v := (.string s)) (fun av wv hE hS hO hD => ?_) (fun _ => rfl)
    have h1 : av.eval (.tmp 1) = (.string s) := hO.2.2 1 rfl
    have f1 := (ev_form av 1).symm.trans h1
    refine ⟨rfl, ?_⟩
    simp [go_sem, f1, mn, sl, hv0]
  case s1 =>
    refine step_val (v := (.string s)) (fun av wv hE hS hO hD => ?_) (fun _ => rfl)
    have h1 : av.eval (.tmp 1) = (.string s) := hO.2.2 1 rfl
    have f1 := (ev_form av 1).symm.trans h1
    refine ⟨rfl, ?_⟩
    simp [go_sem, f1, mn, sl, hv0]
  case s2 =>
    refine step_val (v := (.int .i64 s.size)) (fun av wv hE hS hO hD => ?_) (fun _ => rfl)
    have d68 : av.eval (.tmp 68) = (.string s) := hD.1 rfl _ rfl
    have f68 := (ev_form av 68).symm.trans d68
    refine ⟨rfl, ?_⟩
    simp [go_sem, f68, mn, sl, hv0]
  case s3 =>
    refine step_val (v := (.int .i64 k)) (fun av wv hE hS hO hD => ?_) (fun _ => rfl)
    have d69 : av.eval (.tmp 69) = (.int .i64 s.size) := hD.1 rfl _ rfl
    have f69 := (ev_form av 69).symm.trans d69
    refine ⟨rfl, ?_⟩
    simp [go_sem, f69, mn, sl, hv0]
  case s4 =>
    refine step_val (v := (.string v0)) (fun av wv hE hS hO hD => ?_) (fun _ => rfl)
    have d67 : av.eval (.tmp 67) = (.string s) := hD.1 rfl _ rfl
    have f67 := (ev_form av 67).symm.trans d67
    have d70 : av.eval (.tmp 70) = (.int .i64 k) := hD.2.1 rfl _ rfl
    have f70 := (ev_form av 70).symm.trans d70
    refine ⟨rfl, ?_⟩
    simp [go_sem, f67, f70, mn, sl, hv0]
  case s5 =>
    refine step_val (v := (.string b)) (fun av wv hE hS hO hD => ?_) (fun _ => rfl)
    have h9 : av.eval (.tmp 9) = (.string b) := hO.2.2 9 rfl
    have f9 := (ev_form av 9).symm.trans h9
    refine ⟨rfl, ?_⟩
    simp [go_sem, f9, mn, sl, hv0]
  case s6 =>
    refine step_val (v := (.string d)) (fun av wv hE hS hO hD => ?_) (fun _ => rfl)
    have h13 : av.eval (.tmp 13) = (.string d) := hO.2.2 13 rfl
    have f13 := (ev_form av 13).symm.trans h13
    refine ⟨rfl, ?_⟩
    simp [go_sem, f13, mn, sl, hv0]
  case s7 =>
    refine step_val (v := (.string b)) (fun av wv hE hS hO hD => ?_) (fun _ => rfl)
    have h9 : av.eval (.tmp 9) = (.string b) := hO.2.2 9 rfl
    have f9 := (ev_form av 9).symm.trans h9
    refine ⟨rfl, ?_⟩
    simp [go_sem, f9, mn, sl, hv0]
  case s8 =>
    refine step_val (v := (.agg #[.int .u16 ta, .int .u8 ty, .int .i64 ts])) (fun av wv hE hS hO hD => ?_) (fun _ => rfl)
    have h5 : av.eval (.tmp 5) = (.pointer (some ⟨tb, 0, none⟩)) := hO.2.2 5 rfl
    have f5 := (ev_form av 5).symm.trans h5
    have y0 := extB_cell hE (by simp) y0
    have y1 := extB_cell hE (by simp) y1
    have y2 := extB_cell hE (by simp) y2
    refine ⟨rfl, ?_⟩
    simp [go_sem, f5, y0, y1, y2, mn, sl, hv0]
  case s9 =>
    refine step_wp (fun av wv hE hS hO hD => ?_)
    have d74 : av.eval (.tmp 74) = (.string b) := hD.1 rfl _ rfl
    have f74 := (ev_form av 74).symm.trans d74
    have d75 : av.eval (.tmp 75) = (.agg #[.int .u16 ta, .int .u8 ty, .int .i64 ts]) := hD.2.1 rfl _ rfl
    have f75 := (ev_form av 75).symm.trans d75
    refine ⟨rfl, ?_⟩
    exact wp_of_callR (f := 28) (args := #[.string b, .agg #[.int .u16 ta, .int .u8 ty, .int .i64 ts]]) (R := fun u w2 => (∃ t : ByteArray, u = .string t ∧ t.size ≤ 140737488355328) ∧ Below wv.heap.size wv w2) (by simp [go_sem, f74, f75]) ((HTN.out wv).mono (fun e w2 ⟨t, h1, h2, h3⟩ => ⟨_, h1, ⟨t, rfl, Nat.le_trans h2 HBZ.out⟩, h3⟩)) (fun u w2 ⟨h1, h2⟩ => ⟨u, rfl, es_of_ext h2, h1⟩)
  case s10 =>
    refine step_val (v := (.string d)) (fun av wv hE hS hO hD => ?_) (fun _ => rfl)
    have h13 : av.eval (.tmp 13) = (.string d) := hO.2.2 13 rfl
    have f13 := (ev_form av 13).symm.trans h13
    refine ⟨rfl, ?_⟩
    simp [go_sem, f13, mn, sl, hv0]
  case s11 =>
    refine step_val (v := (.agg #[.int .u16 ta, .int .u8 ty, .int .i64 ts])) (fun av wv hE hS hO hD => ?_) (fun _ => rfl)
    have h5 : av.eval (.tmp 5) = (.pointer (some ⟨tb, 0, none⟩)) := hO.2.2 5 rfl
    have f5 := (ev_form av 5).symm.trans h5
    have y0 := extB_cell hE (by simp) y0
    have y1 := extB_cell hE (by simp) y1
    have y2 := extB_cell hE (by simp) y2
    refine ⟨rfl, ?_⟩
    simp [go_sem, f5, y0, y1, y2, mn, sl, hv0]
  case s12 =>
    refine step_wp (fun av wv hE hS hO hD => ?_)
    have d77 : av.eval (.tmp 77) = (.string d) := hD.1 rfl _ rfl
    have f77 := (ev_form av 77).symm.trans d77
    have d78 : av.eval (.tmp 78) = (.agg #[.int .u16 ta, .int .u8 ty, .int .i64 ts]) := hD.2.1 rfl _ rfl
    have f78 := (ev_form av 78).symm.trans d78
    refine ⟨rfl, ?_⟩
    exact wp_of_callR (f := 28) (args := #[.string d, .agg #[.int .u16 ta, .int .u8 ty, .int .i64 ts]]) (R := fun u w2 => (∃ t : ByteArray, u = .string t ∧ t.size ≤ 140737488355328) ∧ Below wv.heap.size wv w2) (by simp [go_sem, f77, f78]) ((HTD.out wv).mono (fun e w2 ⟨t, h1, h2, h3⟩ => ⟨_, h1, ⟨t, rfl, Nat.le_trans h2 HDZ.out⟩, h3⟩)) (fun u w2 ⟨h1, h2⟩ => ⟨u, rfl, es_of_ext h2, h1⟩)
  case s13 =>
    refine step_wp (fun av wv hE hS hO hD => ?_)
    have d71 : av.eval (.tmp 71) = (.string v0) := hD.1 rfl _ rfl
    have f71 := (ev_form av 71).symm.trans d71
    have d72 : av.eval (.tmp 72) = (.string b) := hD.2.1 rfl _ rfl
    have f72 := (ev_form av 72).symm.trans d72
    have d73 : av.eval (.tmp 73) = (.string d) := hD.2.2.1 rfl _ rfl
    have f73 := (ev_form av 73).symm.trans d73
    have d76 : (fun u _ => ∃ t : ByteArray, u = .string t ∧ t.size ≤ 140737488355328) (av.eval (.tmp 76)) wv := hD.2.2.2.1 rfl _ rfl
    have d79 : (fun u _ => ∃ t : ByteArray, u = .string t ∧ t.size ≤ 140737488355328) (av.eval (.tmp 79)) wv := hD.2.2.2.2.1 rfl _ rfl
    refine ⟨rfl, ?_⟩
    obtain ⟨t, ht, hz⟩ := d76
    have f76 := (ev_form av 76).symm.trans ht
    obtain ⟨t2, ht2, hz2⟩ := d79
    have f79 := (ev_form av 79).symm.trans ht2
    exact wp_of_run (v := .agg #[.string v0, .string b, .string d, .string t, .string t2]) (by simp [go_sem, f71, f72, f73, f76, f79]) ⟨_, rfl, es_of_ext (Ext_refl _), t, t2, rfl, hz, hz2⟩
  case s14 =>
    refine step_wp (fun av wv hE hS hO hD => ?_)
    refine ⟨rfl, ?_⟩
    exact wp_of_run (v := .pointer (some ⟨wv.heap.size, 0, none⟩)) (w' := wv.alloc (.cells #[.string ⟨#[]⟩, .string ⟨#[]⟩, .string ⟨#[]⟩, .string ⟨#[]⟩, .string ⟨#[]⟩] 83)) (by simp [go_sem]) ⟨_, rfl, es_of_ext (balloc (Ext_refl _) _), wv.heap.size, rfl, (by have := hE.size; simpa using this), heap_alloc_new _ _⟩
  intro a' w' hE hO hall
  have hA := act_of_outer (ds := [67, 68, 69, 70, 71, 72, 73, 74, 75, 76, 77, 78, 79, 80, 15]) rfl hO (by kernel_rfl)
  have e67 : (fun u _ => u = (.string s)) (a'.eval (.tmp 67)) w' := hall.1 _ rfl
  have e68 : (fun u _ => u = (.string s)) (a'.eval (.tmp 68)) w' := hall.2.1 _ rfl
  have e69 : (fun u _ => u = (.int .i64 s.size)) (a'.eval (.tmp 69)) w' := hall.2.2.1 _ rfl
  have e70 : (fun u _ => u = (.int .i64 k)) (a'.eval (.tmp 70)) w' := hall.2.2.2.1 _ rfl
  have e71 : (fun u _ => u = (.string v0)) (a'.eval (.tmp 71)) w' := hall.2.2.2.2.1 _ rfl
  have e72 : (fun u _ => u = (.string b)) (a'.eval (.tmp 72)) w' := hall.2.2.2.2.2.1 _ rfl
  have e73 : (fun u _ => u = (.string d)) (a'.eval (.tmp 73)) w' := hall.2.2.2.2.2.2.1 _ rfl
  have e74 : (fun u _ => u = (.string b)) (a'.eval (.tmp 74)) w' := hall.2.2.2.2.2.2.2.1 _ rfl
  have e75 : (fun u _ => u = (.agg #[.int .u16 ta, .int .u8 ty, .int .i64 ts])) (a'.eval (.tmp 75)) w' := hall.2.2.2.2.2.2.2.2.1 _ rfl
  have e76 : (fun u _ => ∃ t : ByteArray, u = .string t ∧ t.size ≤ 140737488355328) (a'.eval (.tmp 76)) w' := hall.2.2.2.2.2.2.2.2.2.1 _ rfl
  have e77 : (fun u _ => u = (.string d)) (a'.eval (.tmp 77)) w' := hall.2.2.2.2.2.2.2.2.2.2.1 _ rfl
  have e78 : (fun u _ => u = (.agg #[.int .u16 ta, .int .u8 ty, .int .i64 ts])) (a'.eval (.tmp 78)) w' := hall.2.2.2.2.2.2.2.2.2.2.2.1 _ rfl
  have e79 : (fun u _ => ∃ t : ByteArray, u = .string t ∧ t.size ≤ 140737488355328) (a'.eval (.tmp 79)) w' := hall.2.2.2.2.2.2.2.2.2.2.2.2.1 _ rfl
  have e80 : (fun u _ => ∃ t t2 : ByteArray, u = .agg #[.string v0, .string b, .string d, .string t, .string t2] ∧ t.size ≤ 140737488355328 ∧ t2.size ≤ 140737488355328) (a'.eval (.tmp 80)) w' := hall.2.2.2.2.2.2.2.2.2.2.2.2.2.1 _ rfl
  have e15 : (fun u w' => ∃ c, u = .pointer (some ⟨c, 0, none⟩) ∧ W.heap.size ≤ c ∧ w'.heap[c]? = some (.cells #[.string ⟨#[]⟩, .string ⟨#[]⟩, .string ⟨#[]⟩, .string ⟨#[]⟩, .string ⟨#[]⟩] 83 (0, 0))) (a'.eval (.tmp 15)) w' := hall.2.2.2.2.2.2.2.2.2.2.2.2.2.2.1 _ rfl
  obtain ⟨v76, hv76⟩ : ∃ v, a'.eval (.tmp 76) = v := ⟨_, rfl⟩
  rw [hv76] at e76
  obtain ⟨v79, hv79⟩ : ∃ v, a'.eval (.tmp 79) = v := ⟨_, rfl⟩
  rw [hv79] at e79
  obtain ⟨v80, hv80⟩ : ∃ v, a'.eval (.tmp 80) = v := ⟨_, rfl⟩
  rw [hv80] at e80
  obtain ⟨v15, hv15⟩ : ∃ v, a'.eval (.tmp 15) = v := ⟨_, rfl⟩
  rw [hv15] at e15
  simp only [List.foldl_cons, List.foldl_nil, Act.put, List.setIfInBounds_toArray, List.set_cons_succ, List.set_cons_zero, e67, e68, e69, e70, e71, e72, e73, e74, e75, hv76, e77, e78, hv79, hv80, hv15] at hA
  clear hO hall e67 e68 e69 e70 e71 e72 e73 e74 e75 hv76 e77 e78 hv79 hv80 hv15
  subst hA
  clear y0 y1 y2 mn sl hv0 e76 e79
  obtain ⟨cb, rfl, hcW, hcb⟩ := e15
  obtain ⟨t, t2, rfl, htz, htz2⟩ := e80
  have HC := Lib.hid hcb
  have HTZ := Lib.hid htz
  have HTZ2 := Lib.hid htz2
  have HCW := Lib.hid hcW
  have HX := Lib.hid (of_drew hE)
  clear hcb htz htz2 hE HTN HTD hcW
  have u0 : w'.frozen? ⟨cb, 0, none⟩ = false := block_free HC.out 0
  have vv0 : w'.cell? ⟨cb, 0, none⟩ = some (.string ⟨#[]⟩) := block_cell HC.out 0
  have u1 : w'.frozen? ⟨cb, 1, none⟩ = false := block_free HC.out 1
  have vv1 : w'.cell? ⟨cb, 1, none⟩ = some (.string ⟨#[]⟩) := block_cell HC.out 1
  have u2 : w'.frozen? ⟨cb, 2, none⟩ = false := block_free HC.out 2
  have vv2 : w'.cell? ⟨cb, 2, none⟩ = some (.string ⟨#[]⟩) := block_cell HC.out 2
  have u3 : w'.frozen? ⟨cb, 3, none⟩ = false := block_free HC.out 3
  have vv3 : w'.cell? ⟨cb, 3, none⟩ = some (.string ⟨#[]⟩) := block_cell HC.out 3
  have u4 : w'.frozen? ⟨cb, 4, none⟩ = false := block_free HC.out 4
  have vv4 : w'.cell? ⟨cb, 4, none⟩ = some (.string ⟨#[]⟩) := block_cell HC.out 4
  go_upto_region 9 with fail
  obtain ⟨W2, hW2⟩ : ∃ W2, (((((w'.setCell ⟨cb, 0, none⟩ (.string v0)).setCell ⟨cb, 1, none⟩ (.string b)).setCell ⟨cb, 2, none⟩ (.string d)).setCell ⟨cb, 3, none⟩ (.string t)).setCell ⟨cb, 4, none⟩ (.string t2)) = W2 := ⟨_, rfl⟩
  rw [hW2]
  have HL : Hid (W2.heap[cb]? = some (.cells #[.string v0, .string b, .string d, .string t, .string t2] 83 (0, 0))) := Lib.hid (by rw [← hW2]; exact (block_setCell (block_setCell (block_setCell (block_setCell (block_setCell HC.out _) _) _) _) _))
  have hE2 : Below W.heap.size W W2 := by rw [← hW2]; exact (bset (bset (bset (bset (bset HX.out HCW.out _) HCW.out _) HCW.out _) HCW.out _) HCW.out _)
  have HE := Lib.hid (HE.out.below hE2)
  have HB := Lib.hid (bnext HB.out hE2)
  clear hW2 hE2 u0 u1 u2 u3 u4 vv0 vv1 vv2 vv3 vv4 HX HT HC HCW
  have HZ : Hid (∀ m, (pick5 v0 b d t t2 m).size ≤ 140737488355328) := Lib.hid (fun m => pick5_size (Nat.le_trans HV0.out (by decide)) HBZ.out HDZ.out HTZ.out HTZ2.out m)
  go_loopg [16] 5 (fun g i wr => ∃ m : Nat, g + m = 5 ∧ i = .int .i64 m ∧ Hid (Below W2.heap.size W2 wr))
  case atStart => exact ⟨0, rfl, rfl, Below.refl _ _⟩
  case round =>
    obtain ⟨m, hg, rfl, HW⟩ := hrel
    by_cases hlt : m < 5
    · have c0 : wr.cell? ⟨cb, m, none⟩ = some (.string (pick5 v0 b d t t2 m)) := (block_cell ((HW.out.block cb (lt_of_block HL.out)).trans HL.out) m).trans (pick5_at v0 b d t t2 m hlt)
      have i1 : decide (m < 5) = true := by simp; exact hlt
      have i2 : (m : Int) < 5 := by omega
      have hv := HZ.out m
      have HEr := Lib.hid (HE.out.below HW.out)
      have HL2 := Lib.hid (fun w' (h : Below wr.heap.size wr w') => (block_cell ((h.block cb (Nat.lt_of_lt_of_le (lt_of_block HL.out) HW.out.size)).trans ((HW.out.block cb (lt_of_block HL.out)).trans HL.out)) m).trans (pick5_at v0 b d t t2 m hlt))
      generalize pick5 v0 b d t t2 m = v at c0 hv HL2
      obtain ⟨rM, hrM⟩ : ∃ r, readR v (msgGs v) msg0 = r := ⟨_, rfl⟩
      obtain ⟨rH, hrH⟩ : ∃ r, readR v (headerGs v) header0 = r := ⟨_, rfl⟩
      have HPM := Lib.hid (fun w' (h : TE7 B w') => rpMsg_any B v w' h hv)
      have HRM := Lib.hid (fun w' => rrMsg_any v w' hv)
      have HPH := Lib.hid (fun w' (h : TE7 B w') => rpHeader_any B v w' h hv)
      have HRH := Lib.hid (fun w' => rrHeader_any v w' hv)
      rw [hrM] at HPM HRM
      rw [hrH] at HPH HRH
      clear hrM hrH hv
      unfold cellsMsg at HPM HRM
      unfold cellsHeader at HPH HRH
      generalize (recV rM msg0 0).s = x0 at HPM HRM
      generalize (recV rM msg0 1).s = x1 at HPM HRM
      generalize (recV rM msg0 2).n = x2 at HPM HRM
      generalize (recV rM msg0 3).n = x3 at HPM HRM
      generalize (recV rM msg0 4).n = x4 at HPM HRM
      generalize (recV rM msg0 5).n = x5 at HPM HRM
      generalize (recV rH header0 0).n = z0 at HPH HRH
      generalize (recV rH header0 1).s = z1 at HPH HRH
      generalize (recV rH header0 2).s = z2 at HPH HRH
      generalize (recV rH header0 3).s = z3 at HPH HRH
      obtain ⟨fM, hfM⟩ : ∃ f, fltV rM = f := ⟨_, rfl⟩
      obtain ⟨fH, hfH⟩ : ∃ f, fltV rH = f := ⟨_, rfl⟩
      have HTM : Hid (∀ ev w', Tells B ev rM w' → NeV rM → ∀ w'', Below w'.heap.size w' w'' → TE7 B w'' → Calls Tryz.prog 31 #[ev, .agg #[.int .i64 fM.1, .int .i64 fM.2]] w'' fun e w3 => e = .returned (.bool true) ∧ Below w''.heap.size w'' w3) := Lib.hid (fun ev w' h hn w'' hb ht => by rw [← hfM]; exact h hn w'' hb ht)
      have HTH : Hid (∀ ev w', Tells B ev rH w' → NeV rH → ∀ w'', Below w'.heap.size w' w'' → TE7 B w'' → Calls Tryz.prog 31 #[ev, .agg #[.int .i64 fH.1, .int .i64 fH.2]] w'' fun e w3 => e = .returned (.bool true) ∧ Below w''.heap.size w'' w3) := Lib.hid (fun ev w' h hn w'' hb ht => by rw [← hfH]; exact h hn w'' hb ht)
      rw [hfM] at HRM
      rw [hfH] at HRH
      clear hfM hfH
      go_wp2_with fail
      refine (HPM.out wr HEr.out).mono ?_
      rintro e w8 ⟨ev1, rfl, ht1, hb⟩
      have HT1 := Lib.hid ht1
      have HBw := Lib.hid hb
      clear hb c0 ht1
      go_upto_region 12 with fail
      obtain ⟨pa, hpa⟩ : ∃ q, w8.heap.size = q := ⟨_, rfl⟩
      obtain ⟨W9, hW⟩ : ∃ X, (w8.alloc (.cells #[.string x0, .string x1, .int .u64 x2, .int .u64 x3, .int .u64 x4, .int .u64 x5] 76)) = X := ⟨_, rfl⟩
      have hbx : Below w8.heap.size w8 W9 := by rw [← hW]; exact (balloc (Below.refl _ _) _)
      have HK_pa : Hid (W9.heap[pa]? = some (.cells #[.string x0, .string x1, .int .u64 x2, .int .u64 x3, .int .u64 x4, .int .u64 x5] 76 (0, 0))) := Lib.hid (by rw [← hW, ← hpa]; exact heap_alloc_new _ _)
      simp only [hW, hpa]
      clear hW hpa
      have HBw := Lib.hid (bnext HBw.out hbx)
      have HT1 := Lib.hid (HT1.out.below hbx)
      have c0 := HL2.out W9 HBw.out
      clear hbx
      go_wp2_with fail
      refine (HRM.out W9).mono ?_
      rintro e w10 ⟨rfl, hne, hb⟩
      have HN1 := Lib.hid hne
      have HBw := Lib.hid (bnext HBw.out hb)
      have HT1 := Lib.hid (HT1.out.below hb)
      clear c0 hne
      have HK_pa := Lib.hid ((hb.block _ (lt_of_block HK_pa.out)).trans HK_pa.out)
      clear hb
      go_upto_region 13 with fail
      obtain ⟨pn, hpn⟩ : ∃ q, w10.heap.size = q := ⟨_, rfl⟩
      obtain ⟨pu, hpu⟩ : ∃ q, pn + 1 = q := ⟨_, rfl⟩
      obtain ⟨W11, hW⟩ : ∃ X, ((w10.alloc (.cells #[.string x0, .string x1, .int .u64 x2, .int .u64 x3, .int .u64 x4, .int .u64 x5] 76)).alloc (.cells #[.int .i64 fM.1, .int .i64 fM.2] 63)) = X := ⟨_, rfl⟩
      have hbx : Below w10.heap.size w10 W11 := by rw [← hW]; exact (balloc (balloc (Below.refl _ _) _) _)
      have HK_pa := Lib.hid ((hbx.block _ (lt_of_block HK_pa.out)).trans HK_pa.out)
      have HK_pn : Hid (W11.heap[pn]? = some (.cells #[.string x0, .string x1, .int .u64 x2, .int .u64 x3, .int .u64 x4, .int .u64 x5] 76 (0, 0))) := Lib.hid (by rw [← hW, ← hpn]; exact block_alloc (heap_alloc_new _ _) _)
      have HK_pu : Hid (W11.heap[pu]? = some (.cells #[.int .i64 fM.1, .int .i64 fM.2] 63 (0, 0))) := Lib.hid (by rw [← hW, ← hpu, ← hpn]; exact alloc_new_at _ (by simp))
      simp only [hW, hpn, hpu]
      clear hW hpn hpu
      have HBw := Lib.hid (bnext HBw.out hbx)
      have HT1 := Lib.hid (HT1.out.below hbx)
      have HEr := Lib.hid (HEr.out.below HBw.out)
      have c0 := HL2.out W11 HBw.out
      clear hbx
      go_wp2_with fail
      refine (HPH.out W11 HEr.out).mono ?_
      rintro e w12 ⟨ev2, rfl, ht2, hb⟩
      have HT2 := Lib.hid ht2
      have HBw := Lib.hid (bnext HBw.out hb)
      have HT1 := Lib.hid (HT1.out.below hb)
      have HEr := Lib.hid (HEr.out.below hb)
      clear c0 ht2
      have HK_pa := Lib.hid ((hb.block _ (lt_of_block HK_pa.out)).trans HK_pa.out)
      have HK_pn := Lib.hid ((hb.block _ (lt_of_block HK_pn.out)).trans HK_pn.out)
      have HK_pu := Lib.hid ((hb.block _ (lt_of_block HK_pu.out)).trans HK_pu.out)
      clear hb
      go_upto_region 14 with fail
      obtain ⟨po, hpo⟩ : ∃ q, w12.heap.size = q := ⟨_, rfl⟩
      obtain ⟨W13, hW⟩ : ∃ X, (w12.alloc (.cells #[.int .u64 z0, .string z1, .string z2, .string z3] 78)) = X := ⟨_, rfl⟩
      have hbx : Below w12.heap.size w12 W13 := by rw [← hW]; exact (balloc (Below.refl _ _) _)
      have HK_pa := Lib.hid ((hbx.block _ (lt_of_block HK_pa.out)).trans HK_pa.out)
      have HK_pn := Lib.hid ((hbx.block _ (lt_of_block HK_pn.out)).trans HK_pn.out)
      have HK_pu := Lib.hid ((hbx.block _ (lt_of_block HK_pu.out)).trans HK_pu.out)
      have HK_po : Hid (W13.heap[po]? = some (.cells #[.int .u64 z0, .string z1, .string z2, .string z3] 78 (0, 0))) := Lib.hid (by rw [← hW, ← hpo]; exact heap_alloc_new _ _)
      simp only [hW, hpo]
      clear hW hpo
      have HBw := Lib.hid (bnext HBw.out hbx)
      have HT1 := Lib.hid (HT1.out.below hbx)
      have HT2 := Lib.hid (HT2.out.below hbx)
      have HEr := Lib.hid (HEr.out.below hbx)
      have c0 := HL2.out W13 HBw.out
      clear hbx
      go_wp2_with fail
      refine (HRH.out W13).mono ?_
      rintro e w14 ⟨rfl, hne, hb⟩
      have HN2 := Lib.hid hne
      have HBw := Lib.hid (bnext HBw.out hb)
      have HT1 := Lib.hid (HT1.out.below hb)
      have HT2 := Lib.hid (HT2.out.below hb)
      have HEr := Lib.hid (HEr.out.below hb)
      clear c0 hne
      have HK_pa := Lib.hid ((hb.block _ (lt_of_block HK_pa.out)).trans HK_pa.out)
      have HK_pn := Lib.hid ((hb.block _ (lt_of_block HK_pn.out)).trans HK_pn.out)
      have HK_pu := Lib.hid ((hb.block _ (lt_of_block HK_pu.out)).trans HK_pu.out)
      have HK_po := Lib.hid ((hb.block _ (lt_of_block HK_po.out)).trans HK_po.out)
      clear hb
      go_upto_region 15 with fail
      obtain ⟨pp, hpp⟩ : ∃ q, w14.heap.size = q := ⟨_, rfl⟩
      obtain ⟨pv, hpv⟩ : ∃ q, pp + 1 = q := ⟨_, rfl⟩
      obtain ⟨X, hW⟩ : ∃ X, ((w14.alloc (.cells #[.int .u64 z0, .string z1, .string z2, .string z3] 78)).alloc (.cells #[.int .i64 fH.1, .int .i64 fH.2] 63)) = X := ⟨_, rfl⟩
      have hbx : Below w14.heap.size w14 X := by rw [← hW]; exact (balloc (balloc (Below.refl _ _) _) _)
      have HK_pa := Lib.hid ((hbx.block _ (lt_of_block HK_pa.out)).trans HK_pa.out)
      have HK_pn := Lib.hid ((hbx.block _ (lt_of_block HK_pn.out)).trans HK_pn.out)
      have HK_pu := Lib.hid ((hbx.block _ (lt_of_block HK_pu.out)).trans HK_pu.out)
      have HK_po := Lib.hid ((hbx.block _ (lt_of_block HK_po.out)).trans HK_po.out)
      have HK_pp : Hid (X.heap[pp]? = some (.cells #[.int .u64 z0, .string z1, .string z2, .string z3] 78 (0, 0))) := Lib.hid (by rw [← hW, ← hpp]; exact block_alloc (heap_alloc_new _ _) _)
      have HK_pv : Hid (X.heap[pv]? = some (.cells #[.int .i64 fH.1, .int .i64 fH.2] 63 (0, 0))) := Lib.hid (by rw [← hW, ← hpv, ← hpp]; exact alloc_new_at _ (by simp))
      simp only [hW, hpp, hpv]
      clear hW hpp hpv
      have HBw := Lib.hid (bnext HBw.out hbx)
      have HT1 := Lib.hid (HT1.out.below hbx)
      have HT2 := Lib.hid (HT2.out.below hbx)
      have HEr := Lib.hid (HEr.out.below hbx)
      clear hbx
      have d_pa : ∀ o, X.cell? ⟨pa, o, none⟩ = _ := block_cell HK_pa.out
      have d_pn : ∀ o, X.cell? ⟨pn, o, none⟩ = _ := block_cell HK_pn.out
      have d_pu : ∀ o, X.cell? ⟨pu, o, none⟩ = _ := block_cell HK_pu.out
      have d_po : ∀ o, X.cell? ⟨po, o, none⟩ = _ := block_cell HK_po.out
      have d_pp : ∀ o, X.cell? ⟨pp, o, none⟩ = _ := block_cell HK_pp.out
      have d_pv : ∀ o, X.cell? ⟨pv, o, none⟩ = _ := block_cell HK_pv.out
      go_wp2_with fail
      refine (HTM.out ev1 X HT1.out HN1.out X (Below.refl _ _) HEr.out).mono ?_
      rintro e Y ⟨rfl, hb⟩
      have HK_pa := Lib.hid ((hb.block _ (lt_of_block HK_pa.out)).trans HK_pa.out)
      have HK_pn := Lib.hid ((hb.block _ (lt_of_block HK_pn.out)).trans HK_pn.out)
      have HK_pu := Lib.hid ((hb.block _ (lt_of_block HK_pu.out)).trans HK_pu.out)
      have HK_po := Lib.hid ((hb.block _ (lt_of_block HK_po.out)).trans HK_po.out)
      have HK_pp := Lib.hid ((hb.block _ (lt_of_block HK_pp.out)).trans HK_pp.out)
      have HK_pv := Lib.hid ((hb.block _ (lt_of_block HK_pv.out)).trans HK_pv.out)
      clear d_pa
      have d_pa : ∀ o, Y.cell? ⟨pa, o, none⟩ = _ := block_cell HK_pa.out
      clear d_pn
      have d_pn : ∀ o, Y.cell? ⟨pn, o, none⟩ = _ := block_cell HK_pn.out
      clear d_pu
      have d_pu : ∀ o, Y.cell? ⟨pu, o, none⟩ = _ := block_cell HK_pu.out
      clear d_po
      have d_po : ∀ o, Y.cell? ⟨po, o, none⟩ = _ := block_cell HK_po.out
      clear d_pp
      have d_pp : ∀ o, Y.cell? ⟨pp, o, none⟩ = _ := block_cell HK_pp.out
      clear d_pv
      have d_pv : ∀ o, Y.cell? ⟨pv, o, none⟩ = _ := block_cell HK_pv.out
      have HBw := Lib.hid (bnext HBw.out hb)
      have HT2 := Lib.hid (HT2.out.below hb)
      have HEr := Lib.hid (HEr.out.below hb)
      clear hb
      go_wp2_with fail
      refine (HTH.out ev2 Y HT2.out HN2.out Y (Below.refl _ _) HEr.out).mono ?_
      rintro e Z ⟨rfl, hb⟩
      have HBN := Lib.hid (bnext HW.out (bnext HBw.out hb))
      clear hb d_pa d_pn d_pu d_po d_pp d_pv
      go_wp2
      go_roundg (4 - m)
      case rel => exact ⟨m + 1, by omega, by go_num, HBN⟩
      case measure => omega
    · obtain rfl : m = 5 := by omega
      go_wp2_with fail
      refine (works7_any B wr (HE.out.below HW.out)).mono ?_
      rintro e w9 ⟨rfl, hb⟩
      have HB := Lib.hid (bnext HB.out (bnext HW.out hb))
      clear hb
      go_wp2
      go_ret
      exact ⟨rfl, HB.out⟩
end Go.Proofs.YtihiaopilnjonaaGreatDoor
