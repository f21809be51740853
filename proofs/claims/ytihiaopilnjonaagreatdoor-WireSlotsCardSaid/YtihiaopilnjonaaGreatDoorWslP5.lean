/- Parts of the proof, one behind the other. -/
import Derived.Test.YtihiaopilnjonaaGreatDoorWslP4
import Derived.ProofKit
import Derived.OpenShut
import Derived.ShutString
import Derived.ChangeOld
import Derived.Deep.Slices
import Derived.Deep.Fields
import Derived.ChangeMaps5
import Derived.WideShapes
import Derived.LaidMore
import Derived.LaidHandle
import Derived.Stop.Joined
import Derived.ChangeVars
import Derived.JoinedOf
import Derived.RowKitTokens
import Derived.StillTailTactics
namespace Go.Proofs.YtihiaopilnjonaaGreatDoor
open Go.RowKit
set_option linter.unusedSimpArgs false
set_option linter.unusedVariables false
def fullR : ByteArray := ⟨(Go.Lib.repeatL [114] 32).toArray⟩
theorem full_any (w : World) : Calls Tryz.prog 54 #[.string ⟨#[114]⟩] w fun e w' => e = .returned (.string fullR) ∧ Below w.heap.size w w' := by
  go_enter Tryz.func54, Tryz.ntmps54
  go_wp2_with fail
  refine (Tryz.strings_Repeat ⟨#[114]⟩ 32 _ (by decide) (by decide)).mono ?_
  rintro e w1 ⟨rfl, hb⟩
  go_wp2
  go_ret
  exact ⟨rfl, hb⟩
theorem conv_some (w : World) (B n cap : Nat) (h : ∀ j, j < n → ∃ v, w.cell? ⟨B, j, none⟩ = some (.int .u8 v)) : ∃ t : ByteArray, t.size = n ∧ (convert 106 9 (.slice (some ⟨B, 0, none⟩) n cap)).run Tryz.prog w = .ok (.string t) w := by
  have h' : ∀ j, ∃ v, j < n → w.cell? ⟨B, j, none⟩ = some (.int .u8 v) := fun j => by
    by_cases hj : j < n
    · obtain ⟨v, hv⟩ := h j hj; exact ⟨v, fun _ => hv⟩
    · exact ⟨0, fun h => absurd h hj⟩
  let f : Nat → Int := fun j => Classical.choose (h' j)
  have hf : ∀ j, j < n → w.cell? ⟨B, j, none⟩ = some (.int .u8 (f j)) := fun j => Classical.choose_spec (h' j)
  refine ⟨strOfNums ((List.range n).map f), by rw [strOfNums_size]; simp, ?_⟩
  exact run_convert_bytes_arg (P := Tryz.prog) w 106 5 Tryz.underlying106 Tryz.underlying5 B 0 n cap ((List.range n).map f) (by simp) (fun i hi => by
    rw [Nat.zero_add, hf i hi]
    simp [hi]) 9 Tryz.underlying9
theorem bworld_below (w : World) (e : TypeId) (s : ByteArray) : Below w.heap.size w (Lib.bytesWorld w e s) := by
  have h : Below w.heap.size w (w.drew.alloc (.cells (Lib.bytesCells w e s) e)) := ((Below.refl _ _).drew).alloc (by simp) _
  exact ⟨h.os, h.tape, h.output, by rw [Lib.bytesWorld_size]; omega, fun i hi => Lib.bytesWorld_at_old _ _ _ _ hi⟩
set_option maxRecDepth 100000 in
set_option maxHeartbeats 4000000 in
theorem turned_any (s : ByteArray) (a y st : Int) (w : World) (ha : 0 ≤ a ∧ a ≤ 65535) (hy : 0 ≤ y ∧ y ≤ 255) (hs : s.size ≤ 140737488355328) : Calls Tryz.prog 28 #[.string s, .agg #[.int .u16 a, .int .u8 y, .int .i64 st]] w fun e w' => ∃ t : ByteArray, e = .returned (.string t) ∧ t.size ≤ s.size ∧ Below w.heap.size w w' := by
  obtain ⟨tb, htb⟩ : ∃ tb, w.heap.size = tb := ⟨_, rfl⟩
  obtain ⟨n, hn⟩ : ∃ n, s.size = n := ⟨_, rfl⟩
  go_enter Tryz.func28, Tryz.ntmps28
  go_upto_region 1 with fail
  obtain ⟨V, hV⟩ : ∃ V, w.alloc (.cells #[.int .u16 a, .int .u8 y, .int .i64 st] 55) = V := ⟨_, rfl⟩
  rw [hV]
  have VB : Hid (Below w.heap.size w V) := Lib.hid (by rw [← hV]; exact balloc (Below.refl _ _) _)
  have VT : Hid (V.heap[tb]? = some (.cells #[.int .u16 a, .int .u8 y, .int .i64 st] 55 (0, 0))) := Lib.hid (by rw [← hV, ← htb]; exact heap_alloc_new _ _)
  have VS : Hid (V.heap.size = tb + 1) := Lib.hid (by rw [← hV, ← htb]; simp)
  clear hV
  have hc := Lib.run_convert_string_bytes (P := Tryz.prog) V 9 106 5 s Tryz.underlying9 Tryz.underlying106 Tryz.underlying5
  go_upto_region 2 with fail
  obtain ⟨cap, hcap⟩ : ∃ cap, grownCap V n 0 5 = cap := ⟨_, rfl⟩
  obtain ⟨W, hW⟩ : ∃ W, Lib.bytesWorld V 5 s = W := ⟨_, rfl⟩
  obtain ⟨B, hB⟩ : ∃ B, V.heap.size = B := ⟨_, rfl⟩
  obtain ⟨cs, hcs⟩ : ∃ cs, Lib.bytesCells V 5 s = cs := ⟨_, rfl⟩
  have HBK0 := Lib.bytesWorld_at_new V 5 s
  have HCE0 := fun j (hj : j < s.size) => Lib.bytesWorld_cell V 5 s j hj
  have WB : Hid (Below w.heap.size w W) := Lib.hid (by rw [← hW]; exact bnext VB.out (bworld_below V 5 s))
  have WT : Hid (W.heap[tb]? = some (.cells #[.int .u16 a, .int .u8 y, .int .i64 st] 55 (0, 0))) := Lib.hid (by rw [← hW]; exact ((bworld_below V 5 s).block tb (by have := VS.out; omega)).trans VT.out)
  have CAP : Hid (n ≤ cap) := Lib.hid (by rw [← hcap]; exact grownCap_ge _ _ _ _)
  simp only [hcap, hW, hB]
  rw [hW, hB] at HBK0
  rw [hcs] at HBK0
  have HCE : Hid (∀ j, j < s.size → cs[j]? = some (.int .u8 (byte s j))) := Lib.hid (fun j hj => by have := HCE0 j hj; rw [hW, hB] at this; exact (block_cell HBK0 j).symm.trans this)
  obtain ⟨fr, hfr⟩ : ∃ fr, (cs.size, cs.size + 1) = fr := ⟨_, rfl⟩
  rw [hfr] at HBK0
  have HFR : Hid (fr = (cs.size, cs.size + 1)) := Lib.hid hfr.symm
  have HBK := Lib.hid HBK0
  have htB : tb ≠ B := by have := VS.out; omega
  have HWB : Hid (w.heap.size ≤ B) := Lib.hid (by have := VS.out; omega)
  clear HBK0 HCE0 hc hW hcs hcap hfr
  rw [hn] at HCE
  have HN := Lib.hid hn
  clear hn
  by_cases h0 : n = 0
  · have hpos : decide (0 < n) = false := by simp; omega
    have H0 := Lib.hid h0
    clear h0
    go_upto_region 4 with fail
    obtain ⟨W2, hW2⟩ : ∃ W2, W = W2 := ⟨_, rfl⟩
    rw [hW2] at WB WT ⊢
    have W2B := WB
    have HT := Lib.hid (block_cell WT.out 2)
    have HC : Hid (∀ j, j < n → ∃ v, W2.cell? ⟨B, j, none⟩ = some (.int .u8 v)) := Lib.hid (fun j hj => absurd hj (by have := H0.out; omega))
    clear hW2
    rcases Int.lt_or_le st 0 with c1 | c1
    · have b1 : decide (0 ≤ st) = false := by simp; omega
      obtain ⟨t, ht, hcv⟩ := conv_some W2 B n cap HC.out
      have HCV := Lib.hid ht
      have q2 := HT.out
      clear ht
      go_wp2
      go_ret
      exact ⟨t, rfl, by rw [HCV.out, HN.out]; exact Nat.le_refl _, by have := W2B.out; exact this⟩
    · obtain ⟨m, rfl⟩ := Int.eq_ofNat_of_zero_le c1
      have b1 : decide (0 ≤ (m : Int)) = true := by simp
      by_cases c2 : m < n
      · have b2 : decide (m < n) = true := by simp; exact c2
        obtain ⟨t, ht, hcv⟩ := conv_some W2 B m cap (fun j hj => HC.out j (Nat.lt_trans hj c2))
        have HCV := Lib.hid ht
        have q2 := HT.out
        have c3 : m ≤ cap := by have := CAP.out; omega
        have c4 : (cap < m) = False := by simp; omega
        clear ht
        go_wp2
        go_ret
        exact ⟨t, rfl, by rw [HCV.out, HN.out]; omega, by have := W2B.out; exact this⟩
      · have b2 : decide (m < n) = false := by simp; omega
        obtain ⟨t, ht, hcv⟩ := conv_some W2 B n cap HC.out
        have HCV := Lib.hid ht
        have q2 := HT.out
        clear ht
        go_wp2
        go_ret
        exact ⟨t, rfl, by rw [HCV.out, HN.out]; exact Nat.le_refl _, by have := W2B.out; exact this⟩
  · have hpos : decide (0 < n) = true := by simp; omega
    obtain ⟨k, hk⟩ : ∃ k : Nat, a.toNat % n = k := ⟨_, rfl⟩
    have hkn : k < n := by rw [← hk]; exact Nat.mod_lt _ (by omega)
    have KK : Hid (a.tmod (n : Int) = (k : Int)) := Lib.hid (by rw [← hk]; exact (congrArg (fun z => Int.tmod z (n : Int)) (Int.toNat_of_nonneg ha.1).symm).trans (Int.ofNat_tmod _ _).symm)
    obtain ⟨x, hx⟩ : ∃ x, byte s k = x := ⟨_, rfl⟩
    have QK : Hid (cs[k]? = some (.int .u8 x)) := Lib.hid (by rw [← hx]; exact HCE.out k hkn)
    have FZ : Hid (W.frozen? ⟨B, k, none⟩ = false) := Lib.hid (by unfold World.frozen?; rw [HBK.out]; have := (Array.getElem?_eq_some_iff.1 QK.out).1; rw [HFR.out]; simp; omega)
    have hBl : B < W.heap.size := lt_of_block HBK.out
    have y0 : W.cell? ⟨tb, 0, none⟩ = some (.int .u16 a) := block_cell WT.out 0
    have y1 : W.cell? ⟨tb, 1, none⟩ = some (.int .u8 y) := block_cell WT.out 1
    obtain ⟨z, r4⟩ : ∃ z : Int, bits BinOp.xor IntKind.u8 x y = z := ⟨_, rfl⟩
    have q0 : W.cell? ⟨B, k, none⟩ = some (.int .u8 x) := (block_cell HBK.out k).trans QK.out
    have r0 : IntKind.i64.wrap a = a := wrap_small a ha.1 (by omega)
    have r1 : (n = 0) = False := by simp [h0]
    have r2 : a.tmod (n : Int) = (k : Int) := KK.out
    have r3 : (n ≤ k) = False := by simp; omega
    go_upto_region 3 with fail
    refine wp_region_tail 13 1000 (none) (phis [fun u _ => u = (.slice (some ⟨B, 0, none⟩) n cap), fun u _ => u = (.pointer (some ⟨tb, 0, none⟩)), fun u _ => u = (.int .u16 a), fun u _ => u = (.int .i64 a), fun u _ => u = (.slice (some ⟨B, 0, none⟩) n cap), fun u _ => u = (.int .i64 n), fun u _ => u = (.int .i64 k), fun u _ => u = (.pointer (some ⟨B, k, none⟩)), fun u _ => u = (.int .u8 x), fun u _ => u = (.pointer (some ⟨tb, 1, none⟩)), fun u _ => u = (.int .u8 y), fun u _ => u = (.int .u8 z), fun u _ => u = (.pointer (some ⟨B, k, none⟩))]) rfl (by kernel_rfl) (by kernel_rfl) (mono_of ⟨mono_eq, mono_eq, mono_eq, mono_eq, mono_eq, mono_eq, mono_eq, mono_eq, mono_eq, mono_eq, mono_eq, mono_eq, mono_eq, trivial⟩) (steps_of 13 ⟨?s0, ?s1, ?s2, ?s3, ?s4, ?s5, ?s6, ?s7, ?s8, ?s9, ?s10, ?s11, ?s12, trivial⟩) ?_
    case s0 =>
      refine step_val (v := (.slice (some ⟨B, 0, none⟩) n cap)) (fun av wv hE hS hO hD => ?_) (fun _ => rfl)
      have h5 : av.eval (.tmp 5) = (.slice (some ⟨B, 0, none⟩) n cap) := hO.2.2 5 rfl
      have f5 := (ev_form av 5).symm.trans h5
      refine ⟨rfl, ?_⟩
      simp [go_sem, f5, r0, r1, r2, r3, r4]
    case s1 =>
      refine step_val (v := (.pointer (some ⟨tb, 0, none⟩))) (fun av wv hE hS hO hD => ?_) (fun _ => rfl)
      have h3 : av.eval (.tmp 3) = (.pointer (some ⟨tb, 0, none⟩)) := hO.2.2 3 rfl
      have f3 := (ev_form av 3).symm.trans h3
      refine ⟨rfl, ?_⟩
      simp [go_sem, f3, r0, r1, r2, r3, r4]
    case s2 =>
      refine step_val (v := (.int .u16 a)) (fun av wv hE hS hO hD => ?_) (fun _ => rfl)
      have d12 : av.eval (.tmp 12) = (.pointer (some ⟨tb, 0, none⟩)) := hD.1 rfl _ rfl
      have f12 := (ev_form av 12).symm.trans d12
      have y0 := extB_cell hE (by simp) y0
      have y1 := extB_cell hE (by simp) y1
      have q0 := extB_cell hE (by simp) q0
      refine ⟨rfl, ?_⟩
      simp [go_sem, f12, y0, y1, q0, r0, r1, r2, r3, r4]
    case s3 =>
      refine step_val (v := (.int .i64 a)) (fun av wv hE hS hO hD => ?_) (fun _ => rfl)
      have d13 : av.eval (.tmp 13) = (.int .u16 a) := hD.1 rfl _ rfl
      have f13 := (ev_form av 13).symm.trans d13
      refine ⟨rfl, ?_⟩
      simp [go_sem, f13, r0, r1, r2, r3, r4]
    case s4 =>
      refine step_val (v := (.slice (some ⟨B, 0, none⟩) n cap)) (fun av wv hE hS hO hD => ?_) (fun _ => rfl)
      have h5 : av.eval (.tmp 5) = (.slice (some ⟨B, 0, none⟩) n cap) := hO.2.2 5 rfl
      have f5 := (ev_form av 5).symm.trans h5
      refine ⟨rfl, ?_⟩
      simp [go_sem, f5, r0, r1, r2, r3, r4]
    case s5 =>
      refine step_val (v := (.int .i64 n)) (fun av wv hE hS hO hD => ?_) (fun _ => rfl)
      have d15 : av.eval (.tmp 15) = (.slice (some ⟨B, 0, none⟩) n cap) := hD.1 rfl _ rfl
      have f15 := (ev_form av 15).symm.trans d15
      refine ⟨rfl, ?_⟩
      simp [go_sem, f15, r0, r1, r2, r3, r4]
    case s6 =>
      refine step_val (v := (.int .i64 k)) (fun av wv hE hS hO hD => ?_) (fun _ => rfl)
      have d14 : av.eval (.tmp 14) = (.int .i64 a) := hD.1 rfl _ rfl
      have f14 := (ev_form av 14).symm.trans d14
      have d16 : av.eval (.tmp 16) = (.int .i64 n) := hD.2.1 rfl _ rfl
      have f16 := (ev_form av 16).symm.trans d16
      refine ⟨rfl, ?_⟩
      simp [go_sem, f14, f16, r0, r1, r2, r3, r4]
    case s7 =>
      refine step_val (v := (.pointer (some ⟨B, k, none⟩))) (fun av wv hE hS hO hD => ?_) (fun _ => rfl)
      have d11 : av.eval (.tmp 11) = (.slice (some ⟨B, 0, none⟩) n cap) := hD.1 rfl _ rfl
      have f11 := (ev_form av 11).symm.trans d11
      have d17 : av.eval (.tmp 17) = (.int .i64 k) := hD.2.1 rfl _ rfl
      have f17 := (ev_form av 17).symm.trans d17
      refine ⟨rfl, ?_⟩
      simp [go_sem, f11, f17, r0, r1, r2, r3, r4]
    case s8 =>
      refine step_val (v := (.int .u8 x)) (fun av wv hE hS hO hD => ?_) (fun _ => rfl)
      have d18 : av.eval (.tmp 18) = (.pointer (some ⟨B, k, none⟩)) := hD.1 rfl _ rfl
      have f18 := (ev_form av 18).symm.trans d18
      have y0 := extB_cell hE (by simp) y0
      have y1 := extB_cell hE (by simp) y1
      have q0 := extB_cell hE (by simp) q0
      refine ⟨rfl, ?_⟩
      simp [go_sem, f18, y0, y1, q0, r0, r1, r2, r3, r4]
    case s9 =>
      refine step_val (v := (.pointer (some ⟨tb, 1, none⟩))) (fun av wv hE hS hO hD => ?_) (fun _ => rfl)
      have h3 : av.eval (.tmp 3) = (.pointer (some ⟨tb, 0, none⟩)) := hO.2.2 3 rfl
      have f3 := (ev_form av 3).symm.trans h3
      refine ⟨rfl, ?_⟩
      simp [go_sem, f3, r0, r1, r2, r3, r4]
    case s10 =>
      refine step_val (v := (.int .u8 y)) (fun av wv hE hS hO hD => ?_) (fun _ => rfl)
      have d20 : av.eval (.tmp 20) = (.pointer (some ⟨tb, 1, none⟩)) := hD.1 rfl _ rfl
      have f20 := (ev_form av 20).symm.trans d20
      have y0 := extB_cell hE (by simp) y0
      have y1 := extB_cell hE (by simp) y1
      have q0 := extB_cell hE (by simp) q0
      refine ⟨rfl, ?_⟩
      simp [go_sem, f20, y0, y1, q0, r0, r1, r2, r3, r4]
    case s11 =>
      refine step_val (v := (.int .u8 z)) (fun av wv hE hS hO hD => ?_) (fun _ => rfl)
      have d19 : av.eval (.tmp 19) = (.int .u8 x) := hD.1 rfl _ rfl
      have f19 := (ev_form av 19).symm.trans d19
      have d21 : av.eval (.tmp 21) = (.int .u8 y) := hD.2.1 rfl _ rfl
      have f21 := (ev_form av 21).symm.trans d21
      refine ⟨rfl, ?_⟩
      simp [go_sem, f19, f21, r0, r1, r2, r3, r4]
    case s12 =>
      refine step_val (v := (.pointer (some ⟨B, k, none⟩))) (fun av wv hE hS hO hD => ?_) (fun _ => rfl)
      have d11 : av.eval (.tmp 11) = (.slice (some ⟨B, 0, none⟩) n cap) := hD.1 rfl _ rfl
      have f11 := (ev_form av 11).symm.trans d11
      have d17 : av.eval (.tmp 17) = (.int .i64 k) := hD.2.1 rfl _ rfl
      have f17 := (ev_form av 17).symm.trans d17
      refine ⟨rfl, ?_⟩
      simp [go_sem, f11, f17, r0, r1, r2, r3, r4]
    intro a' w' hE hO hall
    have hA := act_of_outer (ds := [11, 12, 13, 14, 15, 16, 17, 18, 19, 20, 21, 22, 23]) rfl hO (by kernel_rfl)
    have e11 : (fun u _ => u = (.slice (some ⟨B, 0, none⟩) n cap)) (a'.eval (.tmp 11)) w' := hall.1 _ rfl
    have e12 : (fun u _ => u = (.pointer (some ⟨tb, 0, none⟩))) (a'.eval (.tmp 12)) w' := hall.2.1 _ rfl
    have e13 : (fun u _ => u = (.int .u16 a)) (a'.eval (.tmp 13)) w' := hall.2.2.1 _ rfl
    have e14 : (fun u _ => u = (.int .i64 a)) (a'.eval (.tmp 14)) w' := hall.2.2.2.1 _ rfl
    have e15 : (fun u _ => u = (.slice (some ⟨B, 0, none⟩) n cap)) (a'.eval (.tmp 15)) w' := hall.2.2.2.2.1 _ rfl
    have e16 : (fun u _ => u = (.int .i64 n)) (a'.eval (.tmp 16)) w' := hall.2.2.2.2.2.1 _ rfl
    have e17 : (fun u _ => u = (.int .i64 k)) (a'.eval (.tmp 17)) w' := hall.2.2.2.2.2.2.1 _ rfl
    have e18 : (fun u _ => u = (.pointer (some ⟨B, k, none⟩))) (a'.eval (.tmp 18)) w' := hall.2.2.2.2.2.2.2.1 _ rfl
    have e19 : (fun u _ => u = (.int .u8 x)) (a'.eval (.tmp 19)) w' := hall.2.2.2.2.2.2.2.2.1 _ rfl
    have e20 : (fun u _ => u = (.pointer (some ⟨tb, 1, none⟩))) (a'.eval (.tmp 20)) w' := hall.2.2.2.2.2.2.2.2.2.1 _ rfl
    have e21 : (fun u _ => u = (.int .u8 y)) (a'.eval (.tmp 21)) w' := hall.2.2.2.2.2.2.2.2.2.2.1 _ rfl
    have e22 : (fun u _ => u = (.int .u8 z)) (a'.eval (.tmp 22)) w' := hall.2.2.2.2.2.2.2.2.2.2.2.1 _ rfl
    have e23 : (fun u _ => u = (.pointer (some ⟨B, k, none⟩))) (a'.eval (.tmp 23)) w' := hall.2.2.2.2.2.2.2.2.2.2.2.2.1 _ rfl
    simp only [List.foldl_cons, List.foldl_nil, Act.put, List.setIfInBounds_toArray, List.set_cons_succ, List.set_cons_zero, e11, e12, e13, e14, e15, e16, e17, e18, e19, e20, e21, e22, e23] at hA
    clear hO hall e11 e12 e13 e14 e15 e16 e17 e18 e19 e20 e21 e22 e23
    subst hA
    have hE' := of_drew hE
    clear y0 y1 q0 r0 r1 r2 r3 r4 hE
    have HE := Lib.hid hE'
    have HB1 : Hid (w'.heap[B]? = some (.cells cs 5 fr)) := Lib.hid ((hE'.block B hBl).trans HBK.out)
    have p0 : w'.cell? ⟨B, k, none⟩ = some (.int .u8 x) := (block_cell HB1.out k).trans QK.out
    have p1 : w'.frozen? ⟨B, k, none⟩ = false := by have := FZ.out; unfold World.frozen? at this ⊢; rw [HB1.out]; rw [HBK.out] at this; exact this
    clear hE'
    go_upto_region 4 with fail
    obtain ⟨W2, hW2⟩ : ∃ W2, w'.setCell ⟨B, k, none⟩ (.int .u8 z) = W2 := ⟨_, rfl⟩
    rw [hW2]
    have W2B : Hid (Below w.heap.size w W2) := Lib.hid (by rw [← hW2]; exact bset (bnext WB.out HE.out) HWB.out _)
    have HT := Lib.hid (block_cell (show W2.heap[tb]? = _ by rw [← hW2]; exact block_setCell_ne ((HE.out.block tb (lt_of_block WT.out)).trans WT.out) htB _) 2)
    have HC : Hid (∀ j, j < n → ∃ v, W2.cell? ⟨B, j, none⟩ = some (.int .u8 v)) := Lib.hid (fun j hj => by
      have e := block_cell (show W2.heap[B]? = _ by rw [← hW2]; exact block_setCell HB1.out _) j
      rw [e, Array.getElem?_setIfInBounds]
      by_cases h : k = j
      · subst h
        have := (Array.getElem?_eq_some_iff.1 QK.out).1
        simp [this]
      · rw [if_neg h]; exact ⟨_, HCE.out j hj⟩)
    clear hW2 p0 p1
    rcases Int.lt_or_le st 0 with c1 | c1
    · have b1 : decide (0 ≤ st) = false := by simp; omega
      obtain ⟨t, ht, hcv⟩ := conv_some W2 B n cap HC.out
      have HCV := Lib.hid ht
      have q2 := HT.out
      clear ht
      go_wp2
      go_ret
      exact ⟨t, rfl, by rw [HCV.out, HN.out]; exact Nat.le_refl _, by have := W2B.out; exact this⟩
    · obtain ⟨m, rfl⟩ := Int.eq_ofNat_of_zero_le c1
      have b1 : decide (0 ≤ (m : Int)) = true := by simp
      by_cases c2 : m < n
      · have b2 : decide (m < n) = true := by simp; exact c2
        obtain ⟨t, ht, hcv⟩ := conv_some W2 B m cap (fun j hj => HC.out j (Nat.lt_trans hj c2))
        have HCV := Lib.hid ht
        have q2 := HT.out
        have c3 : m ≤ cap := by have := CAP.out; omega
        have c4 : (cap < m) = False := by simp; omega
        clear ht
        go_wp2
        go_ret
        exact ⟨t, rfl, by rw [HCV.out, HN.out]; omega, by have := W2B.out; exact this⟩
      · have b2 : decide (m < n) = false := by simp; omega
        obtain ⟨t, ht, hcv⟩ := conv_some W2 B n cap HC.out
        have HCV := Lib.hid ht
        have q2 := HT.out
        clear ht
        go_wp2
        go_ret
        exact ⟨t, rfl, by rw [HCV.out, HN.out]; exact Nat.le_refl _, by have := W2B.out; exact this⟩
end Go.Proofs.YtihiaopilnjonaaGreatDoor
namespace Go.Proofs.YtihiaopilnjonaaGreatDoor
open Go.RowKit
set_option linter.unusedSimpArgs false
set_option linter.unusedVariables false
theorem wk_may1 : allMay (partSpecs fullR 300 0 2 3) = true := by kernel_rfl
theorem wk_lay1 : layP (partSpecs fullR 300 0 2 3) = ⟨#[132, 161, 107, 3, 161, 108, 2, 161, 114, 196, 32, 114, 114, 114, 114, 114, 114, 114, 114, 114, 114, 114, 114, 114, 114, 114, 114, 114, 114, 114, 114, 114, 114, 114, 114, 114, 114, 114, 114, 114, 114, 114, 114, 161, 119, 205, 1, 44]⟩ := by kernel_rfl
theorem wk_same1 : ((⟨#[132, 161, 107, 3, 161, 108, 2, 161, 114, 196, 32, 114, 114, 114, 114, 114, 114, 114, 114, 114, 114, 114, 114, 114, 114, 114, 114, 114, 114, 114, 114, 114, 114, 114, 114, 114, 114, 114, 114, 114, 114, 114, 114, 161, 119, 205, 1, 44]⟩ : ByteArray).toList == ((⟨#[132, 161, 107, 3, 161, 108, 2, 161, 114, 196, 32]⟩ : ByteArray) ++ fullR ++ ⟨#[161, 119, 205, 1, 44]⟩).toList) = true := by kernel_rfl
theorem wk_may2 : allMay (slotSpecs 0 false 0 [] []) = true := by kernel_rfl
theorem wk_lay2 : layP (slotSpecs 0 false 0 [] []) = ⟨#[128]⟩ := by kernel_rfl
theorem wk_may3 : allMay (slotSpecs 5 true 0 [] []) = true := by kernel_rfl
theorem wk_lay3 : layP (slotSpecs 5 true 0 [] []) = ⟨#[130, 161, 108, 5, 161, 115, 1]⟩ := by kernel_rfl
theorem wk_may4 : allMay (partSpecs (fullR.extract 1 fullR.size) 0 0 0 0) = false := by kernel_rfl
theorem wk_may5 : allMay (msgSpecs ⟨#[]⟩ ⟨#[]⟩ 0 0 0 0) = false := by kernel_rfl
theorem wk_rd1 : readR ⟨#[128]⟩ (slotGs ⟨#[128]⟩ 0) slot0 = .ok slot0 := by kernel_rfl
theorem wk_rd2 : readR ⟨#[129, 161, 108, 0]⟩ (slotGs ⟨#[129, 161, 108, 0]⟩ 0) slot0 = .error (5, 0) := by kernel_rfl
theorem wk_rd3 : readR ⟨#[130, 161, 115, 1, 161, 108, 5]⟩ (slotGs ⟨#[130, 161, 115, 1, 161, 108, 5]⟩ 0) slot0 = .error (5, 0) := by kernel_rfl
theorem wk_rd4 : readR ⟨#[129, 161, 115, 2]⟩ (slotGs ⟨#[129, 161, 115, 2]⟩ 0) slot0 = .error (5, 0) := by kernel_rfl
theorem wk_rd5 : readR ⟨#[128, 128]⟩ (slotGs ⟨#[128, 128]⟩ 0) slot0 = .error (5, 1) := by kernel_rfl
theorem wk_rd6 : readR ⟨#[128]⟩ (partGs ⟨#[128]⟩ 0) part0 = .error (5, 0) := by kernel_rfl
theorem wk_rd7 : readR ⟨#[]⟩ (partGs ⟨#[]⟩ 0) part0 = .error (4, 0) := by kernel_rfl
theorem wk_rd8 : readR ⟨#[129, 161, 119, 204, 5]⟩ (partGs ⟨#[129, 161, 119, 204, 5]⟩ 0) part0 = .error (5, 3) := by kernel_rfl
def bdS : Nat → ByteArray
  | 0 => ⟨#[129, 161, 108, 0]⟩
  | 1 => ⟨#[130, 161, 115, 1, 161, 108, 5]⟩
  | _ => ⟨#[129, 161, 115, 2]⟩
theorem bdS_rd (m : Nat) : readR (bdS m) (slotGs (bdS m) 0) slot0 = .error (5, 0) := by
  match m with
  | 0 => exact wk_rd2
  | 1 => exact wk_rd3
  | _ + 2 => exact wk_rd4
theorem bdS_size (m : Nat) : (bdS m).size ≤ 9223372036854775807 := by
  match m with
  | 0 => decide
  | 1 => decide
  | _ + 2 => exact (show (4 : Nat) ≤ 9223372036854775807 by decide)
theorem bdS_at (m : Nat) (h : m < 3) : (#[Value.string ⟨#[129, 161, 108, 0]⟩, .string ⟨#[130, 161, 115, 1, 161, 108, 5]⟩, .string ⟨#[129, 161, 115, 2]⟩] : Array Value)[m]? = some (.string (bdS m)) := by
  match m, h with
  | 0, _ => rfl
  | 1, _ => rfl
  | 2, _ => rfl
end Go.Proofs.YtihiaopilnjonaaGreatDoor
namespace Go.Proofs.YtihiaopilnjonaaGreatDoor
open Go.RowKit
set_option linter.unusedSimpArgs false
set_option linter.unusedVariables false
structure TE7 (B : Nat) (w : World) : Prop where
  p : PTab B w
  t : Tabs B w
  e : ErrType w
  s : B ≤ w.heap.size
  g : 0 < B
theorem TE7.below {B : Nat} {w w' : World} (h : TE7 B w) (hb : Below w.heap.size w w') : TE7 B w' := ⟨h.p.keep hb h.s, h.t.below hb, h.e.below hb, Nat.le_trans h.s hb.size, h.g⟩
theorem readSlot_no (B : Nat) (s : ByteArray) (k : Int) (a : Nat) (w : World) (h : TE7 B w) (hs : s.size ≤ 9223372036854775807) (hr : readR s (slotGs s 0) slot0 = .error (k, a)) :
    Calls Tryz.prog 35 #[.string s] w fun e w' => ∃ fb, e = .returned (.tuple #[zeroSlot, .iface 127 (.pointer (some ⟨fb, 0, none⟩))]) ∧ FltB w' fb k a ∧ Below w.heap.size w w' := by
  refine (reaSlot_any B s w h.t h.e h.s h.g hs).mono ?_
  rintro e w' ⟨hb, hh⟩
  rw [hr] at hh
  obtain ⟨fb, he, hf⟩ := hh
  exact ⟨fb, he, hf, hb⟩
theorem readPart_no (B : Nat) (s : ByteArray) (k : Int) (a : Nat) (w : World) (h : TE7 B w) (hs : s.size ≤ 9223372036854775807) (hr : readR s (partGs s 0) part0 = .error (k, a)) :
    Calls Tryz.prog 29 #[.string s] w fun e w' => ∃ fb, e = .returned (.tuple #[zeroPart, .iface 127 (.pointer (some ⟨fb, 0, none⟩))]) ∧ FltB w' fb k a ∧ Below w.heap.size w w' := by
  refine (reaPart_any B s w h.t h.e h.s h.g hs).mono ?_
  rintro e w' ⟨hb, hh⟩
  rw [hr] at hh
  obtain ⟨fb, he, hf⟩ := hh
  exact ⟨fb, he, hf, hb⟩
theorem laid_yes {fs : List FSpec} {s : ByteArray} (h1 : allMay fs = true) (h2 : layP fs = s) {w w' : World} {e : Ending} (h : LaidIs fs w e w') : e = .returned (.tuple #[.string s, .int .i64 0]) ∧ Below w.heap.size w w' := by
  obtain ⟨h3, h4⟩ := h; rw [h1, if_pos rfl, h2] at h3; exact ⟨h3, h4⟩
theorem laid_no {fs : List FSpec} (h1 : allMay fs = false) {w w' : World} {e : Ending} (h : LaidIs fs w e w') : e = .returned (.tuple #[.string ⟨#[]⟩, .int .i64 2]) ∧ Below w.heap.size w w' := by
  obtain ⟨h3, h4⟩ := h; rw [h1, if_neg (by decide)] at h3; exact ⟨h3, h4⟩
set_option maxRecDepth 100000 in
set_option maxHeartbeats 4000000 in
theorem works7_any (B : Nat) (w : World) (h : TE7 B w) : Calls Tryz.prog 32 #[] w fun e w' => e = .returned (.bool true) ∧ Below w.heap.size w w' := by
  have HE := Lib.hid h
  clear h
  have hfs : (1 : Int) ≤ (fullR.size : Int) := by decide
  have hfn : (1 ≤ fullR.size) = True := by decide
  go_enter Tryz.func32, Tryz.ntmps32
  go_wp2_with fail
  refine (full_any w).mono ?_
  rintro e w1 ⟨rfl, hb⟩
  have HB := Lib.hid hb
  have HE := Lib.hid (HE.out.below hb)
  clear hb
  go_wp2_with fail
  refine (wpart_any B fullR 300 0 2 3 w1 HE.out.p (by decide) ⟨by decide, by decide⟩ ⟨by decide, by decide⟩ ⟨by decide, by decide⟩ ⟨by decide, by decide⟩ (by rw [wk_lay1]; decide)).mono ?_
  rintro e w2 hh
  obtain ⟨S1, hS1⟩ : ∃ S, layP (partSpecs fullR 300 0 2 3) = S := ⟨_, rfl⟩
  have HS1 := Lib.hid (hS1.symm.trans wk_lay1)
  obtain ⟨rfl, hb⟩ := laid_yes wk_may1 hS1 hh
  clear hS1
  have tS : (S1.toList == ((⟨#[132, 161, 107, 3, 161, 108, 2, 161, 114, 196, 32]⟩ : ByteArray) ++ fullR ++ ⟨#[161, 119, 205, 1, 44]⟩).toList) = true := by rw [HS1.out]; exact wk_same1
  have HB := Lib.hid (bnext HB.out hb)
  have HE := Lib.hid (HE.out.below hb)
  clear hb hh
  go_wp2_with fail
  refine (wslot_any B 0 false 0 none none 0 0 [] [] w2 HE.out.p (fun i hi => absurd hi (by simp [len])) (fun i hi => absurd hi (by simp [len])) (by decide) (by decide) (by decide) (by decide) (by decide) (by decide) (by rw [wk_lay2]; decide)).mono ?_
  rintro e w3 hh
  obtain ⟨rfl, hb⟩ := laid_yes wk_may2 wk_lay2 hh
  have HB := Lib.hid (bnext HB.out hb)
  have HE := Lib.hid (HE.out.below hb)
  clear hb hh
  go_wp2_with fail
  refine (wslot_any B 5 true 0 none none 0 0 [] [] w3 HE.out.p (fun i hi => absurd hi (by simp [len])) (fun i hi => absurd hi (by simp [len])) (by decide) (by decide) (by decide) (by decide) (by decide) (by decide) (by rw [wk_lay3]; decide)).mono ?_
  rintro e w4 hh
  obtain ⟨rfl, hb⟩ := laid_yes wk_may3 wk_lay3 hh
  have HB := Lib.hid (bnext HB.out hb)
  have HE := Lib.hid (HE.out.below hb)
  clear hb hh
  go_wp2_with fail
  refine (wpart_any B (fullR.extract 1 fullR.size) 0 0 0 0 w4 HE.out.p (by decide) ⟨by decide, by decide⟩ ⟨by decide, by decide⟩ ⟨by decide, by decide⟩ ⟨by decide, by decide⟩ (by decide)).mono ?_
  rintro e w5 hh
  obtain ⟨rfl, hb⟩ := laid_no wk_may4 hh
  have HB := Lib.hid (bnext HB.out hb)
  have HE := Lib.hid (HE.out.below hb)
  clear hb hh
  go_wp2_with fail
  refine (wmsg2_any B ⟨#[]⟩ ⟨#[]⟩ 0 0 0 0 w5 HE.out.p (by decide) (by decide) ⟨by decide, by decide⟩ ⟨by decide, by decide⟩ ⟨by decide, by decide⟩ ⟨by decide, by decide⟩ (by decide)).mono ?_
  rintro e w6 hh
  obtain ⟨rfl, hb⟩ := laid_no wk_may5 hh
  have HB := Lib.hid (bnext HB.out hb)
  have HE := Lib.hid (HE.out.below hb)
  clear hb hh
  go_wp2_with fail
  refine (reaSlot_any B ⟨#[128]⟩ w6 HE.out.t HE.out.e HE.out.s HE.out.g (by decide)).mono ?_
  rintro e w7 ⟨hb, hh⟩
  rw [wk_rd1] at hh
  obtain ⟨-, a3, c3, a4, c4, -, rfl⟩ := hh
  have HB := Lib.hid (bnext HB.out hb)
  have HE := Lib.hid (HE.out.below hb)
  clear hb tS
  go_wp2_with fail
  obtain ⟨sb, hsb⟩ : ∃ sb, w7.heap.size + 1 = sb := ⟨_, rfl⟩
  obtain ⟨W, hW⟩ : ∃ W, (w7.alloc (.cells #[.int .u64 0, .bool false, .int .u64 (slot0 2).n, .slice a3 (len (slot0 3).l) c3, .slice a4 (len (slot0 4).l) c4] 44)).alloc (.cells #[.string ⟨#[129, 161, 108, 0]⟩, .string ⟨#[130, 161, 115, 1, 161, 108, 5]⟩, .string ⟨#[129, 161, 115, 2]⟩] 9) = W := ⟨_, rfl⟩
  have HB : Hid (Below w.heap.size w W) := Lib.hid (by rw [← hW]; exact balloc (balloc HB.out _) _)
  have HE : Hid (TE7 B W) := Lib.hid (by rw [← hW]; exact HE.out.below (balloc (balloc (Below.refl _ _) _) _))
  have HS : Hid (W.heap[sb]? = some (.cells #[.string ⟨#[129, 161, 108, 0]⟩, .string ⟨#[130, 161, 115, 1, 161, 108, 5]⟩, .string ⟨#[129, 161, 115, 2]⟩] 9 (0, 0))) := Lib.hid (by rw [← hW, ← hsb]; exact alloc_new_at _ (by simp))
  rw [hW, hsb]
  clear hW hsb
  go_loopg [15] 3 (fun g i wr => ∃ m : Nat, g + m = 3 ∧ i = .int .i64 m ∧ Hid (Below W.heap.size W wr))
  case atStart => exact ⟨0, rfl, rfl, Below.refl _ _⟩
  case round =>
    obtain ⟨m, hg, rfl, HW⟩ := hrel
    by_cases hlt : m < 3
    · have c0 : wr.cell? ⟨sb, m, none⟩ = some (.string (bdS m)) := (block_cell ((HW.out.block sb (lt_of_block HS.out)).trans HS.out) m).trans (bdS_at m hlt)
      have i1 : decide (m < 3) = true := by simp; exact hlt
      have i2 : (m : Int) < 3 := by omega
      have HEr := Lib.hid (HE.out.below HW.out)
      have HR := Lib.hid (fun w' (h : TE7 B w') => readSlot_no B (bdS m) 5 0 w' h (bdS_size m) (bdS_rd m))
      generalize bdS m = v at c0 HR
      go_wp2_with fail
      refine (HR.out _ HEr.out).mono ?_
      rintro e w8 ⟨fb, rfl, hf, hb⟩
      have HF := Lib.hid hf
      have HB8 := Lib.hid hb
      have HE8 := Lib.hid (HEr.out.below hb)
      clear hb c0 hf
      go_wp2_with fail
      have HE9 := Lib.hid (HE8.out.below (balloc (Below.refl _ _) (.cells #[.int .u64 0, .bool false, .int .u64 0, .slice none 0 0, .slice none 0 0] 44)))
      have HF9 := Lib.hid (HF.out.below (balloc (Below.refl _ _) (.cells #[.int .u64 0, .bool false, .int .u64 0, .slice none 0 0, .slice none 0 0] 44)))
      have HB9 := Lib.hid (balloc (bnext HW.out HB8.out) (.cells #[.int .u64 0, .bool false, .int .u64 0, .slice none 0 0, .slice none 0 0] 44))
      refine (told_fault fb 5 0 _ HE9.out.e HF9.out (by decide) (Nat.lt_of_lt_of_le HE9.out.g HE9.out.s)).mono ?_
      rintro e w9 ⟨rfl, hb⟩
      have HB9 := Lib.hid (bnext HB9.out hb)
      clear hb
      go_wp2
      go_roundg (2 - m)
      case rel => exact ⟨m + 1, by omega, by go_num, HB9⟩
      case measure => omega
    · obtain rfl : m = 3 := by omega
      have HB := Lib.hid (bnext HB.out HW.out)
      have HE := Lib.hid (HE.out.below HW.out)
      clear HW
      go_wp2_with fail
      refine (readSlot_no B ⟨#[128, 128]⟩ 5 1 _ HE.out (by decide) wk_rd5).mono ?_
      rintro e x1 ⟨f1, rfl, hf, hb⟩
      have HB := Lib.hid (balloc (bnext HB.out hb) (.cells #[.int .u64 0, .bool false, .int .u64 0, .slice none 0 0, .slice none 0 0] 44))
      have HE := Lib.hid (HE.out.below (balloc hb (.cells #[.int .u64 0, .bool false, .int .u64 0, .slice none 0 0, .slice none 0 0] 44)))
      have HF1 := Lib.hid (hf.below (balloc (Below.refl _ _) (.cells #[.int .u64 0, .bool false, .int .u64 0, .slice none 0 0, .slice none 0 0] 44)))
      clear hb hf
      go_wp2_with fail
      refine (readPart_no B ⟨#[128]⟩ 5 0 _ HE.out (by decide) wk_rd6).mono ?_
      rintro e x2 ⟨f2, rfl, hf, hb⟩
      have HB := Lib.hid (balloc (bnext HB.out hb) (.cells #[.string ⟨#[]⟩, .int .u64 0, .int .u64 0, .int .u64 0, .int .u64 0] 46))
      have hb' := balloc hb (.cells #[.string ⟨#[]⟩, .int .u64 0, .int .u64 0, .int .u64 0, .int .u64 0] 46)
      have HE := Lib.hid (HE.out.below hb')
      have HF1 := Lib.hid (HF1.out.below hb')
      have HF2 := Lib.hid (hf.below (balloc (Below.refl _ _) (.cells #[.string ⟨#[]⟩, .int .u64 0, .int .u64 0, .int .u64 0, .int .u64 0] 46)))
      clear hb hf hb'
      go_wp2_with fail
      refine (readPart_no B ⟨#[]⟩ 4 0 _ HE.out (by decide) wk_rd7).mono ?_
      rintro e x3 ⟨f3, rfl, hf, hb⟩
      have HB := Lib.hid (balloc (bnext HB.out hb) (.cells #[.string ⟨#[]⟩, .int .u64 0, .int .u64 0, .int .u64 0, .int .u64 0] 46))
      have hb' := balloc hb (.cells #[.string ⟨#[]⟩, .int .u64 0, .int .u64 0, .int .u64 0, .int .u64 0] 46)
      have HE := Lib.hid (HE.out.below hb')
      have HF1 := Lib.hid (HF1.out.below hb')
      have HF2 := Lib.hid (HF2.out.below hb')
      have HF3 := Lib.hid (hf.below (balloc (Below.refl _ _) (.cells #[.string ⟨#[]⟩, .int .u64 0, .int .u64 0, .int .u64 0, .int .u64 0] 46)))
      clear hb hf hb'
      go_wp2_with fail
      refine (readPart_no B ⟨#[129, 161, 119, 204, 5]⟩ 5 3 _ HE.out (by decide) wk_rd8).mono ?_
      rintro e x4 ⟨f4, rfl, hf, hb⟩
      have HB := Lib.hid (balloc (bnext HB.out hb) (.cells #[.string ⟨#[]⟩, .int .u64 0, .int .u64 0, .int .u64 0, .int .u64 0] 46))
      have hb' := balloc hb (.cells #[.string ⟨#[]⟩, .int .u64 0, .int .u64 0, .int .u64 0, .int .u64 0] 46)
      have HE := Lib.hid (HE.out.below hb')
      have HF1 := Lib.hid (HF1.out.below hb')
      have HF2 := Lib.hid (HF2.out.below hb')
      have HF3 := Lib.hid (HF3.out.below hb')
      have HF4 := Lib.hid (hf.below (balloc (Below.refl _ _) (.cells #[.string ⟨#[]⟩, .int .u64 0, .int .u64 0, .int .u64 0, .int .u64 0] 46)))
      clear hb hf hb'
      go_wp2_with fail
      refine (told_fault f1 5 1 _ HE.out.e HF1.out (by decide) (Nat.lt_of_lt_of_le HE.out.g HE.out.s)).mono ?_
      rintro e y1 ⟨rfl, hb⟩
      have HB := Lib.hid (bnext HB.out hb)
      have HE := Lib.hid (HE.out.below hb)
      have HF2 := Lib.hid (HF2.out.below hb)
      have HF3 := Lib.hid (HF3.out.below hb)
      have HF4 := Lib.hid (HF4.out.below hb)
      clear hb
      go_wp2_with fail
      refine (told_fault f2 5 0 _ HE.out.e HF2.out (by decide) (Nat.lt_of_lt_of_le HE.out.g HE.out.s)).mono ?_
      rintro e y2 ⟨rfl, hb⟩
      have HB := Lib.hid (bnext HB.out hb)
      have HE := Lib.hid (HE.out.below hb)
      have HF3 := Lib.hid (HF3.out.below hb)
      have HF4 := Lib.hid (HF4.out.below hb)
      clear hb
      go_wp2_with fail
      refine (told_fault f3 4 0 _ HE.out.e HF3.out (by decide) (Nat.lt_of_lt_of_le HE.out.g HE.out.s)).mono ?_
      rintro e y3 ⟨rfl, hb⟩
      have HB := Lib.hid (bnext HB.out hb)
      have HE := Lib.hid (HE.out.below hb)
      have HF4 := Lib.hid (HF4.out.below hb)
      clear hb
      go_wp2_with fail
      refine (told_fault f4 5 3 _ HE.out.e HF4.out (by decide) (Nat.lt_of_lt_of_le HE.out.g HE.out.s)).mono ?_
      rintro e y4 ⟨rfl, hb⟩
      have HB := Lib.hid (bnext HB.out hb)
      clear hb
      go_wp2
      go_ret
      exact ⟨rfl, HB.out⟩
end Go.Proofs.YtihiaopilnjonaaGreatDoor
namespace Go.Proofs.YtihiaopilnjonaaGreatDoor
set_option linter.unusedSimpArgs false
set_option linter.unusedVariables false
open Go.RowKit
def refRowOf (sort : Nat) (c : Int) : Int × Int × Int := match (rowsOf sort).find? (fun r => decide (r.lo ≤ c) && decide (c ≤ r.hi)) with
  | none => (-1, 0, 0)
  | some r => (r.size, if r.size = 0 then c - r.lo else 0, r.least)
set_option maxRecDepth 100000 in
set_option maxHeartbeats 2000000 in
theorem refRow_0 (c : Int) (w : World) (c0 : 0 ≤ c) (c1 : c ≤ 255) :
    Calls Tryz.prog 246 #[.int .i64 0, .int .i64 c] w fun e w' => e = .returned (.tuple #[.int .i64 (refRowOf 0 c).1, .int .u64 (refRowOf 0 c).2.1, .int .u64 (refRowOf 0 c).2.2]) ∧ w' = w := by
  by_cases h0 : 0 ≤ c ∧ c ≤ 127
  · obtain ⟨l0, u0⟩ := h0
    have E : Hid (refRowOf 0 c = (0, c, 0)) := Lib.hid (by unfold refRowOf; rw [show rowsOf 0 = numsL from rfl]; unfold numsL; rw [List.find?_cons_of_pos (by simp; omega)]; simp)
    have i1 : IntKind.u64.wrap c = c := IntWalk.u64_in _ (by omega)
    go_enter Tryz.func246, Tryz.ntmps246
    go_wp2
    all_goals
      go_ret3
      rw [E.out]
      exact ⟨rfl, rfl⟩
  by_cases h1 : c = 204
  · subst h1
    have E : Hid (refRowOf 0 204 = (1, 0, 128)) := Lib.hid (by decide)
    go_enter Tryz.func246, Tryz.ntmps246
    go_wp2
    all_goals
      go_ret3
      rw [E.out]
      exact ⟨rfl, rfl⟩
  have q1 : (c == 204) = false := by simpa using h1
  by_cases h2 : c = 205
  · subst h2
    have E : Hid (refRowOf 0 205 = (2, 0, 256)) := Lib.hid (by decide)
    go_enter Tryz.func246, Tryz.ntmps246
    go_wp2
    all_goals
      go_ret3
      rw [E.out]
      exact ⟨rfl, rfl⟩
  have q2 : (c == 205) = false := by simpa using h2
  by_cases h3 : c = 206
  · subst h3
    have E : Hid (refRowOf 0 206 = (4, 0, 65536)) := Lib.hid (by decide)
    go_enter Tryz.func246, Tryz.ntmps246
    go_wp2
    all_goals
      go_ret3
      rw [E.out]
      exact ⟨rfl, rfl⟩
  have q3 : (c == 206) = false := by simpa using h3
  by_cases h4 : c = 207
  · subst h4
    have E : Hid (refRowOf 0 207 = (8, 0, 4294967296)) := Lib.hid (by decide)
    go_enter Tryz.func246, Tryz.ntmps246
    go_wp2
    all_goals
      go_ret3
      rw [E.out]
      exact ⟨rfl, rfl⟩
  have q4 : (c == 207) = false := by simpa using h4
  have E : Hid (refRowOf 0 c = (-1, 0, 0)) := Lib.hid (by unfold refRowOf; rw [show rowsOf 0 = numsL from rfl]; unfold numsL; rw [List.find?_cons_of_neg (by simp; omega), List.find?_cons_of_neg (by simp; omega), List.find?_cons_of_neg (by simp; omega), List.find?_cons_of_neg (by simp; omega), List.find?_cons_of_neg (by simp; omega), List.find?_nil])
  go_enter Tryz.func246, Tryz.ntmps246
  go_wp2
  all_goals
    go_ret3
    rw [E.out]
    exact ⟨rfl, rfl⟩
set_option maxRecDepth 100000 in
set_option maxHeartbeats 2000000 in
theorem refRow_1 (c : Int) (w : World) (c0 : 0 ≤ c) (c1 : c ≤ 255) :
    Calls Tryz.prog 246 #[.int .i64 1, .int .i64 c] w fun e w' => e = .returned (.tuple #[.int .i64 (refRowOf 1 c).1, .int .u64 (refRowOf 1 c).2.1, .int .u64 (refRowOf 1 c).2.2]) ∧ w' = w := by
  by_cases h0 : c = 196
  · subst h0
    have E : Hid (refRowOf 1 196 = (1, 0, 0)) := Lib.hid (by decide)
    go_enter Tryz.func246, Tryz.ntmps246
    go_wp2
    all_goals
      go_ret3
      rw [E.out]
      exact ⟨rfl, rfl⟩
  have q0 : (c == 196) = false := by simpa using h0
  by_cases h1 : c = 197
  · subst h1
    have E : Hid (refRowOf 1 197 = (2, 0, 256)) := Lib.hid (by decide)
    go_enter Tryz.func246, Tryz.ntmps246
    go_wp2
    all_goals
      go_ret3
      rw [E.out]
      exact ⟨rfl, rfl⟩
  have q1 : (c == 197) = false := by simpa using h1
  have E : Hid (refRowOf 1 c = (-1, 0, 0)) := Lib.hid (by unfold refRowOf; rw [show rowsOf 1 = binsL from rfl]; unfold binsL; rw [List.find?_cons_of_neg (by simp; omega), List.find?_cons_of_neg (by simp; omega), List.find?_nil])
  go_enter Tryz.func246, Tryz.ntmps246
  go_wp2
  all_goals
    go_ret3
    rw [E.out]
    exact ⟨rfl, rfl⟩
set_option maxRecDepth 100000 in
set_option maxHeartbeats 2000000 in
theorem refRow_2 (c : Int) (w : World) (c0 : 0 ≤ c) (c1 : c ≤ 255) :
    Calls Tryz.prog 246 #[.int .i64 2, .int .i64 c] w fun e w' => e = .returned (.tuple #[.int .i64 (refRowOf 2 c).1, .int .u64 (refRowOf 2 c).2.1, .int .u64 (refRowOf 2 c).2.2]) ∧ w' = w := by
  by_cases h0 : 160 ≤ c ∧ c ≤ 191
  · obtain ⟨l0, u0⟩ := h0
    have E : Hid (refRowOf 2 c = (0, c - 160, 0)) := Lib.hid (by unfold refRowOf; rw [show rowsOf 2 = strsL from rfl]; unfold strsL; rw [List.find?_cons_of_pos (by simp; omega)]; simp)
    have i1 : IntKind.u64.wrap (c - 160) = c - 160 := IntWalk.u64_in _ (by omega)
    have i2 : IntKind.i64.wrap (c - 160) = c - 160 := IntWalk.i64_in _ (by omega)
    go_enter Tryz.func246, Tryz.ntmps246
    go_wp2
    all_goals
      go_ret3
      rw [E.out]
      exact ⟨rfl, rfl⟩
  by_cases h1 : c = 217
  · subst h1
    have E : Hid (refRowOf 2 217 = (1, 0, 32)) := Lib.hid (by decide)
    go_enter Tryz.func246, Tryz.ntmps246
    go_wp2
    all_goals
      go_ret3
      rw [E.out]
      exact ⟨rfl, rfl⟩
  have q1 : (c == 217) = false := by simpa using h1
  by_cases h2 : c = 218
  · subst h2
    have E : Hid (refRowOf 2 218 = (2, 0, 256)) := Lib.hid (by decide)
    go_enter Tryz.func246, Tryz.ntmps246
    go_wp2
    all_goals
      go_ret3
      rw [E.out]
      exact ⟨rfl, rfl⟩
  have q2 : (c == 218) = false := by simpa using h2
  have E : Hid (refRowOf 2 c = (-1, 0, 0)) := Lib.hid (by unfold refRowOf; rw [show rowsOf 2 = strsL from rfl]; unfold strsL; rw [List.find?_cons_of_neg (by simp; omega), List.find?_cons_of_neg (by simp; omega), List.find?_cons_of_neg (by simp; omega), List.find?_nil])
  go_enter Tryz.func246, Tryz.ntmps246
  go_wp2
  all_goals
    go_ret3
    rw [E.out]
    exact ⟨rfl, rfl⟩
set_option maxRecDepth 100000 in
set_option maxHeartbeats 2000000 in
theorem refRow_3 (c : Int) (w : World) (c0 : 0 ≤ c) (c1 : c ≤ 255) :
    Calls Tryz.prog 246 #[.int .i64 3, .int .i64 c] w fun e w' => e = .returned (.tuple #[.int .i64 (refRowOf 3 c).1, .int .u64 (refRowOf 3 c).2.1, .int .u64 (refRowOf 3 c).2.2]) ∧ w' = w := by
  by_cases h0 : 144 ≤ c ∧ c ≤ 159
  · obtain ⟨l0, u0⟩ := h0
    have E : Hid (refRowOf 3 c = (0, c - 144, 0)) := Lib.hid (by unfold refRowOf; rw [show rowsOf 3 = listsL from rfl]; unfold listsL; rw [List.find?_cons_of_pos (by simp; omega)]; simp)
    have i1 : IntKind.u64.wrap (c - 144) = c - 144 := IntWalk.u64_in _ (by omega)
    have i2 : IntKind.i64.wrap (c - 144) = c - 144 := IntWalk.i64_in _ (by omega)
    go_enter Tryz.func246, Tryz.ntmps246
    go_wp2
    all_goals
      go_ret3
      rw [E.out]
      exact ⟨rfl, rfl⟩
  by_cases h1 : c = 220
  · subst h1
    have E : Hid (refRowOf 3 220 = (2, 0, 16)) := Lib.hid (by decide)
    go_enter Tryz.func246, Tryz.ntmps246
    go_wp2
    all_goals
      go_ret3
      rw [E.out]
      exact ⟨rfl, rfl⟩
  have q1 : (c == 220) = false := by simpa using h1
  have E : Hid (refRowOf 3 c = (-1, 0, 0)) := Lib.hid (by unfold refRowOf; rw [show rowsOf 3 = listsL from rfl]; unfold listsL; rw [List.find?_cons_of_neg (by simp; omega), List.find?_cons_of_neg (by simp; omega), List.find?_nil])
  go_enter Tryz.func246, Tryz.ntmps246
  go_wp2
  all_goals
    go_ret3
    rw [E.out]
    exact ⟨rfl, rfl⟩
set_option maxRecDepth 100000 in
set_option maxHeartbeats 2000000 in
theorem refRow_4 (c : Int) (w : World) (c0 : 0 ≤ c) (c1 : c ≤ 255) :
    Calls Tryz.prog 246 #[.int .i64 4, .int .i64 c] w fun e w' => e = .returned (.tuple #[.int .i64 (refRowOf 4 c).1, .int .u64 (refRowOf 4 c).2.1, .int .u64 (refRowOf 4 c).2.2]) ∧ w' = w := by
  by_cases h0 : 128 ≤ c ∧ c ≤ 143
  · obtain ⟨l0, u0⟩ := h0
    have E : Hid (refRowOf 4 c = (0, c - 128, 0)) := Lib.hid (by unfold refRowOf; rw [show rowsOf 4 = pairsL from rfl]; unfold pairsL; rw [List.find?_cons_of_pos (by simp; omega)]; simp)
    have i1 : IntKind.u64.wrap (c - 128) = c - 128 := IntWalk.u64_in _ (by omega)
    have i2 : IntKind.i64.wrap (c - 128) = c - 128 := IntWalk.i64_in _ (by omega)
    go_enter Tryz.func246, Tryz.ntmps246
    go_wp2
    all_goals
      go_ret3
      rw [E.out]
      exact ⟨rfl, rfl⟩
  by_cases h1 : c = 222
  · subst h1
    have E : Hid (refRowOf 4 222 = (2, 0, 16)) := Lib.hid (by decide)
    go_enter Tryz.func246, Tryz.ntmps246
    go_wp2
    all_goals
      go_ret3
      rw [E.out]
      exact ⟨rfl, rfl⟩
  have q1 : (c == 222) = false := by simpa using h1
  have E : Hid (refRowOf 4 c = (-1, 0, 0)) := Lib.hid (by unfold refRowOf; rw [show rowsOf 4 = pairsL from rfl]; unfold pairsL; rw [List.find?_cons_of_neg (by simp; omega), List.find?_cons_of_neg (by simp; omega), List.find?_nil])
  go_enter Tryz.func246, Tryz.ntmps246
  go_wp2
  all_goals
    go_ret3
    rw [E.out]
    exact ⟨rfl, rfl⟩
theorem refRow_any (sort : Nat) (h5 : sort < 5) (c : Int) (w : World) (c0 : 0 ≤ c) (c1 : c ≤ 255) :
    Calls Tryz.prog 246 #[.int .i64 sort, .int .i64 c] w fun e w' => e = .returned (.tuple #[.int .i64 (refRowOf sort c).1, .int .u64 (refRowOf sort c).2.1, .int .u64 (refRowOf sort c).2.2]) ∧ w' = w := by
  rcases (by omega : sort = 0 ∨ sort = 1 ∨ sort = 2 ∨ sort = 3 ∨ sort = 4) with rfl | rfl | rfl | rfl | rfl
  · exact refRow_0 c w c0 c1
  · exact refRow_1 c w c0 c1
  · exact refRow_2 c w c0 c1
  · exact refRow_3 c w c0 c1
  · exact refRow_4 c w c0 c1
end Go.Proofs.YtihiaopilnjonaaGreatDoor
namespace Go.Proofs.YtihiaopilnjonaaGreatDoor
set_option linter.unusedSimpArgs false
set_option linter.unusedVariables false
open Go.RowKit
def RefB (w : World) (b : Nat) (s : ByteArray) (a : Nat) (most : Int) : Prop := w.heap[b]? = some (.cells #[.string s, .int .i64 a, .int .i64 most] 210 (0, 0))
def RTakeIs (res : Except Int (Int × ByteArray × Nat)) (b : Nat) (s : ByteArray) (most : Int) (a : Nat) (w : World) (e : Ending) (w' : World) : Prop :=
  ExtB (some b) w w' ∧ match res with
    | .ok x => e = .returned (.tuple #[.int .u64 x.1, .string x.2.1, .int .i64 0]) ∧ RefB w' b s x.2.2 most
    | .error k => e = .returned (.tuple #[.int .u64 0, .string ⟨#[]⟩, .int .i64 k]) ∧ RefB w' b s a most
theorem rowsOf_ok (sort : Nat) : ∀ i, (unth (rowsOf sort) i).Ok := by
  unfold rowsOf
  split
  · exact binsL_ok
  · exact strsL_ok
  · exact listsL_ok
  · exact pairsL_ok
  · exact numsL_ok
theorem ref_cases (sort : Nat) (t : ByteArray) (h : 0 < t.size) :
    (refRowOf sort (byte t 0) = (-1, 0, 0) ∧ headOf t (rowsOf sort) = .error 5) ∨
    (∃ r : URow, ∃ q : Nat, r.Ok ∧ r.lo ≤ byte t 0 ∧ r.size = q ∧ q ≤ 8 ∧ refRowOf sort (byte t 0) = ((q : Int), numAt t r 0, r.least) ∧
      headOf t (rowsOf sort) = if (t.size : Int) < 1 + q then .error 4 else if numAt t r q < r.least then .error 5 else .ok (numAt t r q, t.extract (1 + q) t.size)) := by
  unfold refRowOf
  cases hf : (rowsOf sort).find? (fun r => decide (r.lo ≤ byte t 0) && decide (byte t 0 ≤ r.hi)) with
  | none =>
    refine .inl ⟨rfl, ?_⟩
    unfold headOf
    rw [if_neg (by omega), hf]
  | some r =>
    have hp := List.find?_some hf
    obtain ⟨i, hi, he⟩ := List.getElem_of_mem (List.mem_of_find?_eq_some hf)
    have ok := rowsOf_ok sort i
    rw [unth_eq _ i hi, he] at ok
    simp only [Bool.and_eq_true, decide_eq_true_eq] at hp
    have k1 := ok.sz0
    have k2 := ok.sz1
    obtain ⟨q, hq⟩ : ∃ q : Nat, r.size = q := ⟨r.size.toNat, by omega⟩
    refine .inr ⟨r, q, ok, hp.1, hq, by omega, ?_, ?_⟩
    · show (r.size, _, _) = _
      rw [hq]
      unfold numAt
      by_cases h0 : r.size = 0
      · rw [if_pos (by omega), if_pos h0]
      · rw [if_neg (by omega), if_neg h0]; rfl
    · rw [head_row h hf]
      unfold numAt
      rw [hq]
      simp only [Int.toNat_natCast]
theorem ext_ext (t : ByteArray) (i n : Nat) (h : i + n ≤ t.size) : (t.extract i t.size).extract 0 n = t.extract i (i + n) := by
  apply ByteArray.ext
  apply Array.ext'
  rw [Lib.extract_data, Lib.extract_data, Lib.extract_data, List.drop_zero, List.take_take]
  congr 1
  omega
theorem ext_set1 {w w1 : World} {b : Nat} (h : ExtB (some b) w w1) (v : Value) : ExtB (some b) w (w1.setCell ⟨b, 1, none⟩ v) :=
  ⟨h.os, h.tape, h.output, by simpa using h.size, fun i hi hn => by rw [Below.heap_setCell _ _ _ _ (by show i ≠ b; exact fun e => hn (by rw [e]))]; exact h.block i hi hn⟩
theorem byte_at (t : ByteArray) (j : Nat) (h : j + 1 < t.size) : (t[j + 1].toNat : Int) = byte t (1 + j) := by
  unfold byte
  rw [Nat.add_comm 1 j, List.getD_eq_getElem?_getD, List.getElem?_eq_getElem (by simpa using h)]; rfl
set_option maxRecDepth 100000 in
set_option maxHeartbeats 2000000 in
theorem refTake_any (w : World) (b : Nat) (s : ByteArray) (a : Nat) (most : Int) (sort : Nat) (h : RefB w b s a most) (ha : a ≤ s.size) (hs : s.size ≤ 140737488355328) (hm0 : 0 ≤ most) (hm1 : most ≤ 9223372036854775807) (h5 : sort < 5) :
    Calls Tryz.prog 209 #[.pointer (some ⟨b, 0, none⟩), .int .i64 sort] w (RTakeIs (takeOf sort s a most) b s most a w) := by
  have H := Lib.hid h
  have c0 : w.cell? ⟨b, 0, none⟩ = some (.string s) := block_cell h 0
  have c1 : w.cell? ⟨b, 1, none⟩ = some (.int .i64 a) := block_cell h 1
  have i1 : (a : Int) ≤ s.size := by omega
  have i2 : 0 ≤ (a : Int) := by omega
  have i3 : a ≤ s.size := ha
  clear h
  go_enter Tryz.func209, Tryz.ntmps209
  go_wp2
  refine wp_region_all 1000 (none) (phis [fun u _ => u = (.pointer (some ⟨b, 0, none⟩)), fun u _ => u = (.pointer (some ⟨b, 0, none⟩)), fun u _ => u = (.pointer (some ⟨b, 0, none⟩)), fun u _ => u = (.string s), fun u _ => u = (.pointer (some ⟨b, 0, none⟩)), fun u _ => u = (.pointer (some ⟨b, 0, none⟩)), fun u _ => u = (.pointer (some ⟨b, 1, none⟩)), fun u _ => u = (.int .i64 a), fun u _ => u = (.string (s.extract a s.size)), fun u _ => u = (.string (s.extract a s.size))]) rfl (by kernel_rfl) (mono_of ⟨mono_eq, mono_eq, mono_eq, mono_eq, mono_eq, mono_eq, mono_eq, mono_eq, mono_eq, mono_eq, trivial⟩) (steps_of 10 ⟨?s0, ?s1, ?s2, ?s3, ?s4, ?s5, ?s6, ?s7, ?s8, ?s9, trivial⟩) ?_
  case s0 =>
    refine step_val (v := (.pointer (some ⟨b, 0, none⟩))) (fun av wv hE hS hO hD => ?_) (fun _ => rfl)
    have h0 : av.eval (.tmp 0) = (.pointer (some ⟨b, 0, none⟩)) := hO.2.2 0 rfl
    have f0 := (ev_form av 0).symm.trans h0
    refine ⟨rfl, ?_⟩
    simp [go_sem, f0, i1, i2, i3]
  case s1 =>
    refine step_val (v := (.pointer (some ⟨b, 0, none⟩))) (fun av wv hE hS hO hD => ?_) (fun _ => rfl)
    have d13 : av.eval (.tmp 13) = (.pointer (some ⟨b, 0, none⟩)) := hD.1 rfl _ rfl
    have f13 := (ev_form av 13).symm.trans d13
    refine ⟨rfl, ?_⟩
    simp [go_sem, f13, i1, i2, i3]
  case s2 =>
    refine step_val (v := (.pointer (some ⟨b, 0, none⟩))) (fun av wv hE hS hO hD => ?_) (fun _ => rfl)
    have d14 : av.eval (.tmp 14) = (.pointer (some ⟨b, 0, none⟩)) := hD.1 rfl _ rfl
    have f14 := (ev_form av 14).symm.trans d14
    refine ⟨rfl, ?_⟩
    simp [go_sem, f14, i1, i2, i3]
  case s3 =>
    refine step_val (v := (.string s)) (fun av wv hE hS hO hD => ?_) (fun _ => rfl)
    have d15 : av.eval (.tmp 15) = (.pointer (some ⟨b, 0, none⟩)) := hD.1 rfl _ rfl
    have f15 := (ev_form av 15).symm.trans d15
    have c0 := extB_cell hE (by simp) c0
    have c1 := extB_cell hE (by simp) c1
    refine ⟨rfl, ?_⟩
    simp [go_sem, f15, c0, c1, i1, i2, i3]
  case s4 =>
    refine step_val (v := (.pointer (some ⟨b, 0, none⟩))) (fun av wv hE hS hO hD => ?_) (fun _ => rfl)
    have h0 : av.eval (.tmp 0) = (.pointer (some ⟨b, 0, none⟩)) := hO.2.2 0 rfl
    have f0 := (ev_form av 0).symm.trans h0
    refine ⟨rfl, ?_⟩
    simp [go_sem, f0, i1, i2, i3]
  case s5 =>
    refine step_val (v := (.pointer (some ⟨b, 0, none⟩))) (fun av wv hE hS hO hD => ?_) (fun _ => rfl)
    have d17 : av.eval (.tmp 17) = (.pointer (some ⟨b, 0, none⟩)) := hD.1 rfl _ rfl
    have f17 := (ev_form av 17).symm.trans d17
    refine ⟨rfl, ?_⟩
    simp [go_sem, f17, i1, i2, i3]
  case s6 =>
    refine step_val (v := (.pointer (some ⟨b, 1, none⟩))) (fun av wv hE hS hO hD => ?_) (fun _ => rfl)
    have d18 : av.eval (.tmp 18) = (.pointer (some ⟨b, 0, none⟩)) := hD.1 rfl _ rfl
    have f18 := (ev_form av 18).symm.trans d18
    refine ⟨rfl, ?_⟩
    simp [go_sem, f18, i1, i2, i3]
  case s7 =>
    refine step_val (v := (.int .i64 a)) (fun av wv hE hS hO hD => ?_) (fun _ => rfl)
    have d19 : av.eval (.tmp 19) = (.pointer (some ⟨b, 1, none⟩)) := hD.1 rfl _ rfl
    have f19 := (ev_form av 19).symm.trans d19
    have c0 := extB_cell hE (by simp) c0
    have c1 := extB_cell hE (by simp) c1
    refine ⟨rfl, ?_⟩
    simp [go_sem, f19, c0, c1, i1, i2, i3]
  case s8 =>
    refine step_val (v := (.string (s.extract a s.size))) (fun av wv hE hS hO hD => ?_) (fun _ => rfl)
    have d16 : av.eval (.tmp 16) = (.string s) := hD.1 rfl _ rfl
    have f16 := (ev_form av 16).symm.trans d16
    have d20 : av.eval (.tmp 20) = (.int .i64 a) := hD.2.1 rfl _ rfl
    have f20 := (ev_form av 20).symm.trans d20
    refine ⟨rfl, ?_⟩
    simp [go_sem, f16, f20, i1, i2, i3]
  case s9 =>
    refine step_val (v := (.string (s.extract a s.size))) (fun av wv hE hS hO hD => ?_) (fun _ => rfl)
    have d21 : av.eval (.tmp 21) = (.string (s.extract a s.size)) := hD.1 rfl _ rfl
    have f21 := (ev_form av 21).symm.trans d21
    refine ⟨rfl, ?_⟩
    simp [go_sem, f21, i1, i2, i3]
  intro a' w' hE hO hall
  have hA := act_of_outer (ds := [13, 14, 15, 16, 17, 18, 19, 20, 21, 7]) rfl hO (by kernel_rfl)
  have e13 : (fun u _ => u = (.pointer (some ⟨b, 0, none⟩))) (a'.eval (.tmp 13)) w' := hall.1 _ rfl
  have e14 : (fun u _ => u = (.pointer (some ⟨b, 0, none⟩))) (a'.eval (.tmp 14)) w' := hall.2.1 _ rfl
  have e15 : (fun u _ => u = (.pointer (some ⟨b, 0, none⟩))) (a'.eval (.tmp 15)) w' := hall.2.2.1 _ rfl
  have e16 : (fun u _ => u = (.string s)) (a'.eval (.tmp 16)) w' := hall.2.2.2.1 _ rfl
  have e17 : (fun u _ => u = (.pointer (some ⟨b, 0, none⟩))) (a'.eval (.tmp 17)) w' := hall.2.2.2.2.1 _ rfl
  have e18 : (fun u _ => u = (.pointer (some ⟨b, 0, none⟩))) (a'.eval (.tmp 18)) w' := hall.2.2.2.2.2.1 _ rfl
  have e19 : (fun u _ => u = (.pointer (some ⟨b, 1, none⟩))) (a'.eval (.tmp 19)) w' := hall.2.2.2.2.2.2.1 _ rfl
  have e20 : (fun u _ => u = (.int .i64 a)) (a'.eval (.tmp 20)) w' := hall.2.2.2.2.2.2.2.1 _ rfl
  have e21 : (fun u _ => u = (.string (s.extract a s.size))) (a'.eval (.tmp 21)) w' := hall.2.2.2.2.2.2.2.2.1 _ rfl
  have e7 : (fun u _ => u = (.string (s.extract a s.size))) (a'.eval (.tmp 7)) w' := hall.2.2.2.2.2.2.2.2.2.1 _ rfl
  simp only [List.foldl_cons, List.foldl_nil, Act.put, List.setIfInBounds_toArray, List.set_cons_succ, List.set_cons_zero, e13, e14, e15, e16, e17, e18, e19, e20, e21, e7] at hA
  clear hO hall e13 e14 e15 e16 e17 e18 e19 e20 e21 e7
  subst hA
  have B1 := Lib.hid (of_drew hE)
  have HB := Lib.hid (extB_block hE (by simp) H.out)
  clear hE c0 c1 i1 i2 i3 H
  obtain ⟨t, ht⟩ : ∃ t, s.extract a s.size = t := ⟨_, rfl⟩
  have hts : t.size = s.size - a := by rw [← ht, ByteArray.size_extract]; omega
  rw [ht]
  have HTT := Lib.hid ht
  clear ht
  by_cases h0 : t.size = 0
  · have he := empty_of h0
    have E : Hid (takeOf sort s a most = .error 4) := Lib.hid (by unfold takeOf headOf; rw [HTT.out, if_pos h0])
    clear hts h0
    go_wp2
    go_ret3
    rw [E.out]
    exact ⟨below_extB B1.out b, rfl, HB.out⟩
  · have he := full_of h0
    have h1 : 0 < t.size := by omega
    have hbb := byte_bd t 0
    have hz' : (t[0].toNat : Int) = byte t 0 := byte0 t h1
    obtain ⟨z, hz⟩ : ∃ z, byte t 0 = z := ⟨_, rfl⟩
    have HTS := Lib.hid hts
    have RC := Lib.hid (ref_cases sort t h1)
    clear hts h0
    rw [hz] at hbb hz'
    have HZ := Lib.hid hz
    clear hz
    have hzt : z.toNat < 256 := by omega
    go_wp2_with fail
    refine (refRow_any sort h5 z _ hbb.1 hbb.2).mono ?_
    rintro e w2 ⟨rfl, rfl⟩
    rcases RC.out with ⟨r1, r2⟩ | ⟨r, q, ok, hlo, hq, hq8, r1, r2⟩
    · rw [HZ.out] at r1
      rw [r1]
      have E : Hid (takeOf sort s a most = .error 5) := Lib.hid (by unfold takeOf; rw [HTT.out, r2])
      clear r1 r2
      go_wp2
      go_ret3
      rw [E.out]
      exact ⟨below_extB B1.out b, rfl, HB.out⟩
    · rw [HZ.out] at r1
      rw [r1]
      have R2 := Lib.hid r2
      have HQ := Lib.hid hq
      have HLO := Lib.hid hlo
      clear r1 r2 hq hlo
      by_cases hsz : (t.size : Int) < 1 + q
      · have E : Hid (takeOf sort s a most = .error 4) := Lib.hid (by unfold takeOf; rw [HTT.out, R2.out, if_pos hsz])
        go_wp2
        go_ret3
        rw [E.out]
        exact ⟨below_extB B1.out b, rfl, HB.out⟩
      · obtain ⟨v0, hv0⟩ : ∃ v0, numAt t r 0 = v0 := ⟨_, rfl⟩
        rw [hv0]
        have HV0 := Lib.hid hv0
        clear hv0
        go_wp2
        go_loopg [9, 11] q (fun g n i wx => ∃ j : Nat, g + j = q ∧ i = .int .i64 (j + 1) ∧ n = .int .u64 (numAt t r j) ∧ wx = w2)
        case atStart => exact ⟨0, rfl, rfl, by rw [HV0.out], rfl⟩
        case round =>
          obtain ⟨j, hj, rfl, rfl, rfl⟩ := hrel
          have vb := numAt_bd (s := t) (r := r) (j := j) (by omega) ok HLO.out
          by_cases hjq : j < q
          · have b0 : (j : Int) + 1 ≤ q := by omega
            have b1 : j + 1 < t.size := by omega
            have b2 : (j : Int) + 1 < t.size := by omega
            have vs := Lib.hid (numAt_succ t r j (by have := HQ.out; omega))
            have vb2 := numAt_lt (s := t) (r := r) (j := j) (by omega) ok HLO.out
            have cb := byte_bd t (1 + j)
            have hx := byte_at t j b1
            obtain ⟨c, hc⟩ : ∃ c, byte t (1 + j) = c := ⟨_, rfl⟩
            obtain ⟨v, hv⟩ : ∃ v, numAt t r j = v := ⟨_, rfl⟩
            rw [hc] at cb hx
            rw [hv] at vb vb2 ⊢
            have HC := Lib.hid hc
            have HV := Lib.hid hv
            clear hc hv
            go_wp2
            go_roundg (gk - 1)
            case rel => exact ⟨j + 1, by omega, by go_num, (by rw [vs.out, HV.out, HC.out, Int.mul_comm v 256]), rfl⟩
            case measure => omega
          · obtain rfl : j = q := by omega
            have hts := HTS.out
            have hr2 : (t.extract (1 + j) t.size).size = t.size - (1 + j) := by rw [ByteArray.size_extract]; omega
            have HO : headOf (s.extract a s.size) (rowsOf sort) = if numAt t r j < r.least then .error 5 else .ok (numAt t r j, t.extract (1 + j) t.size) := by rw [HTT.out, R2.out, if_neg (by omega)]
            obtain ⟨v, hv⟩ : ∃ v, numAt t r j = v := ⟨_, rfl⟩
            rw [hv] at HO vb ⊢
            have d1 : wr.cell? ⟨b, 1, none⟩ = some (.int .i64 a) := block_cell HB.out 1
            have d2 : wr.cell? ⟨b, 2, none⟩ = some (.int .i64 most) := block_cell HB.out 2
            have d3 : wr.frozen? ⟨b, 1, none⟩ = false := block_free HB.out 1
            have im : IntKind.u64.wrap most = most := IntWalk.u64_in _ (by omega)
            have HHO := Lib.hid HO
            have HR2 := Lib.hid hr2
            clear hv HO hr2 HV0 RC R2
            by_cases hvl : v < r.least
            · have E : Hid (takeOf sort s a most = .error 5) := Lib.hid (by unfold takeOf; rw [HHO.out, if_pos hvl])
              go_wp2
              go_ret3
              rw [E.out]
              exact ⟨below_extB B1.out b, rfl, HB.out⟩
            · have HO2 : Hid (headOf (s.extract a s.size) (rowsOf sort) = .ok (v, t.extract (1 + j) t.size)) := Lib.hid (by rw [HHO.out, if_neg hvl])
              by_cases q0 : sort = 0
              · have s0 : ((sort : Int) != 0) = false := by simp; omega
                have s1 : ((sort : Int) != 1) = true := by simp; omega
                have s2 : ((sort : Int) != 2) = true := by simp; omega
                have E : Hid (takeOf sort s a most = .ok (v, ⟨#[]⟩, s.size - (t.extract (1 + j) t.size).size)) := Lib.hid (by
                  unfold takeOf; rw [HO2.out]
                  show (if sort ≠ 0 ∧ most < v then _ else _) = _
                  rw [if_neg (fun e => e.1 q0), if_neg (by omega)])
                clear q0
                go_wp2
                go_ret3
                rw [E.out]
                refine ⟨ext_set1 (below_extB B1.out b) _, rfl, ?_⟩
                have h := block_setCell HB.out (o := 1) (.int .i64 ((a : Int) + 1 + j))
                show _ = some (Obj.cells #[_, .int .i64 ((s.size - (t.extract (1 + j) t.size).size : Nat) : Int), _] _ _)
                rw [HR2.out, show ((s.size - (t.size - (1 + j)) : Nat) : Int) = (a : Int) + 1 + j by omega]
                exact h
              · have s0 : ((sort : Int) != 0) = true := by simp; omega
                by_cases q1 : most < v
                · have E : Hid (takeOf sort s a most = .error 3) := Lib.hid (by
                    unfold takeOf; rw [HO2.out]
                    show (if sort ≠ 0 ∧ most < v then _ else _) = _
                    rw [if_pos ⟨q0, q1⟩])
                  go_wp2
                  go_ret3
                  rw [E.out]
                  exact ⟨below_extB B1.out b, rfl, HB.out⟩
                · by_cases q2 : sort = 1 ∨ sort = 2
                  · have k0 : IntKind.u64.wrap ((t.size : Int) - 1 - j) = (t.size : Int) - 1 - j := IntWalk.u64_in _ (by omega)
                    have Q2 := Lib.hid q2
                    by_cases hr : (t.size : Int) - 1 - j < v
                    · have E : Hid (takeOf sort s a most = .error 4) := Lib.hid (by
                        unfold takeOf; rw [HO2.out]
                        show (if sort ≠ 0 ∧ most < v then _ else _) = _
                        have := HR2.out
                        rw [if_neg (fun e => q1 e.2), if_pos q2, if_pos (by omega)])
                      clear q0
                      rcases q2 with e | e
                      · have s1 : ((sort : Int) != 1) = false := by simp; omega
                        clear e
                        go_wp2
                        go_ret3
                        rw [E.out]
                        exact ⟨below_extB B1.out b, rfl, HB.out⟩
                      · have s1 : ((sort : Int) != 1) = true := by simp; omega
                        have s2 : ((sort : Int) != 2) = false := by simp; omega
                        clear e
                        go_wp2
                        go_ret3
                        rw [E.out]
                        exact ⟨below_extB B1.out b, rfl, HB.out⟩
                    · have E : Hid (takeOf sort s a most = .ok (v, (t.extract (1 + j) t.size).extract 0 v.toNat, s.size - ((t.extract (1 + j) t.size).size - v.toNat))) := Lib.hid (by
                        unfold takeOf; rw [HO2.out]
                        show (if sort ≠ 0 ∧ most < v then _ else _) = _
                        have := HR2.out
                        rw [if_neg (fun e => q1 e.2), if_pos q2, if_neg (by omega)])
                      have iv : IntKind.i64.wrap v = v := IntWalk.i64_in _ (by omega)
                      have k1 : IntKind.i64.wrap (1 + (j : Int)) = 1 + j := IntWalk.i64_in _ (by omega)
                      have k2 : 1 + (j : Int) ≤ 1 + j + v := by omega
                      have k3 : 1 + (j : Int) + v ≤ t.size := by omega
                      have k4 : (1 + (j : Int)).toNat = 1 + j := by omega
                      have k5 : (1 + (j : Int) + v).toNat = 1 + j + v.toNat := by omega
                      have k6 : 0 ≤ 1 + (j : Int) + v := by omega
                      have k7 : 0 ≤ 1 + (j : Int) := by omega
                      have fin : ∀ W2 : World, Below (wr.setCell ⟨b, 1, none⟩ (.int .i64 ((a : Int) + (1 + j + v)))).heap.size (wr.setCell ⟨b, 1, none⟩ (.int .i64 ((a : Int) + (1 + j + v)))) W2 → RTakeIs (takeOf sort s a most) b s most a w (.returned (.tuple #[.int .u64 v, .string (t.extract (1 + j) (1 + j + v.toNat)), .int .i64 0])) W2 := fun W2 hW2 => by
                        rw [E.out]
                        refine ⟨ExtB_trans _ _ _ _ (ext_set1 (below_extB B1.out b) _) (below_extB hW2 b), ?_, ?_⟩
                        · show _ = Ending.returned (.tuple #[_, .string ((t.extract (1 + j) t.size).extract 0 v.toNat), _])
                          rw [ext_ext t (1 + j) v.toNat (by omega)]
                        · have h := (hW2.block b (by simp; exact lt_of_block HB.out)).trans (block_setCell HB.out (o := 1) (.int .i64 ((a : Int) + (1 + j + v))))
                          show _ = some (Obj.cells #[_, .int .i64 ((s.size - ((t.extract (1 + j) t.size).size - v.toNat) : Nat) : Int), _] _ _)
                          rw [HR2.out, show ((s.size - ((t.size - (1 + j)) - v.toNat) : Nat) : Int) = (a : Int) + (1 + j + v) by omega]
                          exact h
                      have FIN := Lib.hid fin
                      clear fin E q0
                      rcases q2 with e | e
                      · have s1 : ((sort : Int) != 1) = false := by simp; omega
                        clear e
                        go_wp2
                        refine wp_region_all 1000 (none) (phis [fun u _ => u = (.int .u64 v), fun u _ => u = (.string t), fun u _ => u = (.int .i64 j), fun u _ => u = (.int .i64 (1 + j)), fun u _ => u = (.int .i64 (1 + j + v)), fun u _ => u = (.string (t.extract (1 + j) (1 + j + v.toNat))), fun u _ => u = (.int .u64 v), fun u _ => u = (.string (t.extract (1 + j) (1 + j + v.toNat))), fun u _ => u = (.int .i64 0)]) rfl (by kernel_rfl) (mono_of ⟨mono_eq, mono_eq, mono_eq, mono_eq, mono_eq, mono_eq, mono_eq, mono_eq, mono_eq, trivial⟩) (steps_of 9 ⟨?s0, ?s1, ?s2, ?s3, ?s4, ?s5, ?s6, ?s7, ?s8, trivial⟩) ?_
                        case s0 =>
                          refine step_val (v := (.int .u64 v)) (fun av wv hE hS hO hD => ?_) (fun _ => rfl)
                          have h9 : av.eval (.tmp 9) = (.int .u64 v) := hO.2.2 9 rfl
                          have f9 := (ev_form av 9).symm.trans h9
                          refine ⟨rfl, ?_⟩
                          simp [go_sem, f9, k1, k2, k3, k4, k5, k6, k7]
                        case s1 =>
                          refine step_val (v := (.string t)) (fun av wv hE hS hO hD => ?_) (fun _ => rfl)
                          have h7 : av.eval (.tmp 7) = (.string t) := hO.2.2 7 rfl
                          have f7 := (ev_form av 7).symm.trans h7
                          refine ⟨rfl, ?_⟩
                          simp [go_sem, f7, k1, k2, k3, k4, k5, k6, k7]
                        case s2 =>
                          refine step_val (v := (.int .i64 j)) (fun av wv hE hS hO hD => ?_) (fun _ => rfl)
                          have h8 : av.eval (.tmp 8) = (.int .i64 j) := hO.2.2 8 rfl
                          have f8 := (ev_form av 8).symm.trans h8
                          refine ⟨rfl, ?_⟩
                          simp [go_sem, f8, k1, k2, k3, k4, k5, k6, k7]
                        case s3 =>
                          refine step_val (v := (.int .i64 (1 + j))) (fun av wv hE hS hO hD => ?_) (fun _ => rfl)
                          have d107 : av.eval (.tmp 107) = (.int .i64 j) := hD.1 rfl _ rfl
                          have f107 := (ev_form av 107).symm.trans d107
                          refine ⟨rfl, ?_⟩
                          simp [go_sem, f107, k1, k2, k3, k4, k5, k6, k7]
                        case s4 =>
                          refine step_val (v := (.int .i64 (1 + j + v))) (fun av wv hE hS hO hD => ?_) (fun _ => rfl)
                          have h12 : av.eval (.tmp 12) = (.int .i64 (1 + j + v)) := hO.2.2 12 rfl
                          have f12 := (ev_form av 12).symm.trans h12
                          refine ⟨rfl, ?_⟩
                          simp [go_sem, f12, k1, k2, k3, k4, k5, k6, k7]
                        case s5 =>
                          refine step_val (v := (.string (t.extract (1 + j) (1 + j + v.toNat)))) (fun av wv hE hS hO hD => ?_) (fun _ => rfl)
                          have d106 : av.eval (.tmp 106) = (.string t) := hD.1 rfl _ rfl
                          have f106 := (ev_form av 106).symm.trans d106
                          have d108 : av.eval (.tmp 108) = (.int .i64 (1 + j)) := hD.2.1 rfl _ rfl
                          have f108 := (ev_form av 108).symm.trans d108
                          have d109 : av.eval (.tmp 109) = (.int .i64 (1 + j + v)) := hD.2.2.1 rfl _ rfl
                          have f109 := (ev_form av 109).symm.trans d109
                          refine ⟨rfl, ?_⟩
                          simp [go_sem, f106, f108, f109, k1, k2, k3, k4, k5, k6, k7]
                        case s6 =>
                          refine step_val (v := (.int .u64 v)) (fun av wv hE hS hO hD => ?_) (fun _ => rfl)
                          have d105 : av.eval (.tmp 105) = (.int .u64 v) := hD.1 rfl _ rfl
                          have f105 := (ev_form av 105).symm.trans d105
                          refine ⟨rfl, ?_⟩
                          simp [go_sem, f105, k1, k2, k3, k4, k5, k6, k7]
                        case s7 =>
                          refine step_val (v := (.string (t.extract (1 + j) (1 + j + v.toNat)))) (fun av wv hE hS hO hD => ?_) (fun _ => rfl)
                          have d110 : av.eval (.tmp 110) = (.string (t.extract (1 + j) (1 + j + v.toNat))) := hD.1 rfl _ rfl
                          have f110 := (ev_form av 110).symm.trans d110
                          refine ⟨rfl, ?_⟩
                          simp [go_sem, f110, k1, k2, k3, k4, k5, k6, k7]
                        case s8 =>
                          refine step_val (v := (.int .i64 0)) (fun av wv hE hS hO hD => ?_) (fun _ => rfl)
                          refine ⟨rfl, ?_⟩
                          simp [go_sem, k1, k2, k3, k4, k5, k6, k7]
                        intro a' w' hE hO hall
                        have hA := act_of_outer (ds := [105, 106, 107, 108, 109, 110, 4, 5, 6]) rfl hO (by kernel_rfl)
                        have e105 : (fun u _ => u = (.int .u64 v)) (a'.eval (.tmp 105)) w' := hall.1 _ rfl
                        have e106 : (fun u _ => u = (.string t)) (a'.eval (.tmp 106)) w' := hall.2.1 _ rfl
                        have e107 : (fun u _ => u = (.int .i64 j)) (a'.eval (.tmp 107)) w' := hall.2.2.1 _ rfl
                        have e108 : (fun u _ => u = (.int .i64 (1 + j))) (a'.eval (.tmp 108)) w' := hall.2.2.2.1 _ rfl
                        have e109 : (fun u _ => u = (.int .i64 (1 + j + v))) (a'.eval (.tmp 109)) w' := hall.2.2.2.2.1 _ rfl
                        have e110 : (fun u _ => u = (.string (t.extract (1 + j) (1 + j + v.toNat)))) (a'.eval (.tmp 110)) w' := hall.2.2.2.2.2.1 _ rfl
                        have e4 : (fun u _ => u = (.int .u64 v)) (a'.eval (.tmp 4)) w' := hall.2.2.2.2.2.2.1 _ rfl
                        have e5 : (fun u _ => u = (.string (t.extract (1 + j) (1 + j + v.toNat)))) (a'.eval (.tmp 5)) w' := hall.2.2.2.2.2.2.2.1 _ rfl
                        have e6 : (fun u _ => u = (.int .i64 0)) (a'.eval (.tmp 6)) w' := hall.2.2.2.2.2.2.2.2.1 _ rfl
                        simp only [List.foldl_cons, List.foldl_nil, Act.put, List.setIfInBounds_toArray, List.set_cons_succ, List.set_cons_zero, e105, e106, e107, e108, e109, e110, e4, e5, e6] at hA
                        clear hO hall e105 e106 e107 e108 e109 e110 e4 e5 e6
                        subst hA
                        have Y := Lib.hid (of_drew hE)
                        clear hE
                        go_wp2
                        go_ret3
                        exact FIN.out _ Y.out
                      · have s1 : ((sort : Int) != 1) = true := by simp; omega
                        have s2 : ((sort : Int) != 2) = false := by simp; omega
                        clear e
                        go_wp2
                        refine wp_region_all 1000 (none) (phis [fun u _ => u = (.int .u64 v), fun u _ => u = (.string t), fun u _ => u = (.int .i64 j), fun u _ => u = (.int .i64 (1 + j)), fun u _ => u = (.int .i64 (1 + j + v)), fun u _ => u = (.string (t.extract (1 + j) (1 + j + v.toNat))), fun u _ => u = (.int .u64 v), fun u _ => u = (.string (t.extract (1 + j) (1 + j + v.toNat))), fun u _ => u = (.int .i64 0)]) rfl (by kernel_rfl) (mono_of ⟨mono_eq, mono_eq, mono_eq, mono_eq, mono_eq, mono_eq, mono_eq, mono_eq, mono_eq, trivial⟩) (steps_of 9 ⟨?s0, ?s1, ?s2, ?s3, ?s4, ?s5, ?s6, ?s7, ?s8, trivial⟩) ?_
                        case s0 =>
                          refine step_val (v := (.int .u64 v)) (fun av wv hE hS hO hD => ?_) (fun _ => rfl)
                          have h9 : av.eval (.tmp 9) = (.int .u64 v) := hO.2.2 9 rfl
                          have f9 := (ev_form av 9).symm.trans h9
                          refine ⟨rfl, ?_⟩
                          simp [go_sem, f9, k1, k2, k3, k4, k5, k6, k7]
                        case s1 =>
                          refine step_val (v := (.string t)) (fun av wv hE hS hO hD => ?_) (fun _ => rfl)
                          have h7 : av.eval (.tmp 7) = (.string t) := hO.2.2 7 rfl
                          have f7 := (ev_form av 7).symm.trans h7
                          refine ⟨rfl, ?_⟩
                          simp [go_sem, f7, k1, k2, k3, k4, k5, k6, k7]
                        case s2 =>
                          refine step_val (v := (.int .i64 j)) (fun av wv hE hS hO hD => ?_) (fun _ => rfl)
                          have h8 : av.eval (.tmp 8) = (.int .i64 j) := hO.2.2 8 rfl
                          have f8 := (ev_form av 8).symm.trans h8
                          refine ⟨rfl, ?_⟩
                          simp [go_sem, f8, k1, k2, k3, k4, k5, k6, k7]
                        case s3 =>
                          refine step_val (v := (.int .i64 (1 + j))) (fun av wv hE hS hO hD => ?_) (fun _ => rfl)
                          have d107 : av.eval (.tmp 107) = (.int .i64 j) := hD.1 rfl _ rfl
                          have f107 := (ev_form av 107).symm.trans d107
                          refine ⟨rfl, ?_⟩
                          simp [go_sem, f107, k1, k2, k3, k4, k5, k6, k7]
                        case s4 =>
                          refine step_val (v := (.int .i64 (1 + j + v))) (fun av wv hE hS hO hD => ?_) (fun _ => rfl)
                          have h12 : av.eval (.tmp 12) = (.int .i64 (1 + j + v)) := hO.2.2 12 rfl
                          have f12 := (ev_form av 12).symm.trans h12
                          refine ⟨rfl, ?_⟩
                          simp [go_sem, f12, k1, k2, k3, k4, k5, k6, k7]
                        case s5 =>
                          refine step_val (v := (.string (t.extract (1 + j) (1 + j + v.toNat)))) (fun av wv hE hS hO hD => ?_) (fun _ => rfl)
                          have d106 : av.eval (.tmp 106) = (.string t) := hD.1 rfl _ rfl
                          have f106 := (ev_form av 106).symm.trans d106
                          have d108 : av.eval (.tmp 108) = (.int .i64 (1 + j)) := hD.2.1 rfl _ rfl
                          have f108 := (ev_form av 108).symm.trans d108
                          have d109 : av.eval (.tmp 109) = (.int .i64 (1 + j + v)) := hD.2.2.1 rfl _ rfl
                          have f109 := (ev_form av 109).symm.trans d109
                          refine ⟨rfl, ?_⟩
                          simp [go_sem, f106, f108, f109, k1, k2, k3, k4, k5, k6, k7]
                        case s6 =>
                          refine step_val (v := (.int .u64 v)) (fun av wv hE hS hO hD => ?_) (fun _ => rfl)
                          have d105 : av.eval (.tmp 105) = (.int .u64 v) := hD.1 rfl _ rfl
                          have f105 := (ev_form av 105).symm.trans d105
                          refine ⟨rfl, ?_⟩
                          simp [go_sem, f105, k1, k2, k3, k4, k5, k6, k7]
                        case s7 =>
                          refine step_val (v := (.string (t.extract (1 + j) (1 + j + v.toNat)))) (fun av wv hE hS hO hD => ?_) (fun _ => rfl)
                          have d110 : av.eval (.tmp 110) = (.string (t.extract (1 + j) (1 + j + v.toNat))) := hD.1 rfl _ rfl
                          have f110 := (ev_form av 110).symm.trans d110
                          refine ⟨rfl, ?_⟩
                          simp [go_sem, f110, k1, k2, k3, k4, k5, k6, k7]
                        case s8 =>
                          refine step_val (v := (.int .i64 0)) (fun av wv hE hS hO hD => ?_) (fun _ => rfl)
                          refine ⟨rfl, ?_⟩
                          simp [go_sem, k1, k2, k3, k4, k5, k6, k7]
                        intro a' w' hE hO hall
                        have hA := act_of_outer (ds := [105, 106, 107, 108, 109, 110, 4, 5, 6]) rfl hO (by kernel_rfl)
                        have e105 : (fun u _ => u = (.int .u64 v)) (a'.eval (.tmp 105)) w' := hall.1 _ rfl
                        have e106 : (fun u _ => u = (.string t)) (a'.eval (.tmp 106)) w' := hall.2.1 _ rfl
                        have e107 : (fun u _ => u = (.int .i64 j)) (a'.eval (.tmp 107)) w' := hall.2.2.1 _ rfl
                        have e108 : (fun u _ => u = (.int .i64 (1 + j))) (a'.eval (.tmp 108)) w' := hall.2.2.2.1 _ rfl
                        have e109 : (fun u _ => u = (.int .i64 (1 + j + v))) (a'.eval (.tmp 109)) w' := hall.2.2.2.2.1 _ rfl
                        have e110 : (fun u _ => u = (.string (t.extract (1 + j) (1 + j + v.toNat)))) (a'.eval (.tmp 110)) w' := hall.2.2.2.2.2.1 _ rfl
                        have e4 : (fun u _ => u = (.int .u64 v)) (a'.eval (.tmp 4)) w' := hall.2.2.2.2.2.2.1 _ rfl
                        have e5 : (fun u _ => u = (.string (t.extract (1 + j) (1 + j + v.toNat)))) (a'.eval (.tmp 5)) w' := hall.2.2.2.2.2.2.2.1 _ rfl
                        have e6 : (fun u _ => u = (.int .i64 0)) (a'.eval (.tmp 6)) w' := hall.2.2.2.2.2.2.2.2.1 _ rfl
                        simp only [List.foldl_cons, List.foldl_nil, Act.put, List.setIfInBounds_toArray, List.set_cons_succ, List.set_cons_zero, e105, e106, e107, e108, e109, e110, e4, e5, e6] at hA
                        clear hO hall e105 e106 e107 e108 e109 e110 e4 e5 e6
                        subst hA
                        have Y := Lib.hid (of_drew hE)
                        clear hE
                        go_wp2
                        go_ret3
                        exact FIN.out _ Y.out
                  · have s1 : ((sort : Int) != 1) = true := by simp; omega
                    have s2 : ((sort : Int) != 2) = true := by simp; omega
                    have E : Hid (takeOf sort s a most = .ok (v, ⟨#[]⟩, s.size - (t.extract (1 + j) t.size).size)) := Lib.hid (by
                      unfold takeOf; rw [HO2.out]
                      show (if sort ≠ 0 ∧ most < v then _ else _) = _
                      rw [if_neg (fun e => q1 e.2), if_neg q2])
                    clear q0 q2
                    go_wp2
                    go_ret3
                    rw [E.out]
                    refine ⟨ext_set1 (below_extB B1.out b) _, rfl, ?_⟩
                    have h := block_setCell HB.out (o := 1) (.int .i64 ((a : Int) + 1 + j))
                    show _ = some (Obj.cells #[_, .int .i64 ((s.size - (t.extract (1 + j) t.size).size : Nat) : Int), _] _ _)
                    rw [HR2.out, show ((s.size - (t.size - (1 + j)) : Nat) : Int) = (a : Int) + 1 + j by omega]
                    exact h
end Go.Proofs.YtihiaopilnjonaaGreatDoor
namespace Go.Proofs.YtihiaopilnjonaaGreatDoor
open Go.RowKit
set_option linter.unusedSimpArgs false
set_option linter.unusedVariables false
abbrev Cst := Except Flt Nat
def Cst.flt : Cst → Flt
  | .ok _ => (0, 0)
  | .error f => f
def CurB (w : World) (cb rb : Nat) (f : Flt) : Prop := w.heap[cb]? = some (.cells #[.pointer (some ⟨rb, 0, none⟩), .int .i64 f.1, .int .i64 f.2] 205 (0, 0))
structure CurIs (w : World) (cb rb : Nat) (s : ByteArray) (σ : Cst) : Prop where
  c : CurB w cb rb σ.flt
  ne : cb ≠ rb
  sz : s.size ≤ 140737488355328
  st : match σ with | .ok a => RefB w rb s a 10240 ∧ a ≤ s.size | .error f => f.1 ≠ 0 ∧ ∃ a, RefB w rb s a 10240 ∧ a ≤ s.size
theorem CurIs.below {w w' : World} {cb rb : Nat} {s : ByteArray} {σ : Cst} (h : CurIs w cb rb s σ) (hb : Below w.heap.size w w') : CurIs w' cb rb s σ := by
  refine ⟨(hb.block _ (lt_of_block h.c)).trans h.c, h.ne, h.sz, ?_⟩
  have hs := h.st
  cases σ with
  | ok a => exact ⟨(hb.block _ (lt_of_block hs.1)).trans hs.1, hs.2⟩
  | error f => obtain ⟨h1, a, h2, h3⟩ := hs; exact ⟨h1, a, (hb.block _ (lt_of_block h2)).trans h2, h3⟩
theorem CurIs.rd {w : World} {cb rb : Nat} {s : ByteArray} {σ : Cst} (h : CurIs w cb rb s σ) : ∃ a, RefB w rb s a 10240 ∧ a ≤ s.size := by
  have hs := h.st
  cases σ with
  | ok a => exact ⟨a, hs⟩
  | error f => exact hs.2
theorem CurIs.flt0 {w : World} {cb rb : Nat} {s : ByteArray} {f : Flt} (h : CurIs w cb rb s (.error f)) : f.1 ≠ 0 := h.st.1
def CurR (v : Value) (σ : Cst) (cb rb : Nat) (s : ByteArray) (w : World) (e : Ending) (w' : World) : Prop := e = .returned v ∧ CurIs w' cb rb s σ ∧ Chg rb cb w w'
theorem CurIs.set {w : World} {cb rb : Nat} {s : ByteArray} {σ : Cst} (h : CurIs w cb rb s σ) (f : Flt) (hf : f.1 ≠ 0) : CurIs ((w.setCell ⟨cb, 1, none⟩ (.int .i64 f.1)).setCell ⟨cb, 2, none⟩ (.int .i64 f.2)) cb rb s (.error f) := by
  obtain ⟨a, h1, h2⟩ := h.rd
  exact ⟨block_setCell (block_setCell h.c _) _, h.ne, h.sz, hf, a, block_setCell_ne (block_setCell_ne h1 (by exact fun e => h.ne e.symm) _) (by exact fun e => h.ne e.symm) _, h2⟩
def isBad : Cst → Bool
  | .ok _ => false
  | .error _ => true
theorem bad_any (cb rb : Nat) (s : ByteArray) (σ : Cst) (w : World) (h : CurIs w cb rb s σ) : Calls Tryz.prog 127 #[.pointer (some ⟨cb, 0, none⟩)] w fun e w' => e = .returned (.bool (isBad σ)) ∧ w' = w := by
  cases σ with
  | ok a =>
    have c1 : w.cell? ⟨cb, 1, none⟩ = some (.int .i64 0) := block_cell h.c 1
    clear h
    go_enter Tryz.func127, Tryz.ntmps127
    go_wp2
    go_ret
    exact ⟨rfl, rfl⟩
  | error f =>
    have c1 : w.cell? ⟨cb, 1, none⟩ = some (.int .i64 f.1) := block_cell h.c 1
    have h0 : (f.1 != 0) = true := by simpa using h.flt0
    clear h
    go_enter Tryz.func127, Tryz.ntmps127
    go_wp2
    go_ret
    exact ⟨rfl, rfl⟩
def failS (b : Bool) (k : Int) : Cst → Cst
  | .ok a => if b then .error (k, 0) else .ok a
  | .error f => .error f
set_option maxRecDepth 100000 in
theorem fail_any (cb rb : Nat) (s : ByteArray) (σ : Cst) (b : Bool) (k : Int) (w : World) (h : CurIs w cb rb s σ) (hk : k ≠ 0) : Calls Tryz.prog 131 #[.pointer (some ⟨cb, 0, none⟩), .bool b, .int .i64 k] w (CurR (.tuple #[]) (failS b k σ) cb rb s w) := by
  have H := Lib.hid h
  have HB := Lib.hid (bad_any cb rb s σ w h)
  have q0 : ∀ o, w.cell? ⟨cb, o, none⟩ = _ := block_cell h.c
  have q1 : ∀ o, w.frozen? ⟨cb, o, none⟩ = false := block_free h.c
  have l0 : cb < w.heap.size := lt_of_block h.c
  clear h
  cases b with
  | false =>
    go_enter Tryz.func131, Tryz.ntmps131
    go_wp2
    go_end0
    refine ⟨rfl, ?_, Chg.refl _ _ _⟩
    cases σ <;> exact H.out
  | true =>
    go_enter Tryz.func131, Tryz.ntmps131
    go_wp2_with fail
    refine HB.out.mono ?_
    rintro e w1 ⟨rfl, rfl⟩
    cases σ with
    | error f =>
      simp only [isBad]
      go_wp2
      go_end0
      exact ⟨rfl, H.out, Chg.refl _ _ _⟩
    | ok a =>
      simp only [isBad]
      go_wp2
      go_end0
      exact ⟨rfl, H.out.set (k, 0) hk, ((Chg.refl rb cb w1).set 1 _).set 2 _⟩
def tkS (sort : Nat) (s : ByteArray) : Cst → (Int × ByteArray) × Cst
  | .error f => ((0, ⟨#[]⟩), .error f)
  | .ok a => match tkR sort s a with
    | .error f => ((0, ⟨#[]⟩), .error f)
    | .ok x => ((x.1, x.2.1), .ok x.2.2)
theorem CurIs.sz2 {w : World} {cb rb : Nat} {s : ByteArray} {σ : Cst} (h : CurIs w cb rb s σ) : s.size ≤ 9223372036854775807 := by have := h.sz; omega
set_option maxRecDepth 100000 in
theorem ctake_any (cb rb : Nat) (s : ByteArray) (σ : Cst) (sort : Nat) (w : World) (h : CurIs w cb rb s σ) (h5 : sort < 5) :
    Calls Tryz.prog 142 #[.pointer (some ⟨cb, 0, none⟩), .int .i64 sort] w (CurR (.tuple #[.int .u64 (tkS sort s σ).1.1, .string (tkS sort s σ).1.2]) (tkS sort s σ).2 cb rb s w) := by
  have H := Lib.hid h
  have HB := Lib.hid (bad_any cb rb s σ w h)
  have c0 : w.cell? ⟨cb, 0, none⟩ = some (.pointer (some ⟨rb, 0, none⟩)) := block_cell h.c 0
  clear h
  go_enter Tryz.func142, Tryz.ntmps142
  go_wp2_with fail
  refine HB.out.mono ?_
  rintro e w1 ⟨rfl, rfl⟩
  cases σ with
  | error f =>
    simp only [isBad]
    go_wp2
    go_ret2
    exact ⟨rfl, H.out, Chg.refl _ _ _⟩
  | ok a =>
    simp only [isBad]
    have hst := H.out.st
    go_wp2_with fail
    refine (refTake_any w1 rb s a 10240 sort hst.1 hst.2 H.out.sz (by decide) (by decide) h5).mono ?_
    rintro e w2 ⟨hE, hh⟩
    have hne := H.out.ne
    have hcb : CurB w2 cb rb (0, 0) := (hE.block _ (lt_of_block H.out.c) (by simpa using hne)).trans H.out.c
    have HE := Lib.hid hE
    have HCB := Lib.hid hcb
    cases hr : takeOf sort s a 10240 with
    | ok x =>
      rw [hr] at hh
      obtain ⟨rfl, hrd⟩ := hh
      have hle := takeOf_le hr
      have HR : Hid (tkS sort s (.ok a) = ((x.1, x.2.1), .ok x.2.2)) := Lib.hid (by simp only [tkS, tkR, hr])
      have HRD := Lib.hid hrd
      clear hE hcb hr hrd
      go_wp2
      go_ret2
      rw [HR.out]
      exact ⟨rfl, ⟨HCB.out, hne, H.out.sz, HRD.out, hle⟩, Chg.of_ext HE.out⟩
    | error k =>
      rw [hr] at hh
      obtain ⟨rfl, hrd⟩ := hh
      have hk := takeOf_err hr
      have hk2 : (k != 0) = true := by simpa using hk
      have HR : Hid (tkS sort s (.ok a) = ((0, ⟨#[]⟩), .error (k, a))) := Lib.hid (by simp only [tkS, tkR, hr])
      have HRD := Lib.hid hrd
      have d0 : ∀ o, w2.cell? ⟨cb, o, none⟩ = _ := block_cell hcb
      have d1 : ∀ o, w2.frozen? ⟨cb, o, none⟩ = false := block_free hcb
      have d2 : ∀ o, w2.cell? ⟨rb, o, none⟩ = _ := block_cell hrd
      have l0 : cb < w2.heap.size := lt_of_block hcb
      clear hE hcb hr hrd c0
      go_wp2
      go_ret2
      rw [HR.out]
      have hcur : CurIs w2 cb rb s (.ok a) := ⟨HCB.out, hne, H.out.sz, HRD.out, hst.2⟩
      exact ⟨rfl, hcur.set (k, a) hk, ((Chg.of_ext HE.out).set 1 _).set 2 _⟩
def pairsS (s : ByteArray) (σ : Cst) : Int × Cst := ((tkS 4 s σ).1.1, (tkS 4 s σ).2)
set_option maxRecDepth 100000 in
theorem cpairs_any (cb rb : Nat) (s : ByteArray) (σ : Cst) (w : World) (h : CurIs w cb rb s σ) :
    Calls Tryz.prog 126 #[.pointer (some ⟨cb, 0, none⟩)] w (CurR (.int .u64 (pairsS s σ).1) (pairsS s σ).2 cb rb s w) := by
  have H := Lib.hid (ctake_any cb rb s σ 4 w h (by decide))
  clear h
  go_enter Tryz.func126, Tryz.ntmps126
  go_wp2_with fail
  refine H.out.mono ?_
  rintro e w1 ⟨rfl, hc, hg⟩
  have HC := Lib.hid hc
  have HG := Lib.hid hg
  clear hc hg
  go_wp2
  go_ret
  exact ⟨rfl, HC.out, HG.out⟩
def numS (s : ByteArray) (σ : Cst) : Int × Cst := ((tkS 0 s σ).1.1, failS ((tkS 0 s σ).1.1 == 0) 5 (tkS 0 s σ).2)
set_option maxRecDepth 100000 in
theorem cnum_any (cb rb : Nat) (s : ByteArray) (σ : Cst) (w : World) (h : CurIs w cb rb s σ) :
    Calls Tryz.prog 129 #[.pointer (some ⟨cb, 0, none⟩)] w (CurR (.int .u64 (numS s σ).1) (numS s σ).2 cb rb s w) := by
  have h1 := ctake_any cb rb s σ 0 w h (by decide)
  clear h
  unfold numS
  generalize tkS 0 s σ = z at h1 ⊢
  obtain ⟨⟨n, t⟩, σ1⟩ := z
  have H := Lib.hid h1
  clear h1
  go_enter Tryz.func129, Tryz.ntmps129
  go_wp2_with fail
  refine H.out.mono ?_
  rintro e w1 ⟨rfl, hc, hg⟩
  have HG := Lib.hid hg
  have HF := Lib.hid (fail_any cb rb s σ1 (n == 0) 5 w1 hc (by decide))
  clear hc hg
  go_wp2_with fail
  refine HF.out.mono ?_
  rintro e w2 ⟨rfl, hc, hg⟩
  have HC := Lib.hid hc
  have HG2 := Lib.hid hg
  clear hc hg
  go_wp2
  go_ret
  exact ⟨rfl, HC.out, HG.out.trans HG2.out⟩
def digS (s : ByteArray) (σ : Cst) : ByteArray × Cst := ((tkS 1 s σ).1.2, failS (!decide ((tkS 1 s σ).1.2.size = 32)) 5 (tkS 1 s σ).2)
def listS (s : ByteArray) (most : Int) (σ : Cst) : Int × Cst := ((tkS 3 s σ).1.1, failS ((tkS 3 s σ).1.1 == 0) 5 (failS (decide (most < (tkS 3 s σ).1.1)) 3 (tkS 3 s σ).2))
set_option maxRecDepth 100000 in
theorem clist_any (cb rb : Nat) (s : ByteArray) (most : Int) (σ : Cst) (w : World) (h : CurIs w cb rb s σ) :
    Calls Tryz.prog 162 #[.pointer (some ⟨cb, 0, none⟩), .int .u64 most] w (CurR (.int .u64 (listS s most σ).1) (listS s most σ).2 cb rb s w) := by
  have h1 := ctake_any cb rb s σ 3 w h (by decide)
  clear h
  unfold listS
  generalize tkS 3 s σ = z at h1 ⊢
  obtain ⟨⟨n, t⟩, σ1⟩ := z
  have H := Lib.hid h1
  clear h1
  go_enter Tryz.func162, Tryz.ntmps162
  go_wp2_with fail
  refine H.out.mono ?_
  rintro e w1 ⟨rfl, hc, hg⟩
  have HG := Lib.hid hg
  have HF := Lib.hid (fail_any cb rb s σ1 (decide (most < n)) 3 w1 hc (by decide))
  clear hc hg
  go_wp2_with fail
  refine HF.out.mono ?_
  rintro e w2 ⟨rfl, hc, hg⟩
  have HG2 := Lib.hid (HG.out.trans hg)
  have HF2 := Lib.hid (fail_any cb rb s _ (n == 0) 5 w2 hc (by decide))
  clear hc hg
  go_wp2_with fail
  refine HF2.out.mono ?_
  rintro e w3 ⟨rfl, hc, hg⟩
  have HC := Lib.hid hc
  have HG3 := Lib.hid (HG2.out.trans hg)
  clear hc hg
  go_wp2
  go_ret
  exact ⟨rfl, HC.out, HG3.out⟩
theorem tkS_sz {sort : Nat} {s : ByteArray} {σ : Cst} (h5 : sort < 5) : (tkS sort s σ).1.2.size ≤ s.size := by
  cases σ with
  | error f => exact Nat.zero_le _
  | ok a =>
    cases h : tkR sort s a with
    | error f => simp only [tkS, h]; exact Nat.zero_le _
    | ok x => simp only [tkS, h]; exact (tkR_bd h5 h).2.2.2.2
set_option maxRecDepth 100000 in
theorem cdig_any (cb rb : Nat) (s : ByteArray) (σ : Cst) (w : World) (h : CurIs w cb rb s σ) :
    Calls Tryz.prog 130 #[.pointer (some ⟨cb, 0, none⟩)] w (CurR (.string (digS s σ).1) (digS s σ).2 cb rb s w) := by
  have h1 := ctake_any cb rb s σ 1 w h (by decide)
  have hsz : (tkS 1 s σ).1.2.size ≤ 9223372036854775807 := Nat.le_trans (tkS_sz (by decide)) h.sz2
  clear h
  unfold digS
  generalize tkS 1 s σ = z at h1 hsz ⊢
  obtain ⟨⟨n, t⟩, σ1⟩ := z
  have H := Lib.hid h1
  clear h1
  go_enter Tryz.func130, Tryz.ntmps130
  go_wp2_with fail
  refine H.out.mono ?_
  rintro e w1 ⟨rfl, hc, hg⟩
  have HG := Lib.hid hg
  have HC1 := Lib.hid hc
  clear hc hg
  go_wp2_with fail
  refine (rdigest_any t w1 hsz).mono ?_
  rintro e w2 ⟨rfl, hb⟩
  have HG1 := Lib.hid (HG.out.next hb)
  have HF := Lib.hid (fail_any cb rb s σ1 (!decide (t.size = 32)) 5 w2 (HC1.out.below hb) (by decide))
  clear hb
  go_wp2_with fail
  refine HF.out.mono ?_
  rintro e w3 ⟨rfl, hc, hg⟩
  have HC := Lib.hid hc
  have HG2 := Lib.hid hg
  clear hc hg
  go_wp2
  go_ret
  exact ⟨rfl, HC.out, HG1.out.trans HG2.out⟩
end Go.Proofs.YtihiaopilnjonaaGreatDoor
namespace Go.Proofs.YtihiaopilnjonaaGreatDoor
open Go.RowKit
set_option linter.unusedSimpArgs false
set_option linter.unusedVariables false
def isKey (all k : ByteArray) (n : Nat) : Bool := (List.range n).any fun i => (all.extract i (i + 1)).toList == k.toList
theorem isKey_succ (all k : ByteArray) (n : Nat) : isKey all k (n + 1) = (isKey all k n || (all.extract n (n + 1)).toList == k.toList) := by
  unfold isKey
  rw [List.range_succ, List.any_append]; simp
def leB (a b : ByteArray) : Bool := Op.bytesLess a.toList b.toList || a.toList == b.toList
def keyS (s all last : ByteArray) (σ : Cst) : ByteArray × Cst := ((tkS 2 s σ).1.2, failS (!isKey all (tkS 2 s σ).1.2 all.size || leB (tkS 2 s σ).1.2 last) 5 (tkS 2 s σ).2)
set_option maxRecDepth 100000 in
set_option maxHeartbeats 4000000 in
theorem ckey_any (cb rb : Nat) (s all last : ByteArray) (σ : Cst) (w : World) (h : CurIs w cb rb s σ) (ha : all.size ≤ 1000) :
    Calls Tryz.prog 128 #[.pointer (some ⟨cb, 0, none⟩), .string all, .string last] w (CurR (.string (keyS s all last σ).1) (keyS s all last σ).2 cb rb s w) := by
  have h1 := ctake_any cb rb s σ 2 w h (by decide)
  clear h
  unfold keyS
  generalize tkS 2 s σ = z at h1 ⊢
  obtain ⟨⟨n, k⟩, σ1⟩ := z
  have H := Lib.hid h1
  clear h1
  go_enter Tryz.func128, Tryz.ntmps128
  go_wp2_with fail
  refine H.out.mono ?_
  rintro e w1 ⟨rfl, hc, hg⟩
  have HC := Lib.hid hc
  have HG := Lib.hid hg
  clear hc hg
  go_wp2
  go_loopg [9, 10] all.size (fun gg is i wr => ∃ m : Nat, gg + m = all.size ∧ i = .int .i64 m ∧ is = .bool (isKey all k m) ∧ wr = w1)
  case atStart => exact ⟨0, by omega, rfl, rfl, rfl⟩
  case round =>
    obtain ⟨m, hm, rfl, rfl, rfl⟩ := hrel
    by_cases hlt : m < all.size
    · obtain ⟨g', rfl⟩ : ∃ g', gk = g' + 1 := ⟨gk - 1, by omega⟩
      have i1 : (m : Int) < all.size := by omega
      have i2 : IntKind.i64.wrap ((m : Int) + 1) = (m : Int) + 1 := IntWalk.i64_in _ (by omega)
      have i3 : (0 : Int) ≤ m := by omega
      have i4 : (m : Int) ≤ (m : Int) + 1 := by omega
      have i5 : (m : Int) + 1 ≤ all.size := by omega
      have i6 : ((m : Int) + 1).toNat = m + 1 := by omega
      cases hk : isKey all k m with
      | true =>
        have HK : Hid (true = isKey all k (m + 1)) := Lib.hid (by rw [isKey_succ, hk]; rfl)
        clear hk
        go_wp2
        go_roundg g'
        case rel => exact ⟨m + 1, by omega, by go_num, by rw [HK.out], rfl⟩
        case measure => omega
      | false =>
        have HK : Hid (((all.extract m (m + 1)).toList == k.toList) = isKey all k (m + 1)) := Lib.hid (by rw [isKey_succ, hk]; rfl)
        clear hk
        go_wp2
        go_roundg g'
        case rel => exact ⟨m + 1, by omega, by go_num, by rw [HK.out], rfl⟩
        case measure => omega
    · obtain rfl : m = all.size := by omega
      have i1 : ¬ ((all.size : Nat) : Int) < all.size := by omega
      cases hk : isKey all k all.size with
      | true =>
        have HF := Lib.hid (fail_any cb rb s σ1 (leB k last) 5 wr HC.out (by decide))
        have HE : Hid (failS (!isKey all k all.size || leB k last) 5 σ1 = failS (leB k last) 5 σ1) := Lib.hid (by rw [hk]; rfl)
        clear hk
        go_wp2_with fail
        refine HF.out.mono ?_
        rintro e w3 ⟨rfl, hc, hg⟩
        have HC3 := Lib.hid hc
        have HG3 := Lib.hid (HG.out.trans hg)
        clear hc hg
        go_wp2
        go_ret
        rw [HE.out]
        exact ⟨rfl, HC3.out, HG3.out⟩
      | false =>
        have HF := Lib.hid (fail_any cb rb s σ1 true 5 wr HC.out (by decide))
        have HE : Hid (failS (!isKey all k all.size || leB k last) 5 σ1 = failS true 5 σ1) := Lib.hid (by rw [hk]; rfl)
        clear hk
        go_wp2_with fail
        refine HF.out.mono ?_
        rintro e w3 ⟨rfl, hc, hg⟩
        have HC3 := Lib.hid hc
        have HG3 := Lib.hid (HG.out.trans hg)
        clear hc hg
        go_wp2
        go_ret
        rw [HE.out]
        exact ⟨rfl, HC3.out, HG3.out⟩
end Go.Proofs.YtihiaopilnjonaaGreatDoor
namespace Go.Proofs.YtihiaopilnjonaaGreatDoor
open Go.RowKit
set_option linter.unusedSimpArgs false
set_option linter.unusedVariables false
def digL (s : ByteArray) : Nat → Cst → List ByteArray → List ByteArray × Cst
  | 0, σ, l => (l, σ)
  | n + 1, .error f, l => (l, .error f)
  | n + 1, .ok a, l => digL s n (digS s (.ok a)).2 (l ++ [(digS s (.ok a)).1])
theorem digL_bad (s : ByteArray) (f : Flt) : ∀ (n : Nat) (l : List ByteArray), digL s n (.error f) l = (l, .error f)
  | 0, l => rfl
  | n + 1, l => rfl
def digsS (s : ByteArray) (most : Int) (σ : Cst) : List ByteArray × Cst := digL s (listS s most σ).1.toNat (listS s most σ).2 []
def DgR (l : List ByteArray) (σ : Cst) (cb rb : Nat) (s : ByteArray) (w : World) (e : Ending) (w' : World) : Prop :=
  ∃ v, e = .returned v ∧ (∀ r t, r < w.heap.size → t < w.heap.size → HoldsD r t w' v (.strs l)) ∧ CurIs w' cb rb s σ ∧ Chg rb cb w w'
theorem listS_bd {s : ByteArray} {most : Int} {σ : Cst} : 0 ≤ (listS s most σ).1 ∧ (listS s most σ).1 ≤ 10240 := by
  unfold listS
  cases σ with
  | error f => exact ⟨Int.le_refl 0, show (0 : Int) ≤ 10240 by decide⟩
  | ok a =>
    cases h : tkR 3 s a with
    | error f => simp only [tkS, h]; exact ⟨by decide, by decide⟩
    | ok x => simp only [tkS, h]; have := tkR_bd (by decide) h; exact ⟨this.2.1, this.2.2.1 (by decide)⟩
set_option maxRecDepth 100000 in
set_option maxHeartbeats 4000000 in
theorem cdigs_any (cb rb : Nat) (s : ByteArray) (most : Int) (σ : Cst) (w : World) (h : CurIs w cb rb s σ) :
    Calls Tryz.prog 161 #[.pointer (some ⟨cb, 0, none⟩), .int .u64 most] w (DgR (digsS s most σ).1 (digsS s most σ).2 cb rb s w) := by
  have h1 := clist_any cb rb s most σ w h
  have hbd := listS_bd (s := s) (most := most) (σ := σ)
  have hcs : cb < w.heap.size := lt_of_block h.c
  have hrs : rb < w.heap.size := by obtain ⟨a, h2, -⟩ := h.rd; exact lt_of_block h2
  unfold digsS
  generalize listS s most σ = z at h1 hbd ⊢
  obtain ⟨k0, σ1⟩ := z
  obtain ⟨k, rfl⟩ : ∃ k : Nat, k0 = k := ⟨k0.toNat, by have := hbd.1; simp only at this ⊢; omega⟩
  have hk : k ≤ 10240 := by have := hbd.2; simp only at this; omega
  have H := Lib.hid h1
  obtain ⟨i0, hi, hz0, hz1, hz2⟩ := info_parts info_str
  clear h1 h hbd
  go_enter Tryz.func161, Tryz.ntmps161
  go_wp2_with fail
  refine H.out.mono ?_
  rintro e w1 ⟨rfl, hc, hg⟩
  have HC1 := Lib.hid hc
  have HG1 := Lib.hid hg
  clear hc hg
  go_wp2
  go_loopg [6, 7] k (fun gg lv i wr => ∃ (m : Nat) (τ : Cst) (acc : List ByteArray), gg + m = k ∧ i = .int .u64 m ∧ Hid (digL s k σ1 [] = digL s gg τ acc) ∧ Hid (len acc = m) ∧ Hid (CurIs wr cb rb s τ) ∧ Hid (Chg rb cb w wr) ∧ Hid (wr.ownsRow w.heap.size 9 1 lv m (acc.map Value.string)) ∧ Hid (m = 0 → lv = .slice none 0 0))
  case atStart => exact ⟨0, σ1, [], rfl, rfl, rfl, rfl, HC1.out, HG1.out, World.ownsRow_nil _ _ _ _, fun _ => rfl⟩
  case round =>
    clear HC1 HG1
    obtain ⟨m, τ, acc, hm, rfl, HD, HL, HC, HG, HO, H0⟩ := hrel
    by_cases hlt : m < k
    · obtain ⟨g', rfl⟩ : ∃ g', gk = g' + 1 := ⟨gk - 1, by omega⟩
      have i1 : (m : Int) < k := by omega
      have HB := Lib.hid (bad_any cb rb s τ _ HC.out)
      go_wp2_with fail
      refine HB.out.mono ?_
      rintro e w3 ⟨rfl, rfl⟩
      cases τ with
      | error f =>
        simp only [isBad]
        have HE : Hid (digL s k σ1 [] = (acc, .error f)) := Lib.hid (by rw [HD.out, digL_bad])
        clear HB HD
        go_wp2
        go_ret
        rw [Int.toNat_natCast, HE.out]
        exact ⟨_, rfl, fun r t hr ht => own_tx HO.out hr ht H0.out, HC.out, HG.out⟩
      | ok a =>
        simp only [isBad]
        have HDD := Lib.hid (cdig_any cb rb s (.ok a) w3 HC.out)
        have HE : Hid (digL s k σ1 [] = digL s g' (digS s (.ok a)).2 (acc ++ [(digS s (.ok a)).1])) := Lib.hid HD.out
        clear HB HD
        go_wp2_with fail
        refine HDD.out.mono ?_
        rintro e w4 ⟨rfl, hc, hg⟩
        have HC4 := Lib.hid hc
        have HG4 := Lib.hid (HG.out.trans hg)
        have HO4 := Lib.hid (own_chgT HO.out hg hrs hcs)
        have hws : w.heap.size ≤ w4.heap.size := HG4.out.size
        clear hc hg HDD
        generalize digS s (.ok a) = z at HE HC4
        obtain ⟨d, τ⟩ := z
        go_wp2_with (at_builtin; refine wpList_append_own _ rfl _ _ 26 rfl w.heap.size 9 i0 (.string ⟨#[]⟩) 1 16 Tryz.underlying26 hi hz0 hz1 hz2 rfl (by decide) _ _ _ rfl (HO4.out.alloc _) ⟨w4.heap.size, 0, none⟩ 1 1 [.string d] rfl rfl ?c1 ?c2 ?c3 ?c4 ?c5 ?_)
        case c1 => exact World.news_of_block (heap_alloc_new _ _)
        case c2 => intro u hu; simp at hu; subst hu; rfl
        case c3 => unfold maxLen; omega
        case c4 => omega
        case c5 => simp; omega
        intro v' w5 hown' hgrow hnil
        have hB5 : Below w.heap.size w4 w5 := by
          have h9 := HO4.out.lt
          refine ⟨hgrow.os, hgrow.tape, hgrow.output, by have := hgrow.size; simp at this; omega, fun i hi => ?_⟩
          rw [hgrow.block i (by simp; omega) (fun e => by have := (h9 i e.symm).1; omega)]
          exact Below.heap_alloc _ _ _ (by omega)
        have HO5 : Hid (w5.ownsRow w.heap.size 9 1 v' (m + 1) ((acc ++ [d]).map Value.string)) := Lib.hid (by rw [List.map_append]; exact hown')
        have HC5 : Hid (CurIs w5 cb rb s τ) := Lib.hid (by
          have h7 := HC4.out
          have e1 : ∀ i, i < w.heap.size → w5.heap[i]? = w4.heap[i]? := fun i hi => hB5.block i hi
          refine ⟨(e1 cb hcs).trans h7.c, h7.ne, h7.sz, ?_⟩
          have hst := h7.st
          cases τ with
          | ok a => exact ⟨(e1 rb hrs).trans hst.1, hst.2⟩
          | error f => obtain ⟨h1, a, h2, h3⟩ := hst; exact ⟨h1, a, (e1 rb hrs).trans h2, h3⟩)
        have HG5 : Hid (Chg rb cb w w5) := Lib.hid ⟨hB5.os.trans HG4.out.os, hB5.tape.trans HG4.out.tape, hB5.output.trans HG4.out.output, Nat.le_trans HG4.out.size hB5.size, fun i hi h1 h2 => (hB5.block i hi).trans (HG4.out.block i hi h1 h2)⟩
        clear hown' hgrow hB5
        go_wp2
        go_roundg g'
        case rel => exact ⟨m + 1, τ, acc ++ [d], by omega, by go_num, HE.out, Lib.hid (by have := HL.out; simp only [len, List.length_append, List.length_singleton] at this ⊢; omega), HC5.out, HG5.out, HO5.out, fun h0 => by omega⟩
        case measure => omega
    · obtain rfl : m = k := by omega
      have i1 : ¬ ((m : Nat) : Int) < m := by omega
      obtain rfl : gk = 0 := by omega
      have HE : Hid (digL s m σ1 [] = (acc, τ)) := Lib.hid HD.out
      go_wp2
      go_ret
      rw [HE.out]
      exact ⟨_, rfl, fun r t hr ht => own_tx HO.out hr ht H0.out, HC.out, HG.out⟩
end Go.Proofs.YtihiaopilnjonaaGreatDoor
namespace Go.Proofs.YtihiaopilnjonaaGreatDoor
open Go.RowKit
set_option linter.unusedSimpArgs false
set_option linter.unusedVariables false
abbrev RStep := Rcd → Cst → Rcd × Cst
def sw : List (UInt8 × RStep) → ByteArray → RStep
  | [], _, x, σ => (x, σ)
  | p :: r, k, x, σ => if k.toList == [p.1] then p.2 x σ else sw r k x σ
def rLoop (s all : ByteArray) (specs : List (UInt8 × RStep)) : Nat → ByteArray → Rcd → Cst → Rcd × Cst
  | 0, _, x, σ => (x, σ)
  | n + 1, last, x, .error f => (x, .error f)
  | n + 1, last, x, .ok a => rLoop s all specs n (keyS s all last (.ok a)).1 (sw specs (keyS s all last (.ok a)).1 x (keyS s all last (.ok a)).2).1 (sw specs (keyS s all last (.ok a)).1 x (keyS s all last (.ok a)).2).2
theorem rLoop_bad (s all : ByteArray) (specs : List (UInt8 × RStep)) (x : Rcd) (f : Flt) : ∀ (n : Nat) (last : ByteArray), rLoop s all specs n last x (.error f) = (x, .error f)
  | 0, _ => rfl
  | n + 1, _ => rfl
def objS (s all : ByteArray) (specs : List (UInt8 × RStep)) (x0 : Rcd) (σ : Cst) : Rcd × Cst := rLoop s all specs (pairsS s σ).1.toNat ⟨#[]⟩ x0 (pairsS s σ).2
theorem pairsS_bd {s : ByteArray} {σ : Cst} : 0 ≤ (pairsS s σ).1 ∧ (pairsS s σ).1 ≤ 10240 := by
  unfold pairsS
  cases σ with
  | error f => exact ⟨Int.le_refl 0, show (0 : Int) ≤ 10240 by decide⟩
  | ok a =>
    cases h : tkR 4 s a with
    | error f => simp only [tkS, h]; exact ⟨by decide, by decide⟩
    | ok x => simp only [tkS, h]; have := tkR_bd (by decide) h; exact ⟨this.2.1, this.2.2.1 (by decide)⟩
theorem HoldsD.keep2 {rb tb : Nat} {w w' : World} {v : Value} {d : DV} (h : HoldsD rb tb w v d) (hu : ∀ b, rb < b → tb < b → b < w.heap.size → w'.heap[b]? = w.heap[b]?) : HoldsD rb tb w' v d := by
  have kt : ∀ {a : Option Addr} {l : List ByteArray}, Tx w a l → Off rb tb a → Tx w' a l := fun h ho => h.keep fun b off cs e h2 => hu b (ho b off e).1 (ho b off e).2 (lt_of_block h2)
  cases d with
  | num n => exact h
  | flag q => exact h
  | str s => exact h
  | strs l => obtain ⟨a, c, h1, h2, h3, h4⟩ := h; exact ⟨a, c, h1, h2, h3, kt h4 h3⟩
  | nums l => obtain ⟨a, c, h1, h2, h3, h4⟩ := h; exact ⟨a, c, h1, h2, h3, h4.keep fun b off cs e h5 => hu b (h3 b off e).1 (h3 b off e).2 (lt_of_block h5)⟩
  | revs l =>
    obtain ⟨a, c, h1, h2, h3, rs, h4, h5, h6⟩ := h
    refine ⟨a, c, h1, h2, h3, rs, h4, fun i hi => ?_, fun i hi => ?_⟩
    · obtain ⟨b, off, rfl, hc⟩ := h5 i hi
      have e : ∀ q, w'.cell? ⟨b, q, none⟩ = w.cell? ⟨b, q, none⟩ := fun q => World.cell?_of_block (w := w) (hu b (h3 b off rfl).1 (h3 b off rfl).2 (lt_of_cell hc.c0))
      obtain ⟨c0, c1, c2, c3, c4, c5, c6, c7, c8, c9, c10⟩ := hc
      exact ⟨b, off, rfl, by constructor <;> (rw [e]; assumption)⟩
    · have h := h6 i hi
      exact ⟨h.pos, h.L, h.signed, h.idx, h.wn, kt h.ws h.wo, h.wo, h.pn, kt h.ps h.po, h.po, h.root, h.wt, h.first, h.life, h.keys⟩
theorem RecAt.cur {rb cb tb : Nat} {T : TypeId} {n : Nat} {w w' : World} {x : Rcd} (h : RecAt rb tb T n w x) (hc : Chg rb cb w w') (h1 : cb < tb) (h2 : rb < tb) : RecAt rb tb T n w' x := by
  obtain ⟨cs, h3, h4, h5⟩ := h
  refine ⟨cs, (hc.block tb (lt_of_block h3) (by omega) (by omega)).trans h3, h4, fun i hi => ?_⟩
  obtain ⟨v, h6, h7⟩ := h5 i hi
  exact ⟨v, h6, h7.keep2 (fun b hb1 hb2 hb3 => hc.block b hb3 (by omega) (by omega))⟩
theorem CurIs.keep {w w' : World} {cb rb : Nat} {s : ByteArray} {σ : Cst} (h : CurIs w cb rb s σ) (h1 : w'.heap[cb]? = w.heap[cb]?) (h2 : w'.heap[rb]? = w.heap[rb]?) : CurIs w' cb rb s σ := by
  refine ⟨h1.trans h.c, h.ne, h.sz, ?_⟩
  have hst := h.st
  cases σ with
  | ok a => exact ⟨h2.trans hst.1, hst.2⟩
  | error f => obtain ⟨h3, a, h4, h5⟩ := hst; exact ⟨h3, a, h2.trans h4, h5⟩
theorem CurIs.setOff {w : World} {cb rb b o : Nat} {s : ByteArray} {σ : Cst} (h : CurIs w cb rb s σ) (h1 : cb < b) (h2 : rb < b) (v : Value) : CurIs (w.setCell ⟨b, o, none⟩ v) cb rb s σ :=
  h.keep (Below.heap_setCell _ _ _ _ (show cb ≠ b by omega)) (Below.heap_setCell _ _ _ _ (show rb ≠ b by omega))
theorem CurIs.clt {w : World} {cb rb : Nat} {s : ByteArray} {σ : Cst} (h : CurIs w cb rb s σ) : cb < w.heap.size := lt_of_block h.c
theorem CurIs.rlt {w : World} {cb rb : Nat} {s : ByteArray} {σ : Cst} (h : CurIs w cb rb s σ) : rb < w.heap.size := by obtain ⟨a, h2, -⟩ := h.rd; exact lt_of_block h2
end Go.Proofs.YtihiaopilnjonaaGreatDoor
namespace Go.Proofs.YtihiaopilnjonaaGreatDoor
open Go.RowKit
set_option linter.unusedSimpArgs false
set_option linter.unusedVariables false
structure StepOk (x0 : Rcd) (g : GSpec) (f : RStep) : Prop where
  good : ∀ x a, fresh x0 g x → match g.read x a with
    | .error e => (f x (.ok a)).2 = .error e
    | .ok y => if g.empty y.1 = true then (f x (.ok a)).2 = .error (5, 0) else f x (.ok a) = (y.1, .ok y.2)
  bad : ∀ x e, (f x (.error e)).2 = .error e
theorem num_step {x0 : Rcd} (s key : ByteArray) (o : Nat) : StepOk x0 (gnum s key o) (fun x σ => (upd x o (.num (numS s σ).1), (numS s σ).2)) := by
  refine ⟨fun x a hf => ?_, fun x e => rfl⟩
  cases h : tkR 0 s a with
  | error e =>
    have h1 : (gnum s key o).read x a = .error e := by simp only [gnum, rnum, h]
    rw [h1]
    simp only [numS, tkS, h, failS]
  | ok y =>
    have h1 : (gnum s key o).read x a = .ok (upd x o (.num y.1), y.2.2) := by simp only [gnum, rnum, h]
    rw [h1]
    simp only [gnum, upd_at, zeroD, numS, tkS, h, failS]
    by_cases hz : (y.1 == 0) = true
    · rw [if_pos hz, if_pos hz]
    · rw [if_neg hz, if_neg hz]
def rth (l : List (UInt8 × RStep)) (i : Nat) : UInt8 × RStep := l.getD i (0, fun x σ => (x, σ))
theorem rth_eq (l : List (UInt8 × RStep)) (i : Nat) (h : i < l.length) : rth l i = l[i] := by unfold rth; rw [List.getD_eq_getElem?_getD, List.getElem?_eq_getElem h]; rfl
structure SpecsOk (x0 : Rcd) (all : ByteArray) (specs : List (UInt8 × RStep)) (gs : List GSpec) : Prop where
  len : specs.length = gs.length
  keys : ∀ i, i < gs.length → (gth gs i).key.toList = [(rth specs i).1]
  all : ∀ k : ByteArray, isKey all k all.size = true ↔ ∃ i, i < gs.length ∧ k.toList = [(rth specs i).1]
  rise : ∀ i j, i < j → j < gs.length → (rth specs i).1 < (rth specs j).1
  steps : ∀ i, i < gs.length → StepOk x0 (gth gs i) (rth specs i).2
theorem sw_none : ∀ {l : List (UInt8 × RStep)} {k : ByteArray} {x : Rcd} {σ : Cst}, (∀ i, i < l.length → k.toList ≠ [(rth l i).1]) → sw l k x σ = (x, σ)
  | [], k, x, σ, h => rfl
  | p :: r, k, x, σ, h => by
    have h0 := h 0 (by simp)
    have h1 : (k.toList == [p.1]) = false := by simpa [rth] using h0
    rw [sw, h1]
    exact sw_none fun i hi => h (i + 1) (by simpa using hi)
theorem sw_some : ∀ {l : List (UInt8 × RStep)} {k : ByteArray} {x : Rcd} {σ : Cst} {i : Nat}, i < l.length → k.toList = [(rth l i).1] → (∀ j, j < i → (rth l j).1 ≠ (rth l i).1) → sw l k x σ = (rth l i).2 x σ
  | p :: r, k, x, σ, 0, hi, hk, hn => by
    have h1 : (k.toList == [p.1]) = true := by simpa [rth] using hk
    rw [sw, h1]; rfl
  | p :: r, k, x, σ, i + 1, hi, hk, hn => by
    have h0 := hn 0 (by omega)
    have h1 : (k.toList == [p.1]) = false := by
      rw [hk]
      have : (rth (p :: r) (i + 1)).1 ≠ p.1 := fun e => h0 e.symm
      simpa using this
    rw [sw, h1]
    exact sw_some (i := i) (by simpa using hi) hk (fun j hj => hn (j + 1) (by omega))
def LastIs (specs : List (UInt8 × RStep)) (fr : Nat) (last : ByteArray) : Prop := last.toList = if fr = 0 then [] else [(rth specs (fr - 1)).1]
theorem keyS_err {s all last : ByteArray} {a : Nat} {e : Flt} (h : tkR 2 s a = .error e) : (keyS s all last (.ok a)).1 = ⟨#[]⟩ ∧ (keyS s all last (.ok a)).2 = .error e := by
  unfold keyS
  simp only [tkS, h]
  first | exact ⟨rfl, rfl⟩ | exact ⟨trivial, rfl⟩ | rfl
theorem keyS_ok {s all last : ByteArray} {a : Nat} {z : Int × ByteArray × Nat} (h : tkR 2 s a = .ok z) : (keyS s all last (.ok a)).1 = z.2.1 ∧ (keyS s all last (.ok a)).2 = if (!isKey all z.2.1 all.size || leB z.2.1 last) = true then .error (5, 0) else .ok z.2.2 := by
  unfold keyS
  simp only [tkS, h]
  first | exact ⟨rfl, rfl⟩ | exact ⟨trivial, rfl⟩ | rfl
theorem bl_one (a b : UInt8) : Op.bytesLess [a] [b] = decide (a < b) := by simp [Op.bytesLess]
theorem leB_one {k last : ByteArray} {a b : UInt8} (h1 : k.toList = [a]) (h2 : last.toList = [b]) : leB k last = decide (a ≤ b) := by
  unfold leB
  rw [h1, h2, bl_one]
  by_cases h : a < b
  · simp [h, UInt8.le_of_lt h]
  · by_cases e : a = b
    · subst e; simp
    · have : ¬ a ≤ b := fun h' => by rcases UInt8.lt_or_eq_of_le h' with h'' | h'' <;> contradiction
      simp [h, e, this]
theorem leB_nil {k last : ByteArray} {a : UInt8} (h1 : k.toList = [a]) (h2 : last.toList = []) : leB k last = false := by
  unfold leB; rw [h1, h2]; rfl
section
variable {x0 : Rcd} {s all : ByteArray} {specs : List (UInt8 × RStep)} {gs : List GSpec}
theorem SpecsOk.inj (h : SpecsOk x0 all specs gs) {i j : Nat} (hi : i < gs.length) (hj : j < gs.length) (e : (rth specs i).1 = (rth specs j).1) : i = j := by
  rcases Nat.lt_trichotomy i j with h1 | h1 | h1
  · have := h.rise i j h1 hj; rw [e] at this; exact absurd this (UInt8.lt_irrefl _)
  · exact h1
  · have := h.rise j i h1 hi; rw [e] at this; exact absurd this (UInt8.lt_irrefl _)
theorem keyIdx_at (h : SpecsOk x0 all specs gs) (hk : KeysOk gs) {fr i : Nat} {k : ByteArray} (hi : i < gs.length) (hfr : fr ≤ i) (e : k.toList = [(rth specs i).1]) : keyIdx gs fr k = some (i - fr) := by
  have hi' : fr + (i - fr) = i := by omega
  refine keyIdx_some (by omega) (by rw [hi', h.keys i hi, e]; simp) fun j hj => ?_
  rw [h.keys (fr + j) (by omega), e]
  have : (rth specs (fr + j)).1 ≠ (rth specs i).1 := fun e2 => by have := h.inj (by omega) hi e2; omega
  simpa using this
theorem keyIdx_not (h : SpecsOk x0 all specs gs) {fr : Nat} {k : ByteArray} (hn : ∀ i, fr ≤ i → i < gs.length → k.toList ≠ [(rth specs i).1]) : keyIdx gs fr k = none :=
  keyIdx_none fun i hi => by
    rw [h.keys (fr + i) (by omega)]
    have := hn (fr + i) (by omega) (by omega)
    simpa using fun e => this e.symm
theorem loop_same (h : SpecsOk x0 all specs gs) (hk : KeysOk gs) (hd : Disj gs) (hf : ∀ g ∈ gs, g.Frames) : ∀ (n fr : Nat) (last : ByteArray) (x : Rcd) (seen : List Nat) (a : Nat), fr ≤ gs.length → LastIs specs fr last → (∀ i, fr ≤ i → i < gs.length → fresh x0 (gth gs i) x) →
    match objLoop s gs n fr x seen a with
    | .error e => (rLoop s all specs n last x (.ok a)).2 = .error e
    | .ok y => rLoop s all specs n last x (.ok a) = (y.1, .ok y.2.2)
  | 0, fr, last, x, seen, a, hfr, hl, hfs => rfl
  | n + 1, fr, last, x, seen, a, hfr, hl, hfs => by
    have hlen := h.len
    rw [rLoop]
    cases hz : tkR 2 s a with
    | error e =>
      obtain ⟨e1, e2⟩ := keyS_err (all := all) (last := last) hz
      have e3 : objLoop s gs (n + 1) fr x seen a = .error e := by rw [objLoop, hz]
      have e4 : ∀ σ, sw specs (⟨#[]⟩ : ByteArray) x σ = (x, σ) := fun σ => sw_none fun i hi hh => by simp [ByteArray.toList_eq] at hh
      rw [e3, e1, e2, e4]
      show (rLoop s all specs n ⟨#[]⟩ x (.error e)).2 = .error e
      rw [rLoop_bad]
    | ok z =>
      obtain ⟨e1, e2⟩ := keyS_ok (all := all) (last := last) hz
      rw [e1, e2]
      by_cases hex : ∃ i, i < gs.length ∧ z.2.1.toList = [(rth specs i).1]
      · obtain ⟨i, hi, hki⟩ := hex
        have hia : isKey all z.2.1 all.size = true := (h.all z.2.1).2 ⟨i, hi, hki⟩
        have hsw : ∀ σ, sw specs z.2.1 x σ = (rth specs i).2 x σ := fun σ => sw_some (by omega) hki (fun j hj e => by have := h.inj (by omega) hi e; omega)
        have hst := h.steps i hi
        by_cases hle : fr ≤ i
        · have hlb : leB z.2.1 last = false := by
            unfold LastIs at hl
            by_cases h0 : fr = 0
            · rw [if_pos h0] at hl; exact leB_nil hki hl
            · rw [if_neg h0] at hl
              rw [leB_one hki hl]
              have := h.rise (fr - 1) i (by omega) hi
              rw [decide_eq_false_iff_not]
              exact fun h' => absurd (UInt8.lt_of_lt_of_le this h') (UInt8.lt_irrefl _)
          have hki2 := keyIdx_at h hk hi hle hki
          have hfi : fr + (i - fr) = i := by omega
          rw [hia, hlb]
          simp only [Bool.not_true, Bool.or_self, Bool.false_eq_true, if_false]
          rw [hsw]
          have hg := hst.good x z.2.2 (hfs i hle hi)
          cases hr : (gth gs i).read x z.2.2 with
          | error e =>
            rw [hr] at hg
            have e3 : objLoop s gs (n + 1) fr x seen a = .error e := objLoop_err hz hki2 (by rw [hfi]; exact hr)
            rw [e3]
            show (rLoop s all specs n z.2.1 ((rth specs i).2 x (.ok z.2.2)).1 ((rth specs i).2 x (.ok z.2.2)).2).2 = .error e
            have hg' : ((rth specs i).2 x (.ok z.2.2)).2 = .error e := hg
            rw [hg', rLoop_bad]
          | ok y =>
            rw [hr] at hg
            by_cases hem : (gth gs i).empty y.1 = true
            · have e3 : objLoop s gs (n + 1) fr x seen a = .error (5, 0) := objLoop_empty hz hki2 (by rw [hfi]; exact hr) (by rw [hfi]; exact hem)
              rw [e3]
              have hg' : ((rth specs i).2 x (.ok z.2.2)).2 = .error (5, 0) := by simpa [hem] using hg
              show (rLoop s all specs n z.2.1 ((rth specs i).2 x (.ok z.2.2)).1 ((rth specs i).2 x (.ok z.2.2)).2).2 = .error (5, 0)
              rw [hg', rLoop_bad]
            · have hem' : (gth gs i).empty y.1 = false := by simpa using hem
              have hg' : (rth specs i).2 x (.ok z.2.2) = (y.1, .ok y.2) := by simpa [hem'] using hg
              have e3 : objLoop s gs (n + 1) fr x seen a = objLoop s gs n (i + 1) y.1 (i :: seen) y.2 := by
                have := objLoop_next (seen := seen) (g := n) hz hki2 (by rw [hfi]; exact hr) (by rw [hfi]; exact hem')
                rw [hfi] at this; exact this
              rw [e3, hg']
              refine loop_same h hk hd hf n (i + 1) z.2.1 y.1 (i :: seen) y.2 (by omega) ?_ fun j hj1 hj2 o ho => ?_
              · unfold LastIs; rw [if_neg (by omega), hki]; rfl
              · have hfr2 := hf (gth gs i) (by rw [gth_eq gs i hi]; exact List.getElem_mem _) x z.2.2 y hr o (fun hin => hd j i hj2 hi (by omega) o ho hin)
                rw [hfr2]
                exact hfs j (by omega) hj2 o ho
        · have hlb : leB z.2.1 last = true := by
            unfold LastIs at hl
            rw [if_neg (by omega)] at hl
            rw [leB_one hki hl, decide_eq_true_iff]
            by_cases e : i = fr - 1
            · rw [← e]; exact UInt8.le_refl _
            · exact UInt8.le_of_lt (h.rise i (fr - 1) (by omega) (by omega))
          have hki2 : keyIdx gs fr z.2.1 = none := keyIdx_not h fun j hj1 hj2 e => by
            rw [hki] at e
            have := h.inj hi hj2 (by simpa using e)
            omega
          have e3 : objLoop s gs (n + 1) fr x seen a = .error (5, 0) := objLoop_no hz hki2
          rw [e3, hlb]
          simp only [Bool.or_true, if_true]
          rw [hsw]
          show (rLoop s all specs n z.2.1 ((rth specs i).2 x (.error (5, 0))).1 ((rth specs i).2 x (.error (5, 0))).2).2 = .error (5, 0)
          rw [hst.bad, rLoop_bad]
      · have hia : isKey all z.2.1 all.size = false := by
          cases hh : isKey all z.2.1 all.size with
          | false => rfl
          | true => exact absurd ((h.all z.2.1).1 hh) hex
        have hsw : ∀ σ, sw specs z.2.1 x σ = (x, σ) := fun σ => sw_none fun i hi e => hex ⟨i, by omega, e⟩
        have hki2 : keyIdx gs fr z.2.1 = none := keyIdx_not h fun j hj1 hj2 e => hex ⟨j, hj2, e⟩
        have e3 : objLoop s gs (n + 1) fr x seen a = .error (5, 0) := objLoop_no hz hki2
        rw [e3, hia]
        simp only [Bool.not_false, Bool.true_or, if_true]
        rw [hsw]
        show (rLoop s all specs n z.2.1 x (.error (5, 0))).2 = .error (5, 0)
        rw [rLoop_bad]
end
end Go.Proofs.YtihiaopilnjonaaGreatDoor
namespace Go.Proofs.YtihiaopilnjonaaGreatDoor
open Go.RowKit
set_option linter.unusedSimpArgs false
set_option linter.unusedVariables false
def numStep (s : ByteArray) (o : Nat) : RStep := fun x σ => (upd x o (.num (numS s σ).1), (numS s σ).2)
end Go.Proofs.YtihiaopilnjonaaGreatDoor
namespace Go.Proofs.YtihiaopilnjonaaGreatDoor
open Go.RowKit
set_option linter.unusedSimpArgs false
set_option linter.unusedVariables false
theorem begin_any (s : ByteArray) (w : World) (hs : s.size ≤ 140737488355328) : Calls Tryz.prog 68 #[.string s] w fun e w' => ∃ cb rb, e = .returned (.pointer (some ⟨cb, 0, none⟩)) ∧ CurIs w' cb rb s (.ok 0) ∧ w.heap.size ≤ rb ∧ w.heap.size ≤ cb ∧ Below w.heap.size w w' := by
  go_enter Tryz.func68, Tryz.ntmps68
  go_wp2_with fail
  refine (refNew_any w s 10240).mono ?_
  rintro e w1 ⟨rfl, hw1⟩
  have hm : max (10240 : Int) 0 = 10240 := by decide
  rw [hm] at hw1
  have R1 : Hid (RefB w1 w.heap.size s 0 10240) := Lib.hid (by rw [hw1]; exact heap_alloc_new _ _)
  have B1 : Hid (Below w.heap.size w w1) := Lib.hid (by rw [hw1]; exact balloc (Below.refl _ _) _)
  have hs1 : w1.heap.size = w.heap.size + 1 := by rw [hw1]; simp
  clear hw1
  go_wp2
  go_ret
  exact ⟨w.heap.size + 1, w.heap.size, rfl, ⟨alloc_new_at _ hs1, by omega, hs, block_alloc R1.out _, Nat.zero_le _⟩, Nat.le_refl _, by omega, balloc B1.out _⟩
def endS (s : ByteArray) : Cst → Cst
  | .ok a => if a < s.size then .error (5, a) else .ok a
  | .error f => .error f
set_option maxRecDepth 100000 in
set_option maxHeartbeats 4000000 in
theorem cend_any (cb rb : Nat) (s : ByteArray) (σ : Cst) (w : World) (h : CurIs w cb rb s σ) :
    Calls Tryz.prog 70 #[.pointer (some ⟨cb, 0, none⟩)] w fun e w' => e = .returned (.agg #[.int .i64 (endS s σ).flt.1, .int .i64 (endS s σ).flt.2]) ∧ CurIs w' cb rb s (endS s σ) ∧ Chg rb cb w w' := by
  have H := Lib.hid h
  have HB := Lib.hid (fun (w' : World) (hb : Below w.heap.size w w') => bad_any cb rb s σ w' (h.below hb))
  have hcs := h.clt
  have hrs := h.rlt
  clear h
  cases σ with
  | error f =>
    simp only [isBad] at HB
    go_enter Tryz.func70, Tryz.ntmps70
    go_upto_region 1 with fail
    obtain ⟨W, hW⟩ : ∃ W, w.alloc (.cells #[.int .i64 0, .int .i64 0] 63) = W := ⟨_, rfl⟩
    have WB : Hid (Below w.heap.size w W) := Lib.hid (by rw [← hW]; exact balloc (Below.refl _ _) _)
    have W0 : Hid (W.heap[w.heap.size]? = some (.cells #[.int .i64 0, .int .i64 0] 63 (0, 0))) := Lib.hid (by rw [← hW]; exact heap_alloc_new _ _)
    have HB : Hid (∀ w', Below W.heap.size W w' → Calls Tryz.prog 127 #[.pointer (some ⟨cb, 0, none⟩)] w' fun e w'' => e = .returned (.bool true) ∧ w'' = w') := Lib.hid (fun w' hb => HB.out w' (bnext WB.out hb))
    rw [hW]
    clear hW
    refine wp_region_all 1000 (none) (phis [fun u _ => u = (.pointer (some ⟨cb, 0, none⟩)), fun u _ => u = (.bool true), fun u _ => u = (.bool false), fun u _ => u = (.bool false), fun u _ => u = undef, fun u _ => u = undef, fun u _ => u = undef, fun u _ => u = undef, fun u _ => u = undef, fun u _ => u = undef, fun u _ => u = undef, fun u _ => u = undef, fun u _ => u = undef, fun u _ => u = undef, fun u _ => u = undef, fun u _ => u = undef, fun u _ => u = undef, fun u _ => u = undef, fun u _ => u = undef, fun u _ => u = undef, fun u _ => u = (.bool false)]) rfl (by kernel_rfl) (mono_of ⟨mono_eq, mono_eq, mono_eq, mono_eq, mono_eq, mono_eq, mono_eq, mono_eq, mono_eq, mono_eq, mono_eq, mono_eq, mono_eq, mono_eq, mono_eq, mono_eq, mono_eq, mono_eq, mono_eq, mono_eq, mono_eq, trivial⟩) (steps_of 21 ⟨?s0, ?s1, ?s2, ?s3, ?s4, ?s5, ?s6, ?s7, ?s8, ?s9, ?s10, ?s11, ?s12, ?s13, ?s14, ?s15, ?s16, ?s17, ?s18, ?s19, ?s20, trivial⟩) ?_
    case s0 =>
      refine step_val (v := (.pointer (some ⟨cb, 0, none⟩))) (fun av wv hE hS hO hD => ?_) (fun _ => rfl)
      have h0 : av.eval (.tmp 0) = (.pointer (some ⟨cb, 0, none⟩)) := hO.2.2 0 rfl
      have f0 := (ev_form av 0).symm.trans h0
      refine ⟨rfl, ?_⟩
      simp [go_sem, f0]
    case s1 =>
      refine step_wp (fun av wv hE hS hO hD => ?_)
      have d3 : av.eval (.tmp 3) = (.pointer (some ⟨cb, 0, none⟩)) := hD.1 rfl _ rfl
      have f3 := (ev_form av 3).symm.trans d3
      refine ⟨rfl, ?_⟩
      refine wp_of_call (v := .bool true) (by simp [go_sem, f3]) ((HB.out wv (of_drew hE)).mono (fun e w2 ⟨h1, h2⟩ => ⟨h1, by rw [h2]; exact Below.refl _ _⟩)) (fun w2 hb => ⟨_, rfl, es_of_ext hb, rfl⟩)
    case s2 =>
      refine step_val (v := (.bool false)) (fun av wv hE hS hO hD => ?_) (fun _ => rfl)
      have d4 : av.eval (.tmp 4) = (.bool true) := hD.1 rfl _ rfl
      have f4 := (ev_form av 4).symm.trans d4
      refine ⟨rfl, ?_⟩
      simp [go_sem, f4]
    case s3 =>
      refine step_val (v := (.bool false)) (fun av wv hE hS hO hD => ?_) (fun _ => rfl)
      have d5 : av.eval (.tmp 5) = (.bool false) := hD.1 rfl _ rfl
      have f5 := (ev_form av 5).symm.trans d5
      refine ⟨rfl, ?_⟩
      simp [go_sem, f5]
    case s4 =>
      refine step_skip (fun av wv hE hS hO hD => ?_) (fun _ => rfl)
      have h0 : av.eval (.tmp 0) = (.pointer (some ⟨cb, 0, none⟩)) := hO.2.2 0 rfl
      have f0 := (ev_form av 0).symm.trans h0
      have d6 : av.eval (.tmp 6) = (.bool false) := hD.1 rfl _ rfl
      have f6 := (ev_form av 6).symm.trans d6
      exact (wanted_of (d := 6) (b := false) (want := true) rfl rfl rfl d6)
    case s5 =>
      refine step_skip (fun av wv hE hS hO hD => ?_) (fun _ => rfl)
      have d7 : av.eval (.tmp 7) = (undef) := hD.1 rfl _ rfl
      have f7 := (ev_form av 7).symm.trans d7
      have d6 : av.eval (.tmp 6) = (.bool false) := hD.2.1 rfl _ rfl
      have f6 := (ev_form av 6).symm.trans d6
      exact (wanted_of (d := 6) (b := false) (want := true) rfl rfl rfl d6)
    case s6 =>
      refine step_skip (fun av wv hE hS hO hD => ?_) (fun _ => rfl)
      have d8 : av.eval (.tmp 8) = (undef) := hD.1 rfl _ rfl
      have f8 := (ev_form av 8).symm.trans d8
      have d6 : av.eval (.tmp 6) = (.bool false) := hD.2.1 rfl _ rfl
      have f6 := (ev_form av 6).symm.trans d6
      exact (wanted_of (d := 6) (b := false) (want := true) rfl rfl rfl d6)
    case s7 =>
      refine step_skip (fun av wv hE hS hO hD => ?_) (fun _ => rfl)
      have d9 : av.eval (.tmp 9) = (undef) := hD.1 rfl _ rfl
      have f9 := (ev_form av 9).symm.trans d9
      have d6 : av.eval (.tmp 6) = (.bool false) := hD.2.1 rfl _ rfl
      have f6 := (ev_form av 6).symm.trans d6
      exact (wanted_of (d := 6) (b := false) (want := true) rfl rfl rfl d6)
    case s8 =>
      refine step_skip (fun av wv hE hS hO hD => ?_) (fun _ => rfl)
      have d10 : av.eval (.tmp 10) = (undef) := hD.1 rfl _ rfl
      have f10 := (ev_form av 10).symm.trans d10
      have d6 : av.eval (.tmp 6) = (.bool false) := hD.2.1 rfl _ rfl
      have f6 := (ev_form av 6).symm.trans d6
      exact (wanted_of (d := 6) (b := false) (want := true) rfl rfl rfl d6)
    case s9 =>
      refine step_skip (fun av wv hE hS hO hD => ?_) (fun _ => rfl)
      have d11 : av.eval (.tmp 11) = (undef) := hD.1 rfl _ rfl
      have f11 := (ev_form av 11).symm.trans d11
      have d6 : av.eval (.tmp 6) = (.bool false) := hD.2.1 rfl _ rfl
      have f6 := (ev_form av 6).symm.trans d6
      exact (wanted_of (d := 6) (b := false) (want := true) rfl rfl rfl d6)
    case s10 =>
      refine step_skip (fun av wv hE hS hO hD => ?_) (fun _ => rfl)
      have d12 : av.eval (.tmp 12) = (undef) := hD.1 rfl _ rfl
      have f12 := (ev_form av 12).symm.trans d12
      have d6 : av.eval (.tmp 6) = (.bool false) := hD.2.1 rfl _ rfl
      have f6 := (ev_form av 6).symm.trans d6
      exact (wanted_of (d := 6) (b := false) (want := true) rfl rfl rfl d6)
    case s11 =>
      refine step_skip (fun av wv hE hS hO hD => ?_) (fun _ => rfl)
      have h0 : av.eval (.tmp 0) = (.pointer (some ⟨cb, 0, none⟩)) := hO.2.2 0 rfl
      have f0 := (ev_form av 0).symm.trans h0
      have d6 : av.eval (.tmp 6) = (.bool false) := hD.1 rfl _ rfl
      have f6 := (ev_form av 6).symm.trans d6
      exact (wanted_of (d := 6) (b := false) (want := true) rfl rfl rfl d6)
    case s12 =>
      refine step_skip (fun av wv hE hS hO hD => ?_) (fun _ => rfl)
      have d14 : av.eval (.tmp 14) = (undef) := hD.1 rfl _ rfl
      have f14 := (ev_form av 14).symm.trans d14
      have d6 : av.eval (.tmp 6) = (.bool false) := hD.2.1 rfl _ rfl
      have f6 := (ev_form av 6).symm.trans d6
      exact (wanted_of (d := 6) (b := false) (want := true) rfl rfl rfl d6)
    case s13 =>
      refine step_skip (fun av wv hE hS hO hD => ?_) (fun _ => rfl)
      have d15 : av.eval (.tmp 15) = (undef) := hD.1 rfl _ rfl
      have f15 := (ev_form av 15).symm.trans d15
      have d6 : av.eval (.tmp 6) = (.bool false) := hD.2.1 rfl _ rfl
      have f6 := (ev_form av 6).symm.trans d6
      exact (wanted_of (d := 6) (b := false) (want := true) rfl rfl rfl d6)
    case s14 =>
      refine step_skip (fun av wv hE hS hO hD => ?_) (fun _ => rfl)
      have d16 : av.eval (.tmp 16) = (undef) := hD.1 rfl _ rfl
      have f16 := (ev_form av 16).symm.trans d16
      have d6 : av.eval (.tmp 6) = (.bool false) := hD.2.1 rfl _ rfl
      have f6 := (ev_form av 6).symm.trans d6
      exact (wanted_of (d := 6) (b := false) (want := true) rfl rfl rfl d6)
    case s15 =>
      refine step_skip (fun av wv hE hS hO hD => ?_) (fun _ => rfl)
      have d17 : av.eval (.tmp 17) = (undef) := hD.1 rfl _ rfl
      have f17 := (ev_form av 17).symm.trans d17
      have d6 : av.eval (.tmp 6) = (.bool false) := hD.2.1 rfl _ rfl
      have f6 := (ev_form av 6).symm.trans d6
      exact (wanted_of (d := 6) (b := false) (want := true) rfl rfl rfl d6)
    case s16 =>
      refine step_skip (fun av wv hE hS hO hD => ?_) (fun _ => rfl)
      have d18 : av.eval (.tmp 18) = (undef) := hD.1 rfl _ rfl
      have f18 := (ev_form av 18).symm.trans d18
      have d6 : av.eval (.tmp 6) = (.bool false) := hD.2.1 rfl _ rfl
      have f6 := (ev_form av 6).symm.trans d6
      exact (wanted_of (d := 6) (b := false) (want := true) rfl rfl rfl d6)
    case s17 =>
      refine step_skip (fun av wv hE hS hO hD => ?_) (fun _ => rfl)
      have d19 : av.eval (.tmp 19) = (undef) := hD.1 rfl _ rfl
      have f19 := (ev_form av 19).symm.trans d19
      have d6 : av.eval (.tmp 6) = (.bool false) := hD.2.1 rfl _ rfl
      have f6 := (ev_form av 6).symm.trans d6
      exact (wanted_of (d := 6) (b := false) (want := true) rfl rfl rfl d6)
    case s18 =>
      refine step_skip (fun av wv hE hS hO hD => ?_) (fun _ => rfl)
      have d20 : av.eval (.tmp 20) = (undef) := hD.1 rfl _ rfl
      have f20 := (ev_form av 20).symm.trans d20
      have d6 : av.eval (.tmp 6) = (.bool false) := hD.2.1 rfl _ rfl
      have f6 := (ev_form av 6).symm.trans d6
      exact (wanted_of (d := 6) (b := false) (want := true) rfl rfl rfl d6)
    case s19 =>
      refine step_skip (fun av wv hE hS hO hD => ?_) (fun _ => rfl)
      have d13 : av.eval (.tmp 13) = (undef) := hD.1 rfl _ rfl
      have f13 := (ev_form av 13).symm.trans d13
      have d21 : av.eval (.tmp 21) = (undef) := hD.2.1 rfl _ rfl
      have f21 := (ev_form av 21).symm.trans d21
      have d6 : av.eval (.tmp 6) = (.bool false) := hD.2.2.1 rfl _ rfl
      have f6 := (ev_form av 6).symm.trans d6
      exact (wanted_of (d := 6) (b := false) (want := true) rfl rfl rfl d6)
    case s20 =>
      refine step_val (v := (.bool false)) (fun av wv hE hS hO hD => ?_) (fun _ => rfl)
      have d6 : av.eval (.tmp 6) = (.bool false) := hD.1 rfl _ rfl
      have f6 := (ev_form av 6).symm.trans d6
      have d22 : av.eval (.tmp 22) = (undef) := hD.2.1 rfl _ rfl
      have f22 := (ev_form av 22).symm.trans d22
      refine ⟨rfl, ?_⟩
      simp [go_sem, f6, f22]
    intro a' w' hE hO hall
    have hA := act_of_outer (ds := [3, 4, 5, 6, 7, 8, 9, 10, 11, 12, 13, 14, 15, 16, 17, 18, 19, 20, 21, 22, 23]) rfl hO (by kernel_rfl)
    have e3 : (fun u _ => u = (.pointer (some ⟨cb, 0, none⟩))) (a'.eval (.tmp 3)) w' := hall.1 _ rfl
    have e4 : (fun u _ => u = (.bool true)) (a'.eval (.tmp 4)) w' := hall.2.1 _ rfl
    have e5 : (fun u _ => u = (.bool false)) (a'.eval (.tmp 5)) w' := hall.2.2.1 _ rfl
    have e6 : (fun u _ => u = (.bool false)) (a'.eval (.tmp 6)) w' := hall.2.2.2.1 _ rfl
    have e7 : (fun u _ => u = undef) (a'.eval (.tmp 7)) w' := hall.2.2.2.2.1 _ rfl
    have e8 : (fun u _ => u = undef) (a'.eval (.tmp 8)) w' := hall.2.2.2.2.2.1 _ rfl
    have e9 : (fun u _ => u = undef) (a'.eval (.tmp 9)) w' := hall.2.2.2.2.2.2.1 _ rfl
    have e10 : (fun u _ => u = undef) (a'.eval (.tmp 10)) w' := hall.2.2.2.2.2.2.2.1 _ rfl
    have e11 : (fun u _ => u = undef) (a'.eval (.tmp 11)) w' := hall.2.2.2.2.2.2.2.2.1 _ rfl
    have e12 : (fun u _ => u = undef) (a'.eval (.tmp 12)) w' := hall.2.2.2.2.2.2.2.2.2.1 _ rfl
    have e13 : (fun u _ => u = undef) (a'.eval (.tmp 13)) w' := hall.2.2.2.2.2.2.2.2.2.2.1 _ rfl
    have e14 : (fun u _ => u = undef) (a'.eval (.tmp 14)) w' := hall.2.2.2.2.2.2.2.2.2.2.2.1 _ rfl
    have e15 : (fun u _ => u = undef) (a'.eval (.tmp 15)) w' := hall.2.2.2.2.2.2.2.2.2.2.2.2.1 _ rfl
    have e16 : (fun u _ => u = undef) (a'.eval (.tmp 16)) w' := hall.2.2.2.2.2.2.2.2.2.2.2.2.2.1 _ rfl
    have e17 : (fun u _ => u = undef) (a'.eval (.tmp 17)) w' := hall.2.2.2.2.2.2.2.2.2.2.2.2.2.2.1 _ rfl
    have e18 : (fun u _ => u = undef) (a'.eval (.tmp 18)) w' := hall.2.2.2.2.2.2.2.2.2.2.2.2.2.2.2.1 _ rfl
    have e19 : (fun u _ => u = undef) (a'.eval (.tmp 19)) w' := hall.2.2.2.2.2.2.2.2.2.2.2.2.2.2.2.2.1 _ rfl
    have e20 : (fun u _ => u = undef) (a'.eval (.tmp 20)) w' := hall.2.2.2.2.2.2.2.2.2.2.2.2.2.2.2.2.2.1 _ rfl
    have e21 : (fun u _ => u = undef) (a'.eval (.tmp 21)) w' := hall.2.2.2.2.2.2.2.2.2.2.2.2.2.2.2.2.2.2.1 _ rfl
    have e22 : (fun u _ => u = undef) (a'.eval (.tmp 22)) w' := hall.2.2.2.2.2.2.2.2.2.2.2.2.2.2.2.2.2.2.2.1 _ rfl
    have e23 : (fun u _ => u = (.bool false)) (a'.eval (.tmp 23)) w' := hall.2.2.2.2.2.2.2.2.2.2.2.2.2.2.2.2.2.2.2.2.1 _ rfl
    simp only [List.foldl_cons, List.foldl_nil, Act.put, List.setIfInBounds_toArray, List.set_cons_succ, List.set_cons_zero, e3, e4, e5, e6, e7, e8, e9, e10, e11, e12, e13, e14, e15, e16, e17, e18, e19, e20, e21, e22, e23] at hA
    clear hO hall e3 e4 e5 e6 e7 e8 e9 e10 e11 e12 e13 e14 e15 e16 e17 e18 e19 e20 e21 e22 e23
    subst hA
    have WW : Hid (Below W.heap.size W w') := Lib.hid (of_drew hE)
    have HW2 : Hid (CurIs w' cb rb s (.error f)) := Lib.hid ((H.out.below WB.out).below WW.out)
    have W2 : Hid (w'.heap[w.heap.size]? = some (.cells #[.int .i64 0, .int .i64 0] 63 (0, 0))) := Lib.hid ((WW.out.block _ (lt_of_block W0.out)).trans W0.out)
    have c1 : w'.cell? ⟨cb, 1, none⟩ = some (.int .i64 f.1) := block_cell HW2.out.c 1
    have c2 : w'.cell? ⟨cb, 2, none⟩ = some (.int .i64 f.2) := block_cell HW2.out.c 2
    have g0 : ∀ o, w'.cell? ⟨w.heap.size, o, none⟩ = _ := block_cell W2.out
    have g1 : ∀ o, w'.frozen? ⟨w.heap.size, o, none⟩ = false := block_free W2.out
    have g2 : w.heap.size < w'.heap.size := lt_of_block W2.out
    clear hE
    go_wp2
    have hb := block_setCell (block_setCell W2.out (o := 0) (.int .i64 f.1)) (o := 1) (.int .i64 f.2)
    have d : ∀ o, _ = _ := block_cell hb
    refine bodyPost_ret (v := .agg #[.int .i64 f.1, .int .i64 f.2]) ?_ rfl ?_
    · simp [results, Tryz.results70, go_sem, d]
    · exact ⟨rfl, (HW2.out.setOff hcs hrs _).setOff hcs hrs _, ((Chg.of_below (bnext WB.out WW.out)).setNew (Nat.le_refl _) _).setNew (Nat.le_refl _) _⟩
  | ok a =>
    simp only [isBad] at HB
    go_enter Tryz.func70, Tryz.ntmps70
    go_upto_region 1 with fail
    obtain ⟨W, hW⟩ : ∃ W, w.alloc (.cells #[.int .i64 0, .int .i64 0] 63) = W := ⟨_, rfl⟩
    have WB : Hid (Below w.heap.size w W) := Lib.hid (by rw [← hW]; exact balloc (Below.refl _ _) _)
    have W0 : Hid (W.heap[w.heap.size]? = some (.cells #[.int .i64 0, .int .i64 0] 63 (0, 0))) := Lib.hid (by rw [← hW]; exact heap_alloc_new _ _)
    have HB : Hid (∀ w', Below W.heap.size W w' → Calls Tryz.prog 127 #[.pointer (some ⟨cb, 0, none⟩)] w' fun e w'' => e = .returned (.bool false) ∧ w'' = w') := Lib.hid (fun w' hb => HB.out w' (bnext WB.out hb))
    rw [hW]
    clear hW
    have HW := Lib.hid (H.out.below WB.out)
    have c0 : W.cell? ⟨cb, 0, none⟩ = some (.pointer (some ⟨rb, 0, none⟩)) := block_cell HW.out.c 0
    have k0 : W.cell? ⟨rb, 1, none⟩ = some (.int .i64 a) := block_cell HW.out.st.1 1
    have k1 : W.cell? ⟨rb, 0, none⟩ = some (.string s) := block_cell HW.out.st.1 0
    have i1 : ((a : Int) < s.size) = ((a : Int) < s.size) := rfl
    refine wp_region_all 1000 (none) (phis [fun u _ => u = (.pointer (some ⟨cb, 0, none⟩)), fun u _ => u = (.bool false), fun u _ => u = (.bool true), fun u _ => u = (.bool true), fun u _ => u = (.pointer (some ⟨cb, 0, none⟩)), fun u _ => u = (.pointer (some ⟨cb, 0, none⟩)), fun u _ => u = (.pointer (some ⟨cb, 0, none⟩)), fun u _ => u = (.pointer (some ⟨rb, 0, none⟩)), fun u _ => u = (.pointer (some ⟨rb, 0, none⟩)), fun u _ => u = (.pointer (some ⟨rb, 1, none⟩)), fun u _ => u = (.int .i64 a), fun u _ => u = (.pointer (some ⟨cb, 0, none⟩)), fun u _ => u = (.pointer (some ⟨cb, 0, none⟩)), fun u _ => u = (.pointer (some ⟨cb, 0, none⟩)), fun u _ => u = (.pointer (some ⟨rb, 0, none⟩)), fun u _ => u = (.pointer (some ⟨rb, 0, none⟩)), fun u _ => u = (.pointer (some ⟨rb, 0, none⟩)), fun u _ => u = (.string s), fun u _ => u = (.int .i64 s.size), fun u _ => u = (.bool (decide ((a : Int) < s.size))), fun u _ => u = (.bool (decide ((a : Int) < s.size)))]) rfl (by kernel_rfl) (mono_of ⟨mono_eq, mono_eq, mono_eq, mono_eq, mono_eq, mono_eq, mono_eq, mono_eq, mono_eq, mono_eq, mono_eq, mono_eq, mono_eq, mono_eq, mono_eq, mono_eq, mono_eq, mono_eq, mono_eq, mono_eq, mono_eq, trivial⟩) (steps_of 21 ⟨?s0, ?s1, ?s2, ?s3, ?s4, ?s5, ?s6, ?s7, ?s8, ?s9, ?s10, ?s11, ?s12, ?s13, ?s14, ?s15, ?s16, ?s17, ?s18, ?s19, ?s20, trivial⟩) ?_
    case s0 =>
      refine step_val (v := (.pointer (some ⟨cb, 0, none⟩))) (fun av wv hE hS hO hD => ?_) (fun _ => rfl)
      have h0 : av.eval (.tmp 0) = (.pointer (some ⟨cb, 0, none⟩)) := hO.2.2 0 rfl
      have f0 := (ev_form av 0).symm.trans h0
      refine ⟨rfl, ?_⟩
      simp [go_sem, f0, i1]
    case s1 =>
      refine step_wp (fun av wv hE hS hO hD => ?_)
      have d3 : av.eval (.tmp 3) = (.pointer (some ⟨cb, 0, none⟩)) := hD.1 rfl _ rfl
      have f3 := (ev_form av 3).symm.trans d3
      refine ⟨rfl, ?_⟩
      refine wp_of_call (v := .bool false) (by simp [go_sem, f3]) ((HB.out wv (of_drew hE)).mono (fun e w2 ⟨h1, h2⟩ => ⟨h1, by rw [h2]; exact Below.refl _ _⟩)) (fun w2 hb => ⟨_, rfl, es_of_ext hb, rfl⟩)
    case s2 =>
      refine step_val (v := (.bool true)) (fun av wv hE hS hO hD => ?_) (fun _ => rfl)
      have d4 : av.eval (.tmp 4) = (.bool false) := hD.1 rfl _ rfl
      have f4 := (ev_form av 4).symm.trans d4
      refine ⟨rfl, ?_⟩
      simp [go_sem, f4, i1]
    case s3 =>
      refine step_val (v := (.bool true)) (fun av wv hE hS hO hD => ?_) (fun _ => rfl)
      have d5 : av.eval (.tmp 5) = (.bool true) := hD.1 rfl _ rfl
      have f5 := (ev_form av 5).symm.trans d5
      refine ⟨rfl, ?_⟩
      simp [go_sem, f5, i1]
    case s4 =>
      refine step_val (v := (.pointer (some ⟨cb, 0, none⟩))) (fun av wv hE hS hO hD => ?_) (fun _ => rfl)
      have h0 : av.eval (.tmp 0) = (.pointer (some ⟨cb, 0, none⟩)) := hO.2.2 0 rfl
      have f0 := (ev_form av 0).symm.trans h0
      have d6 : av.eval (.tmp 6) = (.bool true) := hD.1 rfl _ rfl
      have f6 := (ev_form av 6).symm.trans d6
      refine ⟨(wanted_of (d := 6) (b := true) (want := true) rfl rfl rfl d6), ?_⟩
      simp [go_sem, f0, f6, i1]
    case s5 =>
      refine step_val (v := (.pointer (some ⟨cb, 0, none⟩))) (fun av wv hE hS hO hD => ?_) (fun _ => rfl)
      have d7 : av.eval (.tmp 7) = (.pointer (some ⟨cb, 0, none⟩)) := hD.1 rfl _ rfl
      have f7 := (ev_form av 7).symm.trans d7
      have d6 : av.eval (.tmp 6) = (.bool true) := hD.2.1 rfl _ rfl
      have f6 := (ev_form av 6).symm.trans d6
      refine ⟨(wanted_of (d := 6) (b := true) (want := true) rfl rfl rfl d6), ?_⟩
      simp [go_sem, f7, f6, i1]
    case s6 =>
      refine step_val (v := (.pointer (some ⟨cb, 0, none⟩))) (fun av wv hE hS hO hD => ?_) (fun _ => rfl)
      have d8 : av.eval (.tmp 8) = (.pointer (some ⟨cb, 0, none⟩)) := hD.1 rfl _ rfl
      have f8 := (ev_form av 8).symm.trans d8
      have d6 : av.eval (.tmp 6) = (.bool true) := hD.2.1 rfl _ rfl
      have f6 := (ev_form av 6).symm.trans d6
      refine ⟨(wanted_of (d := 6) (b := true) (want := true) rfl rfl rfl d6), ?_⟩
      simp [go_sem, f8, f6, i1]
    case s7 =>
      refine step_val (v := (.pointer (some ⟨rb, 0, none⟩))) (fun av wv hE hS hO hD => ?_) (fun _ => rfl)
      have d9 : av.eval (.tmp 9) = (.pointer (some ⟨cb, 0, none⟩)) := hD.1 rfl _ rfl
      have f9 := (ev_form av 9).symm.trans d9
      have d6 : av.eval (.tmp 6) = (.bool true) := hD.2.1 rfl _ rfl
      have f6 := (ev_form av 6).symm.trans d6
      have c0 := extB_cell hE (by simp) c0
      have k0 := extB_cell hE (by simp) k0
      have k1 := extB_cell hE (by simp) k1
      refine ⟨(wanted_of (d := 6) (b := true) (want := true) rfl rfl rfl d6), ?_⟩
      simp [go_sem, f9, f6, c0, k0, k1, i1]
    case s8 =>
      refine step_val (v := (.pointer (some ⟨rb, 0, none⟩))) (fun av wv hE hS hO hD => ?_) (fun _ => rfl)
      have d10 : av.eval (.tmp 10) = (.pointer (some ⟨rb, 0, none⟩)) := hD.1 rfl _ rfl
      have f10 := (ev_form av 10).symm.trans d10
      have d6 : av.eval (.tmp 6) = (.bool true) := hD.2.1 rfl _ rfl
      have f6 := (ev_form av 6).symm.trans d6
      refine ⟨(wanted_of (d := 6) (b := true) (want := true) rfl rfl rfl d6), ?_⟩
      simp [go_sem, f10, f6, i1]
    case s9 =>
      refine step_val (v := (.pointer (some ⟨rb, 1, none⟩))) (fun av wv hE hS hO hD => ?_) (fun _ => rfl)
      have d11 : av.eval (.tmp 11) = (.pointer (some ⟨rb, 0, none⟩)) := hD.1 rfl _ rfl
      have f11 := (ev_form av 11).symm.trans d11
      have d6 : av.eval (.tmp 6) = (.bool true) := hD.2.1 rfl _ rfl
      have f6 := (ev_form av 6).symm.trans d6
      refine ⟨(wanted_of (d := 6) (b := true) (want := true) rfl rfl rfl d6), ?_⟩
      simp [go_sem, f11, f6, i1]
    case s10 =>
      refine step_val (v := (.int .i64 a)) (fun av wv hE hS hO hD => ?_) (fun _ => rfl)
      have d12 : av.eval (.tmp 12) = (.pointer (some ⟨rb, 1, none⟩)) := hD.1 rfl _ rfl
      have f12 := (ev_form av 12).symm.trans d12
      have d6 : av.eval (.tmp 6) = (.bool true) := hD.2.1 rfl _ rfl
      have f6 := (ev_form av 6).symm.trans d6
      have c0 := extB_cell hE (by simp) c0
      have k0 := extB_cell hE (by simp) k0
      have k1 := extB_cell hE (by simp) k1
      refine ⟨(wanted_of (d := 6) (b := true) (want := true) rfl rfl rfl d6), ?_⟩
      simp [go_sem, f12, f6, c0, k0, k1, i1]
    case s11 =>
      refine step_val (v := (.pointer (some ⟨cb, 0, none⟩))) (fun av wv hE hS hO hD => ?_) (fun _ => rfl)
      have h0 : av.eval (.tmp 0) = (.pointer (some ⟨cb, 0, none⟩)) := hO.2.2 0 rfl
      have f0 := (ev_form av 0).symm.trans h0
      have d6 : av.eval (.tmp 6) = (.bool true) := hD.1 rfl _ rfl
      have f6 := (ev_form av 6).symm.trans d6
      refine ⟨(wanted_of (d := 6) (b := true) (want := true) rfl rfl rfl d6), ?_⟩
      simp [go_sem, f0, f6, i1]
    case s12 =>
      refine step_val (v := (.pointer (some ⟨cb, 0, none⟩))) (fun av wv hE hS hO hD => ?_) (fun _ => rfl)
      have d14 : av.eval (.tmp 14) = (.pointer (some ⟨cb, 0, none⟩)) := hD.1 rfl _ rfl
      have f14 := (ev_form av 14).symm.trans d14
      have d6 : av.eval (.tmp 6) = (.bool true) := hD.2.1 rfl _ rfl
      have f6 := (ev_form av 6).symm.trans d6
      refine ⟨(wanted_of (d := 6) (b := true) (want := true) rfl rfl rfl d6), ?_⟩
      simp [go_sem, f14, f6, i1]
    case s13 =>
      refine step_val (v := (.pointer (some ⟨cb, 0, none⟩))) (fun av wv hE hS hO hD => ?_) (fun _ => rfl)
      have d15 : av.eval (.tmp 15) = (.pointer (some ⟨cb, 0, none⟩)) := hD.1 rfl _ rfl
      have f15 := (ev_form av 15).symm.trans d15
      have d6 : av.eval (.tmp 6) = (.bool true) := hD.2.1 rfl _ rfl
      have f6 := (ev_form av 6).symm.trans d6
      refine ⟨(wanted_of (d := 6) (b := true) (want := true) rfl rfl rfl d6), ?_⟩
      simp [go_sem, f15, f6, i1]
    case s14 =>
      refine step_val (v := (.pointer (some ⟨rb, 0, none⟩))) (fun av wv hE hS hO hD => ?_) (fun _ => rfl)
      have d16 : av.eval (.tmp 16) = (.pointer (some ⟨cb, 0, none⟩)) := hD.1 rfl _ rfl
      have f16 := (ev_form av 16).symm.trans d16
      have d6 : av.eval (.tmp 6) = (.bool true) := hD.2.1 rfl _ rfl
      have f6 := (ev_form av 6).symm.trans d6
      have c0 := extB_cell hE (by simp) c0
      have k0 := extB_cell hE (by simp) k0
      have k1 := extB_cell hE (by simp) k1
      refine ⟨(wanted_of (d := 6) (b := true) (want := true) rfl rfl rfl d6), ?_⟩
      simp [go_sem, f16, f6, c0, k0, k1, i1]
    case s15 =>
      refine step_val (v := (.pointer (some ⟨rb, 0, none⟩))) (fun av wv hE hS hO hD => ?_) (fun _ => rfl)
      have d17 : av.eval (.tmp 17) = (.pointer (some ⟨rb, 0, none⟩)) := hD.1 rfl _ rfl
      have f17 := (ev_form av 17).symm.trans d17
      have d6 : av.eval (.tmp 6) = (.bool true) := hD.2.1 rfl _ rfl
      have f6 := (ev_form av 6).symm.trans d6
      refine ⟨(wanted_of (d := 6) (b := true) (want := true) rfl rfl rfl d6), ?_⟩
      simp [go_sem, f17, f6, i1]
    case s16 =>
      refine step_val (v := (.pointer (some ⟨rb, 0, none⟩))) (fun av wv hE hS hO hD => ?_) (fun _ => rfl)
      have d18 : av.eval (.tmp 18) = (.pointer (some ⟨rb, 0, none⟩)) := hD.1 rfl _ rfl
      have f18 := (ev_form av 18).symm.trans d18
      have d6 : av.eval (.tmp 6) = (.bool true) := hD.2.1 rfl _ rfl
      have f6 := (ev_form av 6).symm.trans d6
      refine ⟨(wanted_of (d := 6) (b := true) (want := true) rfl rfl rfl d6), ?_⟩
      simp [go_sem, f18, f6, i1]
    case s17 =>
      refine step_val (v := (.string s)) (fun av wv hE hS hO hD => ?_) (fun _ => rfl)
      have d19 : av.eval (.tmp 19) = (.pointer (some ⟨rb, 0, none⟩)) := hD.1 rfl _ rfl
      have f19 := (ev_form av 19).symm.trans d19
      have d6 : av.eval (.tmp 6) = (.bool true) := hD.2.1 rfl _ rfl
      have f6 := (ev_form av 6).symm.trans d6
      have c0 := extB_cell hE (by simp) c0
      have k0 := extB_cell hE (by simp) k0
      have k1 := extB_cell hE (by simp) k1
      refine ⟨(wanted_of (d := 6) (b := true) (want := true) rfl rfl rfl d6), ?_⟩
      simp [go_sem, f19, f6, c0, k0, k1, i1]
    case s18 =>
      refine step_val (v := (.int .i64 s.size)) (fun av wv hE hS hO hD => ?_) (fun _ => rfl)
      have d20 : av.eval (.tmp 20) = (.string s) := hD.1 rfl _ rfl
      have f20 := (ev_form av 20).symm.trans d20
      have d6 : av.eval (.tmp 6) = (.bool true) := hD.2.1 rfl _ rfl
      have f6 := (ev_form av 6).symm.trans d6
      refine ⟨(wanted_of (d := 6) (b := true) (want := true) rfl rfl rfl d6), ?_⟩
      simp [go_sem, f20, f6, i1]
    case s19 =>
      refine step_val (v := (.bool (decide ((a : Int) < s.size)))) (fun av wv hE hS hO hD => ?_) (fun _ => rfl)
      have d13 : av.eval (.tmp 13) = (.int .i64 a) := hD.1 rfl _ rfl
      have f13 := (ev_form av 13).symm.trans d13
      have d21 : av.eval (.tmp 21) = (.int .i64 s.size) := hD.2.1 rfl _ rfl
      have f21 := (ev_form av 21).symm.trans d21
      have d6 : av.eval (.tmp 6) = (.bool true) := hD.2.2.1 rfl _ rfl
      have f6 := (ev_form av 6).symm.trans d6
      refine ⟨(wanted_of (d := 6) (b := true) (want := true) rfl rfl rfl d6), ?_⟩
      simp [go_sem, f13, f21, f6, i1]
    case s20 =>
      refine step_val (v := (.bool (decide ((a : Int) < s.size)))) (fun av wv hE hS hO hD => ?_) (fun _ => rfl)
      have d6 : av.eval (.tmp 6) = (.bool true) := hD.1 rfl _ rfl
      have f6 := (ev_form av 6).symm.trans d6
      have d22 : av.eval (.tmp 22) = (.bool (decide ((a : Int) < s.size))) := hD.2.1 rfl _ rfl
      have f22 := (ev_form av 22).symm.trans d22
      refine ⟨rfl, ?_⟩
      simp [go_sem, f6, f22, i1]
    intro a' w' hE hO hall
    have hA := act_of_outer (ds := [3, 4, 5, 6, 7, 8, 9, 10, 11, 12, 13, 14, 15, 16, 17, 18, 19, 20, 21, 22, 23]) rfl hO (by kernel_rfl)
    have e3 : (fun u _ => u = (.pointer (some ⟨cb, 0, none⟩))) (a'.eval (.tmp 3)) w' := hall.1 _ rfl
    have e4 : (fun u _ => u = (.bool false)) (a'.eval (.tmp 4)) w' := hall.2.1 _ rfl
    have e5 : (fun u _ => u = (.bool true)) (a'.eval (.tmp 5)) w' := hall.2.2.1 _ rfl
    have e6 : (fun u _ => u = (.bool true)) (a'.eval (.tmp 6)) w' := hall.2.2.2.1 _ rfl
    have e7 : (fun u _ => u = (.pointer (some ⟨cb, 0, none⟩))) (a'.eval (.tmp 7)) w' := hall.2.2.2.2.1 _ rfl
    have e8 : (fun u _ => u = (.pointer (some ⟨cb, 0, none⟩))) (a'.eval (.tmp 8)) w' := hall.2.2.2.2.2.1 _ rfl
    have e9 : (fun u _ => u = (.pointer (some ⟨cb, 0, none⟩))) (a'.eval (.tmp 9)) w' := hall.2.2.2.2.2.2.1 _ rfl
    have e10 : (fun u _ => u = (.pointer (some ⟨rb, 0, none⟩))) (a'.eval (.tmp 10)) w' := hall.2.2.2.2.2.2.2.1 _ rfl
    have e11 : (fun u _ => u = (.pointer (some ⟨rb, 0, none⟩))) (a'.eval (.tmp 11)) w' := hall.2.2.2.2.2.2.2.2.1 _ rfl
    have e12 : (fun u _ => u = (.pointer (some ⟨rb, 1, none⟩))) (a'.eval (.tmp 12)) w' := hall.2.2.2.2.2.2.2.2.2.1 _ rfl
    have e13 : (fun u _ => u = (.int .i64 a)) (a'.eval (.tmp 13)) w' := hall.2.2.2.2.2.2.2.2.2.2.1 _ rfl
    have e14 : (fun u _ => u = (.pointer (some ⟨cb, 0, none⟩))) (a'.eval (.tmp 14)) w' := hall.2.2.2.2.2.2.2.2.2.2.2.1 _ rfl
    have e15 : (fun u _ => u = (.pointer (some ⟨cb, 0, none⟩))) (a'.eval (.tmp 15)) w' := hall.2.2.2.2.2.2.2.2.2.2.2.2.1 _ rfl
    have e16 : (fun u _ => u = (.pointer (some ⟨cb, 0, none⟩))) (a'.eval (.tmp 16)) w' := hall.2.2.2.2.2.2.2.2.2.2.2.2.2.1 _ rfl
    have e17 : (fun u _ => u = (.pointer (some ⟨rb, 0, none⟩))) (a'.eval (.tmp 17)) w' := hall.2.2.2.2.2.2.2.2.2.2.2.2.2.2.1 _ rfl
    have e18 : (fun u _ => u = (.pointer (some ⟨rb, 0, none⟩))) (a'.eval (.tmp 18)) w' := hall.2.2.2.2.2.2.2.2.2.2.2.2.2.2.2.1 _ rfl
    have e19 : (fun u _ => u = (.pointer (some ⟨rb, 0, none⟩))) (a'.eval (.tmp 19)) w' := hall.2.2.2.2.2.2.2.2.2.2.2.2.2.2.2.2.1 _ rfl
    have e20 : (fun u _ => u = (.string s)) (a'.eval (.tmp 20)) w' := hall.2.2.2.2.2.2.2.2.2.2.2.2.2.2.2.2.2.1 _ rfl
    have e21 : (fun u _ => u = (.int .i64 s.size)) (a'.eval (.tmp 21)) w' := hall.2.2.2.2.2.2.2.2.2.2.2.2.2.2.2.2.2.2.1 _ rfl
    have e22 : (fun u _ => u = (.bool (decide ((a : Int) < s.size)))) (a'.eval (.tmp 22)) w' := hall.2.2.2.2.2.2.2.2.2.2.2.2.2.2.2.2.2.2.2.1 _ rfl
    have e23 : (fun u _ => u = (.bool (decide ((a : Int) < s.size)))) (a'.eval (.tmp 23)) w' := hall.2.2.2.2.2.2.2.2.2.2.2.2.2.2.2.2.2.2.2.2.1 _ rfl
    simp only [List.foldl_cons, List.foldl_nil, Act.put, List.setIfInBounds_toArray, List.set_cons_succ, List.set_cons_zero, e3, e4, e5, e6, e7, e8, e9, e10, e11, e12, e13, e14, e15, e16, e17, e18, e19, e20, e21, e22, e23] at hA
    clear hO hall e3 e4 e5 e6 e7 e8 e9 e10 e11 e12 e13 e14 e15 e16 e17 e18 e19 e20 e21 e22 e23
    subst hA
    have WW : Hid (Below W.heap.size W w') := Lib.hid (of_drew hE)
    have HW2 : Hid (CurIs w' cb rb s (.ok a)) := Lib.hid ((H.out.below WB.out).below WW.out)
    have W2 : Hid (w'.heap[w.heap.size]? = some (.cells #[.int .i64 0, .int .i64 0] 63 (0, 0))) := Lib.hid ((WW.out.block _ (lt_of_block W0.out)).trans W0.out)
    by_cases hlt : a < s.size
    · have q1 : decide ((a : Int) < s.size) = true := decide_eq_true (by omega)
      have HS : Hid (endS s (.ok a) = .error (5, a)) := Lib.hid (by unfold endS; exact if_pos hlt)
      have g0 : ∀ o, w'.cell? ⟨w.heap.size, o, none⟩ = _ := block_cell W2.out
      have g1 : ∀ o, w'.frozen? ⟨w.heap.size, o, none⟩ = false := block_free W2.out
      have g2 : w.heap.size < w'.heap.size := lt_of_block W2.out
      have j0 : ∀ o, w'.cell? ⟨cb, o, none⟩ = _ := block_cell HW2.out.c
      have j1 : ∀ o, w'.frozen? ⟨cb, o, none⟩ = false := block_free HW2.out.c
      have j2 : cb < w'.heap.size := HW2.out.clt
      have j3 : ∀ o, w'.cell? ⟨rb, o, none⟩ = _ := block_cell HW2.out.st.1
      have hne := HW2.out.ne
      have hcw : cb ≠ w.heap.size := by omega
      clear hE hlt i1 c0 k0 k1
      rw [q1]
      go_wp2
      have hb := block_setCell (block_setCell (block_setCell_ne (block_setCell_ne W2.out (show w.heap.size ≠ (⟨cb, 1, none⟩ : Addr).block from fun e => hcw e.symm) (.int .i64 5)) (show w.heap.size ≠ (⟨cb, 2, none⟩ : Addr).block from fun e => hcw e.symm) (.int .i64 a)) (o := 0) (.int .i64 5)) (o := 1) (.int .i64 a)
      have d : ∀ o, _ = _ := block_cell hb
      refine bodyPost_ret (v := .agg #[.int .i64 5, .int .i64 a]) ?_ rfl ?_
      · simp [results, Tryz.results70, go_sem, d]
      · rw [HS.out]
        exact ⟨rfl, ((HW2.out.set (5, a) (show (5 : Int) ≠ 0 by decide)).setOff hcs hrs _).setOff hcs hrs _, (((((Chg.of_below (bnext WB.out WW.out)).set 1 _).set 2 _).setNew (Nat.le_refl _) _).setNew (Nat.le_refl _) _)⟩
    · have q1 : decide ((a : Int) < s.size) = false := decide_eq_false (by omega)
      have HS : Hid (endS s (.ok a) = .ok a) := Lib.hid (by unfold endS; exact if_neg hlt)
      have g0 : ∀ o, w'.cell? ⟨w.heap.size, o, none⟩ = _ := block_cell W2.out
      have g1 : ∀ o, w'.frozen? ⟨w.heap.size, o, none⟩ = false := block_free W2.out
      have g2 : w.heap.size < w'.heap.size := lt_of_block W2.out
      have c1 : w'.cell? ⟨cb, 1, none⟩ = some (.int .i64 0) := block_cell HW2.out.c 1
      have c2 : w'.cell? ⟨cb, 2, none⟩ = some (.int .i64 0) := block_cell HW2.out.c 2
      clear hE hlt i1 c0 k0 k1
      rw [q1]
      go_wp2
      have hb := block_setCell (block_setCell W2.out (o := 0) (.int .i64 0)) (o := 1) (.int .i64 0)
      have d : ∀ o, _ = _ := block_cell hb
      refine bodyPost_ret (v := .agg #[.int .i64 0, .int .i64 0]) ?_ rfl ?_
      · simp [results, Tryz.results70, go_sem, d]
      · rw [HS.out]
        exact ⟨rfl, (HW2.out.setOff hcs hrs _).setOff hcs hrs _, ((Chg.of_below (bnext WB.out WW.out)).setNew (Nat.le_refl _) _).setNew (Nat.le_refl _) _⟩
end Go.Proofs.YtihiaopilnjonaaGreatDoor
namespace Go.Proofs.YtihiaopilnjonaaGreatDoor
open Go.RowKit
set_option linter.unusedSimpArgs false
set_option linter.unusedVariables false
theorem Chg.low {rb cb : Nat} {w w1 w' : World} (h : Below w.heap.size w w1) (hc : Chg rb cb w1 w') (h1 : w.heap.size ≤ rb) (h2 : w.heap.size ≤ cb) : Below w.heap.size w w' :=
  ⟨hc.os.trans h.os, hc.tape.trans h.tape, hc.output.trans h.output, Nat.le_trans h.size hc.size, fun i hi => (hc.block i (Nat.lt_of_lt_of_le hi h.size) (by omega) (by omega)).trans (h.block i hi)⟩
end Go.Proofs.YtihiaopilnjonaaGreatDoor
namespace Go.Proofs.YtihiaopilnjonaaGreatDoor
open Go.RowKit
set_option linter.unusedSimpArgs false
set_option linter.unusedVariables false
def thingS (s all : ByteArray) (specs : List (UInt8 × RStep)) (miss : Rcd → Bool) (x0 : Rcd) (σ : Cst) : Rcd × Cst := ((objS s all specs x0 σ).1, failS (miss (objS s all specs x0 σ).1) 5 (objS s all specs x0 σ).2)
theorem thing_same {x0 : Rcd} {s all : ByteArray} {specs : List (UInt8 × RStep)} {gs : List GSpec} {miss : Rcd → Bool} (h : SpecsOk x0 all specs gs) (hG : GOk x0 gs) (hm : ∀ n a y, objLoop s gs n 0 x0 [] a = .ok y → missing gs y.2.1 = miss y.1) (a : Nat) :
    match objR s gs x0 a with
    | .error e => (thingS s all specs miss x0 (.ok a)).2 = .error e
    | .ok y => thingS s all specs miss x0 (.ok a) = (y.1, .ok y.2) := by
  unfold thingS objS pairsS
  cases hz : tkR 4 s a with
  | error e =>
    rw [objR_err4 hz]
    simp only [tkS, hz]
    rw [rLoop_bad]; rfl
  | ok z =>
    simp only [tkS, hz]
    have hl := loop_same h hG.keys hG.disj hG.frames z.1.toNat 0 ⟨#[]⟩ x0 [] z.2.2 (Nat.zero_le _) (by unfold LastIs; rw [if_pos rfl, ByteArray.toList_eq]) (fun i _ _ o _ => rfl) (s := s)
    cases hL : objLoop s gs z.1.toNat 0 x0 [] z.2.2 with
    | error e =>
      rw [hL] at hl
      rw [objR_errL hz hL]
      show failS _ 5 (rLoop s all specs z.1.toNat ⟨#[]⟩ x0 (.ok z.2.2)).2 = .error e
      have hl' : (rLoop s all specs z.1.toNat ⟨#[]⟩ x0 (.ok z.2.2)).2 = .error e := hl
      rw [hl']; rfl
    | ok y =>
      rw [hL] at hl
      have hl' : rLoop s all specs z.1.toNat ⟨#[]⟩ x0 (.ok z.2.2) = (y.1, .ok y.2.2) := hl
      rw [hl']
      have hmm := hm _ _ _ hL
      cases hmi : missing gs y.2.1 with
      | true =>
        rw [objR_miss hz hL hmi]
        show failS (miss y.1) 5 (.ok y.2.2) = .error (5, 0)
        rw [← hmm, hmi]; rfl
      | false =>
        rw [objR_ok hz hL hmi]
        show (y.1, failS (miss y.1) 5 (.ok y.2.2)) = (y.1, .ok y.2.2)
        rw [← hmm, hmi]; rfl
theorem all_same {x0 : Rcd} {s : ByteArray} {gs : List GSpec} {F : Cst → Rcd × Cst} (h : match objR s gs x0 0 with | .error e => (F (.ok 0)).2 = .error e | .ok y => F (.ok 0) = (y.1, .ok y.2)) :
    (match endS s (F (.ok 0)).2 with | .error f => Except.error f | .ok _ => .ok (F (.ok 0)).1) = readR s gs x0 := by
  unfold readR
  cases hr : objR s gs x0 0 with
  | error e =>
    rw [hr] at h
    have h' : (F (.ok 0)).2 = .error e := h
    rw [h']; rfl
  | ok y =>
    rw [hr] at h
    have h' : F (.ok 0) = (y.1, .ok y.2) := h
    rw [h']
    show (match endS s (.ok y.2) with | .error f => Except.error f | .ok _ => .ok y.1) = if y.2 < s.size then .error (5, y.2) else .ok y.1
    unfold endS
    by_cases hlt : y.2 < s.size
    · simp only [hlt, if_true]
    · simp only [hlt, if_false]
theorem mem_of_any {all k : ByteArray} (L : List UInt8) (h : all.data.toList = L) : isKey all k all.size = true ↔ ∃ c, c ∈ L ∧ k.toList = [c] := by
  subst h
  unfold isKey
  rw [List.any_eq_true]
  have key : ∀ i, (hi : i < all.size) → (all.extract i (i + 1)).toList = [all.data.toList[i]'(by rw [ba_len]; exact hi)] := fun i hi => by
    rw [ByteArray.toList_eq, ByteArray.data_extract, Array.toList_extract, List.extract_eq_take_drop]
    have : i < all.data.toList.length := by rw [ba_len]; exact hi
    rw [Nat.add_sub_cancel_left, List.drop_eq_getElem_cons this]
    rfl
  constructor
  · rintro ⟨i, hi, h⟩
    have hi' : i < all.size := by simpa using hi
    refine ⟨all.data.toList[i]'(by rw [ba_len]; exact hi'), List.getElem_mem _, ?_⟩
    rw [key i hi'] at h
    exact (by simpa using h : _ = k.toList).symm
  · rintro ⟨c, hc, h⟩
    obtain ⟨i, hi, rfl⟩ := List.getElem_of_mem hc
    have hi' : i < all.size := by rw [ba_len] at hi; exact hi
    exact ⟨i, by simpa using hi', by rw [key i hi', h]; simp⟩
end Go.Proofs.YtihiaopilnjonaaGreatDoor
namespace Go.Proofs.YtihiaopilnjonaaGreatDoor
open Go.RowKit
set_option linter.unusedSimpArgs false
set_option linter.unusedVariables false
theorem specsOk_of {x0 : Rcd} {all : ByteArray} {specs : List (UInt8 × RStep)} {gs : List GSpec} (L : List UInt8) (h1 : specs.map (fun p => p.1) = L) (h2 : gs.map (fun g => g.key) = L.map (fun c => (⟨#[c]⟩ : ByteArray))) (h3 : all.data.toList = L) (h4 : L.Pairwise (· < ·)) (h5 : ∀ i, i < gs.length → StepOk x0 (gth gs i) (rth specs i).2) : SpecsOk x0 all specs gs := by
  have l1 : specs.length = L.length := by rw [← h1]; simp
  have l2 : gs.length = L.length := by have := congrArg List.length h2; simpa using this
  have e1 : ∀ i (hi : i < L.length), (rth specs i).1 = L[i] := fun i hi => by
    rw [rth_eq specs i (by omega)]
    have : (specs.map (fun p => p.1))[i]'(by simp; omega) = L[i] := by simp only [h1]
    simpa using this
  refine ⟨by omega, fun i hi => ?_, fun k => ?_, fun i j hij hj => ?_, h5⟩
  · rw [gth_eq gs i hi, e1 i (by omega)]
    have : (gs.map (fun g => g.key))[i]'(by simp; omega) = (L.map (fun c => (⟨#[c]⟩ : ByteArray)))[i]'(by simp; omega) := by simp only [h2]
    have h9 : gs[i].key = ⟨#[L[i]'(by omega)]⟩ := by simpa using this
    rw [h9, ByteArray.toList_eq]
  · rw [mem_of_any L h3]
    constructor
    · rintro ⟨c, hc, hk⟩
      obtain ⟨i, hi, rfl⟩ := List.getElem_of_mem hc
      exact ⟨i, by omega, by rw [hk, e1 i hi]⟩
    · rintro ⟨i, hi, hk⟩
      exact ⟨L[i]'(by omega), List.getElem_mem _, by rw [hk, e1 i (by omega)]⟩
  · rw [e1 i (by omega), e1 j (by omega)]
    exact List.pairwise_iff_getElem.1 h4 i j (by omega) (by omega) hij
end Go.Proofs.YtihiaopilnjonaaGreatDoor
namespace Go.Proofs.YtihiaopilnjonaaGreatDoor
open Go.RowKit
set_option linter.unusedSimpArgs false
set_option linter.unusedVariables false
def pick3 (a b c : ByteArray) : Nat → ByteArray
  | 0 => a
  | 1 => b
  | _ => c
theorem pick3_at (a b c : ByteArray) (m : Nat) (h : m < 3) : (#[Value.string a, .string b, .string c] : Array Value)[m]? = some (.string (pick3 a b c m)) := by
  match m, h with
  | 0, _ => rfl
  | 1, _ => rfl
  | 2, _ => rfl
theorem pick3_size {a b c : ByteArray} {n : Nat} (ha : a.size ≤ n) (hb : b.size ≤ n) (hc : c.size ≤ n) (m : Nat) : (pick3 a b c m).size ≤ n := by
  match m with
  | 0 => exact ha
  | 1 => exact hb
  | _ + 2 => exact hc
def TextOf (fs : List FSpec) : ByteArray := if allMay fs then layP fs else ⟨#[]⟩
def CodeOf (fs : List FSpec) : Int := if allMay fs then 0 else 2
theorem LaidIs.both {fs : List FSpec} {w w' : World} {e : Ending} (h : LaidIs fs w e w') : e = .returned (.tuple #[.string (TextOf fs), .int .i64 (CodeOf fs)]) ∧ Below w.heap.size w w' := by
  obtain ⟨h1, h2⟩ := h
  refine ⟨h1.trans ?_, h2⟩
  unfold TextOf CodeOf
  cases allMay fs <;> rfl
end Go.Proofs.YtihiaopilnjonaaGreatDoor
namespace Go.Proofs.YtihiaopilnjonaaGreatDoor
set_option linter.unusedSimpArgs false
set_option linter.unusedVariables false
open Go.RowKit Go.ChangeShapes Go.WideShapes Go.ChangeAt Go.Deep
section
variable {H : Type} {enc : TypeId × Value → H} {P : Program} {w : World}
theorem below_trodAll (hl : laidOutB P = true) {W W' : World} (hb : Below W.heap.size W W') : ∀ {ts : List TypeId} {vs : List Value} {ds : List (DataW H)} {ps : List MemPlace},
    (∀ t ∈ ts, P.readableRec t = true ∧ t < P.types.size) → DataW.TrodAll enc P W 0 (fun _ => true) true ts vs ds ps → DataW.TrodAll enc P W' 0 (fun b => decide (b < W.heap.size)) true ts vs ds ps
  | [], vs, ds, ps, _, h => by
    obtain ⟨rfl, rfl, rfl⟩ := trodAll_nil h
    exact trodAll_mk0
  | t :: ts, vs, ds, ps, ht, h => by
    obtain ⟨v, vs', d, ds', p, q, rfl, rfl, rfl, h0, r0⟩ := trodAll_cons h
    have lt0 : ∀ x ∈ p, x.block < W.heap.size := by obtain ⟨m, hm⟩ := h0; exact DataW.trod_lt m _ _ _ hm
    exact trodAll_cons_mk (Below.trod hl (ht t (List.mem_cons_self ..)).1 (ht t (List.mem_cons_self ..)).2 h0 hb lt0) (below_trodAll hl hb (fun t' h' => ht t' (List.mem_cons_of_mem _ h')) r0)
theorem list_of {α : Type} {n : Nat} {p : Nat → α → Prop} (h : ∀ i, i < n → ∃ x, p i x) : ∃ l : List α, l.length = n ∧ ∀ i (hi : i < l.length), p i l[i] := by
  induction n with
  | zero => exact ⟨[], rfl, fun i hi => by simp at hi⟩
  | succ n ih =>
    obtain ⟨l, hl, hp⟩ := ih (fun i hi => h i (by omega))
    obtain ⟨x, hx⟩ := h n (by omega)
    refine ⟨l ++ [x], by simp [hl], fun i hi => ?_⟩
    rcases Nat.lt_or_ge i l.length with h' | h'
    · rw [List.getElem_append_left h']; exact hp i h'
    · have e : i = l.length := by simp at hi; omega
      subst e
      simp only [List.getElem_append_right (Nat.le_refl _), Nat.sub_self, List.getElem_cons_zero]
      rw [hl]; exact hx
theorem cell_read {n : Nat} {e : TypeId} {k : IntKind} {v : Value} {y : DataW H × List MemPlace} (he : P.underlying e = some (.int k)) (h : DataW.trod enc P w 0 (fun _ => true) true n e [v] = some y) : ∃ x, v = .int k x ∧ (Lit.int k x).wf = true := by
  obtain ⟨x, hx, _, hw⟩ := DataW.trod_int he h
  exact ⟨x, by simpa using hx, hw⟩
end
end Go.Proofs.YtihiaopilnjonaaGreatDoor
namespace Go.Proofs.YtihiaopilnjonaaGreatDoor
set_option linter.unusedSimpArgs false
set_option linter.unusedVariables false
open Go.RowKit Go.ChangeShapes Go.WideShapes Go.ChangeAt
theorem own : ownKnob Tryz.prog.godebug = none := by kernel_rfl
theorem laidOut : laidOutB Tryz.prog = true := by kernel_rfl
end Go.Proofs.YtihiaopilnjonaaGreatDoor
namespace Go.Proofs.YtihiaopilnjonaaGreatDoor
set_option linter.unusedSimpArgs false
set_option linter.unusedVariables false
open Go.RowKit Go.ChangeShapes Go.WideShapes Go.ChangeAt Go.ChangeMaps
section
variable {P : Program} {H : Type} {enc : TypeId × Value → H} {w : World}
theorem open_str {t : TypeId} (ht : P.underlying t = some .string) {v : Value} {d : DataW H} {p : List MemPlace} {r : Reach} {base : Nat} (hv : Value.okWide P w r base t v) (h : DataW.Trod enc P w 0 (fun _ => true) true t v d p) :
    ∃ s : ByteArray, v = .string s ∧ d = .lit (.string s.data.toList) ∧ p = [] ∧ s.size ≤ 9223372036854775807 := by
  obtain ⟨s, rfl, h1, h2, h3⟩ := open_string ht hv h
  exact ⟨s, rfl, h1, h2, by unfold maxLen at h3; exact h3⟩
end
end Go.Proofs.YtihiaopilnjonaaGreatDoor
namespace Go.Proofs.YtihiaopilnjonaaGreatDoor
open Go.RowKit Go.ChangeShapes Go.WideShapes Go.ChangeAt
set_option linter.unusedSimpArgs false
set_option linter.unusedVariables false
section
variable {P : Program} {H : Type} {enc : TypeId × Value → H} {w : World}
theorem str_readw {n : Nat} {e : TypeId} {v : Value} {y : DataW H × List MemPlace} (he : P.underlying e = some .string) (h : DataW.trod enc P w 0 (fun _ => true) true n e [v] = some y) : ∃ s : ByteArray, v = .string s ∧ s.size ≤ maxLen := by
  obtain ⟨s, hx, _, hw⟩ := DataW.trod_string he h
  exact ⟨s, by simpa using hx, hw⟩
theorem wfi_u64 {n : Int} (h : (Lit.int .u64 n).wf = true) : U64i n := by simp [Lit.wf, IntKind.min, IntKind.max, IntKind.signed, IntKind.bits] at h; unfold U64i; omega
theorem wfi_u16 {n : Int} (h : (Lit.int .u16 n).wf = true) : 0 ≤ n ∧ n ≤ 65535 := by simp [Lit.wf, IntKind.min, IntKind.max, IntKind.signed, IntKind.bits] at h; omega
theorem wfi_u8 {n : Int} (h : (Lit.int .u8 n).wf = true) : 0 ≤ n ∧ n ≤ 255 := by simp [Lit.wf, IntKind.min, IntKind.max, IntKind.signed, IntKind.bits] at h; omega
end
set_option maxRecDepth 100000 in
theorem open_turn {H : Type} {enc : TypeId × Value → H} {w : World} {v : Value} {d : DataW H} {p : List MemPlace} {r : Reach} {base : Nat} (hv : Value.okWide Tryz.prog w r base 55 v) (h : DataW.Trod enc Tryz.prog w 0 (fun _ => true) true 55 v d p) :
    ∃ a y t : Int, v = .agg #[.int .u16 a, .int .u8 y, .int .i64 t] ∧ (0 ≤ a ∧ a ≤ 65535) ∧ (0 ≤ y ∧ y ≤ 255) := by
  obtain ⟨cs', rfl, hsz⟩ := okWide_struct Tryz.underlying55 hv
  have hsz' : cs'.size = 3 := hsz.trans (by kernel_rfl)
  obtain ⟨l⟩ := cs'
  match l, hsz' with
  | [v0, v1, v2], _ =>
    obtain ⟨fuel, hf⟩ := h
    obtain ⟨xs, m, _, _, _, hxl, hx⟩ := DataW.trod_struct Tryz.underlying55 hf
    have hxl' : xs.length = 3 := hxl
    simp only [Value.cells] at hx
    have h0 : DataW.trod enc Tryz.prog w 0 (fun _ => true) true m 53 (([v0, v1, v2].drop 0).take (Tryz.prog.cellsOf 53)) = xs[0]? := hx 0 _ rfl
    rw [show Tryz.prog.cellsOf 53 = 1 by kernel_rfl] at h0
    have h1 : DataW.trod enc Tryz.prog w 0 (fun _ => true) true m 5 (([v0, v1, v2].drop 1).take (Tryz.prog.cellsOf 5)) = xs[1]? := hx 1 _ rfl
    rw [show Tryz.prog.cellsOf 5 = 1 by kernel_rfl] at h1
    have h2 : DataW.trod enc Tryz.prog w 0 (fun _ => true) true m 3 (([v0, v1, v2].drop 2).take (Tryz.prog.cellsOf 3)) = xs[2]? := hx 2 _ rfl
    rw [show Tryz.prog.cellsOf 3 = 1 by kernel_rfl] at h2
    obtain ⟨x0, rfl, w0⟩ := cell_read Tryz.underlying53 (h0.trans (List.getElem?_eq_getElem (show 0 < xs.length by omega)))
    obtain ⟨x1, rfl, w1⟩ := cell_read Tryz.underlying5 (h1.trans (List.getElem?_eq_getElem (show 1 < xs.length by omega)))
    obtain ⟨x2, rfl, w2⟩ := cell_read Tryz.underlying3 (h2.trans (List.getElem?_eq_getElem (show 2 < xs.length by omega)))
    exact ⟨x0, x1, x2, rfl, wfi_u16 w0, wfi_u8 w1⟩
end Go.Proofs.YtihiaopilnjonaaGreatDoor
namespace Go.Proofs.YtihiaopilnjonaaGreatDoor
open Go.RowKit Go.ChangeShapes Go.WideShapes Go.ChangeAt Go.Deep
set_option linter.unusedSimpArgs false
set_option linter.unusedVariables false
def CW (w : World) : CP := fun b o x => w.cell? ⟨b, o, none⟩ = some x
theorem CW.at {w : World} {b o : Nat} {x : Value} (h : CW w b o x) : CellAt w.heap.size w b o x := ⟨h, .inl (lt_of_cell h)⟩
section
variable {H : Type} {enc : TypeId × Value → H} {P : Program} {w : World}
theorem slice_read {α : Type} {t e : TypeId} (k : Nat) (cells : α → List Value) (ok : α → Prop) (ht : P.underlying t = some (.slice e)) (hC : P.cellsOf e = k) (hk : 0 < k)
    (hel : ∀ n cs' y, cs'.length = k → DataW.trod enc P w 0 (fun _ => true) true n e cs' = some y → ∃ x, cs' = cells x ∧ ok x)
    {n : Nat} {v : Value} {y : DataW H × List MemPlace} (h : DataW.trod enc P w 0 (fun _ => true) true n t [v] = some y) :
    ∃ a c, ∃ l : List α, v = .slice a (len l) c ∧ len l ≤ c ∧ c ≤ maxLen ∧ ∀ i (hi : i < l.length), ok l[i] ∧ ∃ b off, a = some ⟨b, off, none⟩ ∧ ∀ j, j < k → w.cell? ⟨b, off + i * k + j, none⟩ = (cells l[i])[j]? := by
  rcases open_slice ht h with ⟨hcs, _⟩ | ⟨a, n0, c0, m, q, D, Pl, hcs, _, hl, hm, hmm, _, hi⟩
  · simp at hcs
    subst hcs
    exact ⟨none, 0, [], rfl, Nat.le_refl _, Nat.zero_le _, fun i hi => by simp at hi⟩
  · simp at hcs
    subst hcs
    have hnm : n0 ≤ m := by rw [hmm]; simp; exact hl
    have each : ∀ i, i < n0 → ∃ x, ok x ∧ ∃ b off, some a = some ⟨b, off, none⟩ ∧ ∀ j, j < k → w.cell? ⟨b, off + i * k + j, none⟩ = (cells x)[j]? := by
      intro i hin
      obtain ⟨cs', hc, htr⟩ := hi i (by omega)
      rw [hC] at hc
      obtain ⟨_, hcl, hat⟩ := World.cells?_some hc
      obtain ⟨x, rfl, hx⟩ := hel q cs' _ hcl htr
      obtain ⟨b, off, spot⟩ := a
      have hspot : spot = none := by
        obtain ⟨cs0, hc0, htr0⟩ := hi 0 (by omega)
        rw [hC] at hc0
        obtain ⟨_, hcl0, hat0⟩ := World.cells?_some hc0
        have h1 := hat0 0 hk
        have h2 : cs0[0]? = some (cs0[0]'(by omega)) := List.getElem?_eq_getElem (by omega)
        rw [h2] at h1
        simpa [Addr.add] using World.cell?_spot h1
      subst hspot
      refine ⟨x, hx, b, off, rfl, fun j hj => ?_⟩
      have h1 := hat j hj
      rw [Go.Deep.add_add] at h1
      have e : (⟨b, off, none⟩ : Addr).add (i * k + j) = ⟨b, off + i * k + j, none⟩ := by
        unfold Addr.add; split
        · rename_i h0; simp <;> omega
        · simp [Nat.add_assoc]
      rw [e] at h1; exact h1
    obtain ⟨l, hll, hp⟩ := list_of each
    subst hll
    exact ⟨some a, c0, l, rfl, hl, hm, hp⟩
theorem strs_read {t e : TypeId} (ht : P.underlying t = some (.slice e)) (he : P.underlying e = some .string) (hC : P.cellsOf e = 1) {n : Nat} {v : Value} {y : DataW H × List MemPlace} (h : DataW.trod enc P w 0 (fun _ => true) true n t [v] = some y) :
    ∃ a c, ∃ l : List ByteArray, v = .slice a (len l) c ∧ len l ≤ c ∧ c ≤ maxLen ∧ StrsC (CW w) a l ∧ ∀ i, i < len l → (sth l i).size ≤ maxLen := by
  obtain ⟨a, c, l, rfl, h1, h2, h3⟩ := slice_read 1 (fun x => [Value.string x]) (fun x : ByteArray => x.size ≤ maxLen) ht hC (by decide) (fun n cs' y hl hy => by
    match cs', hl with
    | [v0], _ =>
      obtain ⟨x, rfl, hw⟩ := str_readw he hy
      exact ⟨x, rfl, hw⟩) h
  refine ⟨a, c, l, rfl, h1, h2, fun i hi => ?_, fun i hi => ?_⟩
  · obtain ⟨_, b, off, e1, e2⟩ := h3 i hi
    refine ⟨b, off, e1, ?_⟩
    have := e2 0 (by decide)
    rw [Nat.mul_one, Nat.add_zero] at this
    show w.cell? ⟨b, off + i, none⟩ = _
    rw [this, sth_eq l i hi]; rfl
  · rw [sth_eq l i hi]; exact (h3 i hi).1
theorem bool_readw {n : Nat} {e : TypeId} {v : Value} {y : DataW H × List MemPlace} (he : P.underlying e = some .bool) (h : DataW.trod enc P w 0 (fun _ => true) true n e [v] = some y) : ∃ b, v = .bool b := by
  obtain ⟨b, hx, _⟩ := DataW.trod_bool he h
  exact ⟨b, by simpa using hx⟩
end
section
variable {H : Type} {enc : TypeId × Value → H} {w : World}
set_option maxRecDepth 100000 in
theorem cells_sig {n : Nat} {v0 v1 v2 : Value} {y : DataW H × List MemPlace} (h : DataW.trod enc Tryz.prog w 0 (fun _ => true) true n 42 [v0, v1, v2] = some y) :
    ∃ (x0 : Int) (x1a : Option Addr) (x1c : Nat) (x1 : List ByteArray) (x2a : Option Addr) (x2c : Nat) (x2 : List ByteArray), v0 = .int .u64 x0 ∧ v1 = .slice x1a (len x1) x1c ∧ v2 = .slice x2a (len x2) x2c ∧ U64i x0 ∧ (len x1 ≤ maxLen ∧ StrsC (CW w) x1a x1 ∧ ∀ i, i < len x1 → (sth x1 i).size ≤ maxLen) ∧ (len x2 ≤ maxLen ∧ StrsC (CW w) x2a x2 ∧ ∀ i, i < len x2 → (sth x2 i).size ≤ maxLen) := by
  obtain ⟨xs, m, _, _, _, hxl, hx⟩ := DataW.trod_struct Tryz.underlying42 h
  have hxl' : xs.length = 3 := hxl
  have h0 : DataW.trod enc Tryz.prog w 0 (fun _ => true) true m 23 (([v0, v1, v2].drop 0).take (Tryz.prog.cellsOf 23)) = xs[0]? := hx 0 _ rfl
  rw [show Tryz.prog.cellsOf 23 = 1 by kernel_rfl] at h0
  have h1 : DataW.trod enc Tryz.prog w 0 (fun _ => true) true m 26 (([v0, v1, v2].drop 1).take (Tryz.prog.cellsOf 26)) = xs[1]? := hx 1 _ rfl
  rw [show Tryz.prog.cellsOf 26 = 1 by kernel_rfl] at h1
  have h2 : DataW.trod enc Tryz.prog w 0 (fun _ => true) true m 26 (([v0, v1, v2].drop 2).take (Tryz.prog.cellsOf 26)) = xs[2]? := hx 2 _ rfl
  rw [show Tryz.prog.cellsOf 26 = 1 by kernel_rfl] at h2
  obtain ⟨z0, rfl, w0⟩ := cell_read Tryz.underlying23 (h0.trans (List.getElem?_eq_getElem (show 0 < xs.length by omega)))
  obtain ⟨z1a, z1c, z1, rfl, w1, w1', w1S, w1Z⟩ := strs_read Tryz.underlying26 Tryz.underlying9 (by kernel_rfl) (h1.trans (List.getElem?_eq_getElem (show 1 < xs.length by omega)))
  obtain ⟨z2a, z2c, z2, rfl, w2, w2', w2S, w2Z⟩ := strs_read Tryz.underlying26 Tryz.underlying9 (by kernel_rfl) (h2.trans (List.getElem?_eq_getElem (show 2 < xs.length by omega)))
  exact ⟨z0, z1a, z1c, z1, z2a, z2c, z2, rfl, rfl, rfl, wfi_u64 w0, ⟨Nat.le_trans w1 w1', w1S, w1Z⟩, ⟨Nat.le_trans w2 w2', w2S, w2Z⟩⟩
set_option maxRecDepth 100000 in
theorem cells_slot {n : Nat} {v0 v1 v2 v3 v4 : Value} {y : DataW H × List MemPlace} (h : DataW.trod enc Tryz.prog w 0 (fun _ => true) true n 44 [v0, v1, v2, v3, v4] = some y) :
    ∃ (x0 : Int) (x1 : Bool) (x2 : Int) (x3a : Option Addr) (x3c : Nat) (x3 : List ByteArray) (x4a : Option Addr) (x4c : Nat) (x4 : List ByteArray), v0 = .int .u64 x0 ∧ v1 = .bool x1 ∧ v2 = .int .u64 x2 ∧ v3 = .slice x3a (len x3) x3c ∧ v4 = .slice x4a (len x4) x4c ∧ U64i x0 ∧ True ∧ U64i x2 ∧ (len x3 ≤ maxLen ∧ StrsC (CW w) x3a x3 ∧ ∀ i, i < len x3 → (sth x3 i).size ≤ maxLen) ∧ (len x4 ≤ maxLen ∧ StrsC (CW w) x4a x4 ∧ ∀ i, i < len x4 → (sth x4 i).size ≤ maxLen) := by
  obtain ⟨xs, m, _, _, _, hxl, hx⟩ := DataW.trod_struct Tryz.underlying44 h
  have hxl' : xs.length = 3 := hxl
  have h0 : DataW.trod enc Tryz.prog w 0 (fun _ => true) true m 23 (([v0, v1, v2, v3, v4].drop 0).take (Tryz.prog.cellsOf 23)) = xs[0]? := hx 0 _ rfl
  rw [show Tryz.prog.cellsOf 23 = 1 by kernel_rfl] at h0
  have h1 : DataW.trod enc Tryz.prog w 0 (fun _ => true) true m 4 (([v0, v1, v2, v3, v4].drop 1).take (Tryz.prog.cellsOf 4)) = xs[1]? := hx 1 _ rfl
  rw [show Tryz.prog.cellsOf 4 = 1 by kernel_rfl] at h1
  have h2 : DataW.trod enc Tryz.prog w 0 (fun _ => true) true m 42 (([v0, v1, v2, v3, v4].drop 2).take (Tryz.prog.cellsOf 42)) = xs[2]? := hx 2 _ rfl
  rw [show Tryz.prog.cellsOf 42 = 3 by kernel_rfl] at h2
  obtain ⟨z0, rfl, w0⟩ := cell_read Tryz.underlying23 (h0.trans (List.getElem?_eq_getElem (show 0 < xs.length by omega)))
  obtain ⟨z1, rfl⟩ := bool_readw Tryz.underlying4 (h1.trans (List.getElem?_eq_getElem (show 1 < xs.length by omega)))
  obtain ⟨z2_0, z2_1a, z2_1c, z2_1, z2_2a, z2_2c, z2_2, rfl, rfl, rfl, w2_0, w2_1, w2_2⟩ := cells_sig (h2.trans (List.getElem?_eq_getElem (show 2 < xs.length by omega)))
  exact ⟨z0, z1, z2_0, z2_1a, z2_1c, z2_1, z2_2a, z2_2c, z2_2, rfl, rfl, rfl, rfl, rfl, wfi_u64 w0, trivial, w2_0, w2_1, w2_2⟩
structure RvOp (d : RevD) : Prop where
  pos : U64i d.pos
  L : U64i d.L
  idx : U64i d.idx
  wt : U64i d.wt
  first : U64i d.first
  life : U64i d.life
  keys : U64i d.keys
  ws : len d.ws ≤ maxLen
  wz : ∀ i, i < len d.ws → (sth d.ws i).size ≤ maxLen
  ps : len d.ps ≤ maxLen
  pz : ∀ i, i < len d.ps → (sth d.ps i).size ≤ maxLen
  root : d.root.size ≤ maxLen
structure RvX where
  d : RevD
  wa : Option Addr
  wc : Nat
  pa : Option Addr
  pc : Nat
def RvX.cells (x : RvX) : List Value := [.int .u64 x.d.pos, .int .u64 x.d.L, .bool x.d.signed, .int .u64 x.d.idx, .slice x.wa (len x.d.ws) x.wc, .slice x.pa (len x.d.ps) x.pc, .string x.d.root, .int .u64 x.d.wt, .int .u64 x.d.first, .int .u64 x.d.life, .int .u64 x.d.keys]
set_option maxRecDepth 100000 in
theorem open_slot {v : Value} {d : DataW H} {p : List MemPlace} {r : Reach} {base : Nat} (hv : Value.okWide Tryz.prog w r base 44 v) (h : DataW.Trod enc Tryz.prog w 0 (fun _ => true) true 44 v d p) :
    ∃ (x0 : Int) (x1 : Bool) (x2 : Int) (x3a : Option Addr) (x3c : Nat) (x3 : List ByteArray) (x4a : Option Addr) (x4c : Nat) (x4 : List ByteArray), v = .agg #[.int .u64 x0, .bool x1, .int .u64 x2, .slice x3a (len x3) x3c, .slice x4a (len x4) x4c] ∧ U64i x0 ∧ True ∧ U64i x2 ∧ (len x3 ≤ maxLen ∧ StrsC (CW w) x3a x3 ∧ ∀ i, i < len x3 → (sth x3 i).size ≤ maxLen) ∧ (len x4 ≤ maxLen ∧ StrsC (CW w) x4a x4 ∧ ∀ i, i < len x4 → (sth x4 i).size ≤ maxLen) := by
  obtain ⟨cs', rfl, hsz⟩ := okWide_struct Tryz.underlying44 hv
  have hsz' : cs'.size = 5 := hsz.trans (by kernel_rfl)
  obtain ⟨l⟩ := cs'
  match l, hsz' with
  | [v0, v1, v2, v3, v4], _ =>
    obtain ⟨fuel, hf⟩ := h
    simp only [Value.cells] at hf
    obtain ⟨x0, x1, x2, x3a, x3c, x3, x4a, x4c, x4, rfl, rfl, rfl, rfl, rfl, w0, w1, w2, w3, w4⟩ := cells_slot hf
    exact ⟨x0, x1, x2, x3a, x3c, x3, x4a, x4c, x4, rfl, w0, w1, w2, w3, w4⟩
end
end Go.Proofs.YtihiaopilnjonaaGreatDoor
namespace Go.Proofs.YtihiaopilnjonaaGreatDoor
set_option linter.unusedSimpArgs false
set_option linter.unusedVariables false
open Go.RowKit Go.ChangeShapes Go.WideShapes Go.ChangeAt
def rowD (r : URow) : DataW Unit := .agg [.lit (.int .u8 r.lo), .lit (.int .u8 r.hi), .lit (.int .i64 r.size), .lit (.int .u64 r.least)]
set_option maxRecDepth 100000 in
theorem laid_row {w : World} {fuel : Nat} {cs' : List Value} {r : URow} {q : List MemPlace} (hl : cs'.length = 4) (h : DataW.trod (fun _ => ()) Tryz.prog w 0 (fun _ => true) false fuel 338 cs' = some (rowD r, q)) : cs' = r.cells := by
  match cs', hl with
  | [v0, v1, v2, v3], _ =>
    obtain ⟨xs, m, _, e, _, hxl, hx⟩ := DataW.trod_struct Tryz.underlying338 h
    have cu : Tryz.prog.cellsOf 5 = 1 := by kernel_rfl
    have ci : Tryz.prog.cellsOf 3 = 1 := by kernel_rfl
    have cq : Tryz.prog.cellsOf 23 = 1 := by kernel_rfl
    have hxl' : xs.length = 4 := hxl
    have h0 : DataW.trod (fun _ => ()) Tryz.prog w 0 (fun _ => true) false m 5 (([v0, v1, v2, v3].drop 0).take (Tryz.prog.cellsOf 5)) = xs[0]? := hx 0 _ rfl
    have h1 : DataW.trod (fun _ => ()) Tryz.prog w 0 (fun _ => true) false m 5 (([v0, v1, v2, v3].drop 1).take (Tryz.prog.cellsOf 5)) = xs[1]? := hx 1 _ rfl
    have h2 : DataW.trod (fun _ => ()) Tryz.prog w 0 (fun _ => true) false m 3 (([v0, v1, v2, v3].drop 2).take (Tryz.prog.cellsOf 3)) = xs[2]? := hx 2 _ rfl
    have h3 : DataW.trod (fun _ => ()) Tryz.prog w 0 (fun _ => true) false m 23 (([v0, v1, v2, v3].drop 3).take (Tryz.prog.cellsOf 23)) = xs[3]? := hx 3 _ rfl
    rw [cu] at h0 h1
    rw [ci] at h2
    rw [cq] at h3
    match xs, hxl' with
    | [x0, x1, x2, x3], _ =>
      obtain ⟨n0, e0, y0, _⟩ := DataW.trod_int Tryz.underlying5 (show DataW.trod (fun _ => ()) Tryz.prog w 0 (fun _ => true) false m 5 [v0] = some x0 from h0)
      obtain ⟨n1, e1, y1, _⟩ := DataW.trod_int Tryz.underlying5 (show DataW.trod (fun _ => ()) Tryz.prog w 0 (fun _ => true) false m 5 [v1] = some x1 from h1)
      obtain ⟨n2, e2, y2, _⟩ := DataW.trod_int Tryz.underlying3 (show DataW.trod (fun _ => ()) Tryz.prog w 0 (fun _ => true) false m 3 [v2] = some x2 from h2)
      obtain ⟨n3, e3, y3, _⟩ := DataW.trod_int Tryz.underlying23 (show DataW.trod (fun _ => ()) Tryz.prog w 0 (fun _ => true) false m 23 [v3] = some x3 from h3)
      subst y0 y1 y2 y3
      simp [rowD] at e e0 e1 e2 e3
      obtain ⟨⟨a0, a1, a2, a3⟩, _⟩ := e
      subst e0 e1 e2 e3
      unfold URow.cells
      rw [a0, a1, a2, a3]
set_option maxRecDepth 100000 in
theorem laid_rows {w : World} {fuel : Nat} {cs : List Value} {l : List URow} {p : List MemPlace} (h : DataW.trod (fun _ => ()) Tryz.prog w 0 (fun _ => true) false fuel 313 cs = some (.slice (l.map rowD) [], p)) (hl : 0 < len l) :
    ∃ tb tq rc, cs = [.slice (some ⟨tb, tq, none⟩) (len l) rc] ∧ URows w (some ⟨tb, tq, none⟩) l := by
  have hC : Tryz.prog.cellsOf 338 = 4 := by kernel_rfl
  rcases Go.Deep.open_slice Tryz.underlying313 h with ⟨_, hx⟩ | ⟨a, n, c, m, q, D, Pl, hcs, _, hln, hm, hmm, hx, hi⟩
  · simp at hx
  · simp only [Prod.mk.injEq, DataW.slice.injEq] at hx
    obtain ⟨⟨hD, _⟩, _⟩ := hx
    have hn : len l = n := by have := congrArg List.length hD; simpa [len] using this
    have hnm : n ≤ m := by rw [hmm]; simp; exact hln
    have each : ∀ i, i < len l → ∃ b off, a = ⟨b, off, none⟩ ∧ URowAt w b (off + i * 4) (unth l i) := fun i hil => by
      obtain ⟨cs', hc, htr⟩ := hi i (by omega)
      rw [hC] at hc
      obtain ⟨_, hcl, hat⟩ := World.cells?_some hc
      have hDi : D i = rowD (unth l i) := by
        have h1 : (l.map rowD)[i]? = ((List.range n).map D)[i]? := by rw [hD]
        have hil' : i < l.length := hil
        rw [List.getElem?_map, List.getElem?_map, List.getElem?_eq_getElem hil', List.getElem?_range (by omega)] at h1
        rw [unth_eq l i hil]
        exact (Option.some.inj h1).symm
      rw [hDi] at htr
      have hcs' := laid_row hcl htr
      obtain ⟨b, off, spot⟩ := a
      have hat0 := hat 0 (by decide)
      rw [hcs'] at hat
      have hspot : spot = none := by
        obtain ⟨cs0, hc0, htr0⟩ := hi 0 (by omega)
        rw [hC] at hc0
        obtain ⟨_, hcl0, hat0⟩ := World.cells?_some hc0
        have h1 := hat0 0 (by decide)
        have h2 : cs0[0]? = some (cs0[0]'(by omega)) := List.getElem?_eq_getElem (by omega)
        rw [h2] at h1
        simpa [Addr.add] using World.cell?_spot h1
      subst hspot
      have key : ∀ j, j < 4 → w.cell? ⟨b, off + i * 4 + j, none⟩ = (unth l i).cells[j]? := fun j hj => by
        have h1 := hat j hj
        rw [Go.Deep.add_add] at h1
        have e : (⟨b, off, none⟩ : Addr).add (i * 4 + j) = ⟨b, off + i * 4 + j, none⟩ := by
          unfold Addr.add; split
          · rename_i h0; simp <;> omega
          · simp [Nat.add_assoc]
        rw [e] at h1; exact h1
      exact ⟨b, off, rfl, key 0 (by decide), key 1 (by decide), key 2 (by decide), key 3 (by decide)⟩
    obtain ⟨b, off, rfl, _⟩ := each 0 hl
    refine ⟨b, off, c, by rw [hn]; exact hcs, fun i hil => ?_⟩
    obtain ⟨b', off', e, hR⟩ := each i hil
    cases e
    exact ⟨b, off, rfl, hR⟩
theorem tab_of {W : World} {nm : String} {g : Nat} {l : List URow} {cs : Array Value} {fuel : Nat} {p : List MemPlace} (hl : 0 < len l) (hg : Tryz.prog.globalNamed nm = some g) (hv : W.var? Tryz.prog nm = some cs)
    (h : DataW.trod (fun _ => ()) Tryz.prog W 0 (fun _ => true) false fuel 313 cs.toList = some (.slice (l.map rowD) [], p)) : TabAt W.heap.size W g l := by
  obtain ⟨tb, tq, rc, hcs, hr⟩ := laid_rows h hl
  have hc : W.cell? ⟨g, 0, none⟩ = some (.slice (some ⟨tb, tq, none⟩) (len l) rc) := by
    have := World.var?_cell hg hv 0
    rw [Array.eq_one_of_toList hcs] at this
    simpa using this
  obtain ⟨b', off', e, hR⟩ := hr 0 hl
  cases e
  exact ⟨tb, tq, rc, lt_of_cell hc, lt_of_cell hR.c0, Nat.le_refl _, hc, hr⟩
theorem oneRow : ((List.range Tryz.prog.types.size).filter fun t => Tryz.prog.rowNamed t [101, 114, 114, 111, 114]) = [59] := by kernel_rfl
end Go.Proofs.YtihiaopilnjonaaGreatDoor
namespace Go.Proofs.YtihiaopilnjonaaGreatDoor
set_option linter.unusedSimpArgs false
set_option linter.unusedVariables false
open Go.RowKit Go.ChangeShapes Go.WideShapes Go.ChangeAt
def rowD5 (r : PRow) : DataW Unit := .agg [.lit (.int .u64 r.below), .lit (.int .u8 r.first), .lit (.int .i64 r.size)]
set_option maxRecDepth 100000 in
theorem laid_prow {w : World} {fuel : Nat} {cs' : List Value} {r : PRow} {q : List MemPlace} (hl : cs'.length = 3) (h : DataW.trod (fun _ => ()) Tryz.prog w 0 (fun _ => true) false fuel 332 cs' = some (rowD5 r, q)) : cs' = r.cells := by
  match cs', hl with
  | [v0, v1, v2], _ =>
    obtain ⟨xs, m, _, e, _, hxl, hx⟩ := DataW.trod_struct Tryz.underlying332 h
    have cu : Tryz.prog.cellsOf 5 = 1 := by kernel_rfl
    have ci : Tryz.prog.cellsOf 3 = 1 := by kernel_rfl
    have cq : Tryz.prog.cellsOf 23 = 1 := by kernel_rfl
    have hxl' : xs.length = 3 := hxl
    have h0 : DataW.trod (fun _ => ()) Tryz.prog w 0 (fun _ => true) false m 23 (([v0, v1, v2].drop 0).take (Tryz.prog.cellsOf 23)) = xs[0]? := hx 0 _ rfl
    have h1 : DataW.trod (fun _ => ()) Tryz.prog w 0 (fun _ => true) false m 5 (([v0, v1, v2].drop 1).take (Tryz.prog.cellsOf 5)) = xs[1]? := hx 1 _ rfl
    have h2 : DataW.trod (fun _ => ()) Tryz.prog w 0 (fun _ => true) false m 3 (([v0, v1, v2].drop 2).take (Tryz.prog.cellsOf 3)) = xs[2]? := hx 2 _ rfl
    rw [cq] at h0
    rw [cu] at h1
    rw [ci] at h2
    match xs, hxl' with
    | [x0, x1, x2], _ =>
      obtain ⟨n0, e0, y0, _⟩ := DataW.trod_int Tryz.underlying23 (show DataW.trod (fun _ => ()) Tryz.prog w 0 (fun _ => true) false m 23 [v0] = some x0 from h0)
      obtain ⟨n1, e1, y1, _⟩ := DataW.trod_int Tryz.underlying5 (show DataW.trod (fun _ => ()) Tryz.prog w 0 (fun _ => true) false m 5 [v1] = some x1 from h1)
      obtain ⟨n2, e2, y2, _⟩ := DataW.trod_int Tryz.underlying3 (show DataW.trod (fun _ => ()) Tryz.prog w 0 (fun _ => true) false m 3 [v2] = some x2 from h2)
      subst y0 y1 y2
      simp [rowD5] at e e0 e1 e2
      obtain ⟨⟨a0, a1, a2⟩, _⟩ := e
      subst e0 e1 e2
      unfold PRow.cells
      rw [a0, a1, a2]
set_option maxRecDepth 100000 in
theorem laid_prows {w : World} {fuel : Nat} {cs : List Value} {l : List PRow} {p : List MemPlace} (h : DataW.trod (fun _ => ()) Tryz.prog w 0 (fun _ => true) false fuel 334 cs = some (.slice (l.map rowD5) [], p)) (hl : 0 < len l) :
    ∃ tb tq rc, cs = [.slice (some ⟨tb, tq, none⟩) (len l) rc] ∧ PRows w (some ⟨tb, tq, none⟩) l := by
  have hC : Tryz.prog.cellsOf 332 = 3 := by kernel_rfl
  rcases Go.Deep.open_slice Tryz.underlying334 h with ⟨_, hx⟩ | ⟨a, n, c, m, q, D, Pl, hcs, _, hln, hm, hmm, hx, hi⟩
  · simp at hx
  · simp only [Prod.mk.injEq, DataW.slice.injEq] at hx
    obtain ⟨⟨hD, _⟩, _⟩ := hx
    have hn : len l = n := by have := congrArg List.length hD; simpa [len] using this
    have hnm : n ≤ m := by rw [hmm]; simp; exact hln
    have each : ∀ i, i < len l → ∃ b off, a = ⟨b, off, none⟩ ∧ PRowAt w b (off + i * 3) (prth l i) := fun i hil => by
      obtain ⟨cs', hc, htr⟩ := hi i (by omega)
      rw [hC] at hc
      obtain ⟨_, hcl, hat⟩ := World.cells?_some hc
      have hDi : D i = rowD5 (prth l i) := by
        have h1 : (l.map rowD5)[i]? = ((List.range n).map D)[i]? := by rw [hD]
        have hil' : i < l.length := hil
        rw [List.getElem?_map, List.getElem?_map, List.getElem?_eq_getElem hil', List.getElem?_range (by omega)] at h1
        rw [prth_eq l i hil]
        exact (Option.some.inj h1).symm
      rw [hDi] at htr
      have hcs' := laid_prow hcl htr
      obtain ⟨b, off, spot⟩ := a
      have hat0 := hat 0 (by decide)
      rw [hcs'] at hat
      have hspot : spot = none := by
        obtain ⟨cs0, hc0, htr0⟩ := hi 0 (by omega)
        rw [hC] at hc0
        obtain ⟨_, hcl0, hat0⟩ := World.cells?_some hc0
        have h1 := hat0 0 (by decide)
        have h2 : cs0[0]? = some (cs0[0]'(by omega)) := List.getElem?_eq_getElem (by omega)
        rw [h2] at h1
        simpa [Addr.add] using World.cell?_spot h1
      subst hspot
      have key : ∀ j, j < 3 → w.cell? ⟨b, off + i * 3 + j, none⟩ = (prth l i).cells[j]? := fun j hj => by
        have h1 := hat j hj
        rw [Go.Deep.add_add] at h1
        have e : (⟨b, off, none⟩ : Addr).add (i * 3 + j) = ⟨b, off + i * 3 + j, none⟩ := by
          unfold Addr.add; split
          · rename_i h0; simp <;> omega
          · simp [Nat.add_assoc]
        rw [e] at h1; exact h1
      exact ⟨b, off, rfl, key 0 (by decide), key 1 (by decide), key 2 (by decide)⟩
    obtain ⟨b, off, rfl, _⟩ := each 0 hl
    refine ⟨b, off, c, by rw [hn]; exact hcs, fun i hil => ?_⟩
    obtain ⟨b', off', e, hR⟩ := each i hil
    cases e
    exact ⟨b, off, rfl, hR⟩
def tabD5 : DataW Unit := .agg ([0, 1, 2, 3, 4].map fun k => .slice ((rowsP k).map rowD5) [])
set_option maxRecDepth 100000 in
theorem ptab_of {W : World} {g : Nat} {cs : Array Value} {fuel : Nat} {p : List MemPlace} (hgg : g = 4) (hg : Tryz.prog.globalNamed "sextant/pack.rows" = some g) (hv : W.var? Tryz.prog "sextant/pack.rows" = some cs)
    (h : DataW.trod (fun _ => ()) Tryz.prog W 0 (fun _ => true) false fuel 335 cs.toList = some (tabD5, p)) : PTab W.heap.size W := by
  obtain ⟨xs, m, _, e, hcl, hxl, hx⟩ := DataW.trod_array Tryz.underlying335 h
  have hC : Tryz.prog.cellsOf 334 = 1 := by kernel_rfl
  have hC5 : Tryz.prog.cellsOf 335 = 5 := by kernel_rfl
  rw [hC5] at hcl
  rw [hC] at hx
  have hd : tabD5 = .agg (xs.map (·.1)) := congrArg Prod.fst e
  unfold tabD5 at hd
  have hd2 : ([0, 1, 2, 3, 4].map fun k => (DataW.slice ((rowsP k).map rowD5) [] : DataW Unit)) = xs.map (·.1) := by injection hd
  subst hgg
  have key : ∀ k, k < 5 → ∃ tb tq rc, cs[k]? = some (.slice (some ⟨tb, tq, none⟩) (len (rowsP k)) rc) ∧ PRows W (some ⟨tb, tq, none⟩) (rowsP k) := fun k hk => by
    have hxk : k < xs.length := by omega
    have h1 := hx k hk
    rw [List.getElem?_eq_getElem hxk] at h1
    have h2 : (xs[k]'hxk).1 = .slice ((rowsP k).map rowD5) [] := by
      have h3 : (xs.map (·.1))[k]? = some (xs[k]'hxk).1 := by rw [List.getElem?_map, List.getElem?_eq_getElem hxk]; rfl
      rw [← hd2, List.getElem?_map] at h3
      have h4 : [0, 1, 2, 3, 4][k]? = some k := by
        have : k = 0 ∨ k = 1 ∨ k = 2 ∨ k = 3 ∨ k = 4 := by omega
        rcases this with rfl | rfl | rfl | rfl | rfl <;> rfl
      rw [h4] at h3
      exact (Option.some.inj h3).symm
    have h5 : DataW.trod (fun _ => ()) Tryz.prog W 0 (fun _ => true) false m 334 ((cs.toList.drop (k * 1)).take 1) = some (.slice ((rowsP k).map rowD5) [], (xs[k]'hxk).2) := by rw [h1, ← h2]
    obtain ⟨tb, tq, rc, hcs, hr⟩ := laid_prows h5 (rowsP_pos k)
    refine ⟨tb, tq, rc, ?_, hr⟩
    have h6 : ((cs.toList.drop (k * 1)).take 1)[0]? = some (.slice (some ⟨tb, tq, none⟩) (len (rowsP k)) rc) := by rw [hcs]; rfl
    rw [List.getElem?_take, if_pos (by decide), List.getElem?_drop] at h6
    simpa using h6
  have hlt : 4 < W.heap.size := by
    obtain ⟨tb, tq, rc, h1, h2⟩ := key 0 (by decide)
    have := World.var?_cell hg hv 0
    exact lt_of_cell (this.trans h1)
  refine ⟨hlt, Nat.le_refl _, fun k hk => ?_⟩
  obtain ⟨tb, tq, rc, h1, h2⟩ := key k hk
  refine ⟨tb, tq, rc, ?_, (World.var?_cell hg hv k).trans h1, h2⟩
  obtain ⟨b, off, e, hR⟩ := h2 0 (rowsP_pos k)
  cases e
  exact lt_of_cell hR.c0
end Go.Proofs.YtihiaopilnjonaaGreatDoor
namespace Go.Proofs.YtihiaopilnjonaaGreatDoor
set_option linter.unusedSimpArgs false
set_option linter.unusedVariables false
open Go.RowKit Go.ChangeShapes Go.WideShapes Go.ChangeAt
set_option maxRecDepth 100000 in
theorem of_laidW {W : World} (h : laidMetH Tryz.prog Rows.wirePartsRow.laid W) : TE7 W.heap.size W := by
  have h' : laidMet Tryz.prog (Rows.wirePartsRow.laid.filter fun x => x.2.handleName?.isNone) W ∧ handlesMet Tryz.prog (Rows.wirePartsRow.laid.filter fun x => x.2.handleName?.isSome) W := h
  obtain ⟨⟨ps, ⟨gp, tp, csp, fp, pp, qp, hgp, htp, hvp, hdp, ⟨g0, t0, cs0, f0, p0, q0, hg0, ht0, hv0, hd0, ⟨g1, t1, cs1, f1, p1, q1, hg1, ht1, hv1, hd1, ⟨g2, t2, cs2, f2, p2, q2, hg2, ht2, hv2, hd2, ⟨g3, t3, cs3, f3, p3, q3, hg3, ht3, hv3, hd3, ⟨g4, t4, cs4, f4, p4, q4, hg4, ht4, hv4, hd4, _⟩, _⟩, _⟩, _⟩, _⟩, _⟩, _, _⟩, hH⟩ := h'
  obtain rfl : 4 = gp := Option.some.inj ((show _ = some 4 by kernel_rfl).symm.trans hgp)
  obtain rfl : 335 = tp := Option.some.inj ((show _ = some 335 by kernel_rfl).symm.trans htp)
  obtain rfl : 1 = g0 := Option.some.inj ((show _ = some 1 by kernel_rfl).symm.trans hg0)
  obtain rfl : 313 = t0 := Option.some.inj ((show _ = some 313 by kernel_rfl).symm.trans ht0)
  obtain rfl : 5 = g1 := Option.some.inj ((show _ = some 5 by kernel_rfl).symm.trans hg1)
  obtain rfl : 313 = t1 := Option.some.inj ((show _ = some 313 by kernel_rfl).symm.trans ht1)
  obtain rfl : 3 = g2 := Option.some.inj ((show _ = some 3 by kernel_rfl).symm.trans hg2)
  obtain rfl : 313 = t2 := Option.some.inj ((show _ = some 313 by kernel_rfl).symm.trans ht2)
  obtain rfl : 6 = g3 := Option.some.inj ((show _ = some 6 by kernel_rfl).symm.trans hg3)
  obtain rfl : 313 = t3 := Option.some.inj ((show _ = some 313 by kernel_rfl).symm.trans ht3)
  obtain rfl : 2 = g4 := Option.some.inj ((show _ = some 2 by kernel_rfl).symm.trans hg4)
  obtain rfl : 313 = t4 := Option.some.inj ((show _ = some 313 by kernel_rfl).symm.trans ht4)
  have hET : ErrType W := by
    obtain ⟨name, u, ty, e1, e2, e3, e4, e5⟩ := hH Rows.wirePartsRow.laid[1] (List.mem_singleton.2 rfl)
    have en : name = [101, 114, 114, 111, 114] := (Option.some.inj e1).symm
    subst en
    obtain rfl : 284 = u := Option.some.inj ((show _ = some 284 by kernel_rfl).symm.trans e2)
    have hm : ty ∈ (List.range Tryz.prog.types.size).filter fun t => Tryz.prog.rowNamed t [101, 114, 114, 111, 114] := List.mem_filter.2 ⟨List.mem_range.2 e3, e4⟩
    rw [oneRow] at hm
    obtain rfl := List.mem_singleton.1 hm
    have hg : Tryz.prog.globalNamed Rows.wirePartsRow.laid[1].1 = some 0 := (by kernel_rfl)
    exact World.var?_cell hg e5 0
  exact ⟨ptab_of rfl hgp hvp hdp, ⟨tab_of (by decide) hg0 hv0 hd0, tab_of (by decide) hg3 hv3 hd3, tab_of (by decide) hg1 hv1 hd1, tab_of (by decide) hg2 hv2 hd2, tab_of (by decide) hg4 hv4 hd4⟩, hET, Nat.le_refl _, lt_of_cell hET⟩
end Go.Proofs.YtihiaopilnjonaaGreatDoor
namespace Go.Proofs.YtihiaopilnjonaaGreatDoor
open Go.RowKit
set_option linter.unusedSimpArgs false
set_option linter.unusedVariables false
def Win (o k : Nat) (x y : Rcd) : Prop := ∀ i, i < k → x (i + o) = y i
structure Sh (o k : Nat) (g g0 : GSpec) : Prop where
  key : g.key = g0.key
  must : g.must = g0.must
  empty : ∀ x y, Win o k x y → g.empty x = g0.empty y
  read : ∀ x y a, Win o k x y → (∀ e, g.read x a = .error e → g0.read y a = .error e) ∧ (∀ z, g.read x a = .ok z → ∃ z0, g0.read y a = .ok (z0, z.2) ∧ Win o k z.1 z0)
theorem Win.upd {o k : Nat} {x y : Rcd} (h : Win o k x y) (i : Nat) (d : DV) : Win o k (upd x (i + o) d) (Go.Proofs.YtihiaopilnjonaaGreatDoor.upd y i d) := fun j hj => by
  by_cases e : j = i
  · subst e; rw [upd_at, upd_at]
  · rw [upd_ne (show j + o ≠ i + o by omega), upd_ne e]; exact h j hj
theorem sh_num {o k : Nat} (s key : ByteArray) {i : Nat} (hi : i < k) : Sh o k (gnum s key (i + o)) (gnum s key i) := by
  refine ⟨rfl, rfl, fun x y h => ?_, fun x y a h => ?_⟩
  · show zeroD (x (i + o)) = zeroD (y i); rw [h i hi]
  · cases hr : rnum s a with
    | error f => simp only [gnum, hr]; exact ⟨fun e he => he, fun z hz => by cases hz⟩
    | ok w => simp only [gnum, hr]; exact ⟨fun e he => (by cases he), fun z hz => by cases hz; exact ⟨_, rfl, h.upd i _⟩⟩
theorem sh_many {α : Type} {o k : Nat} (s key : ByteArray) {i : Nat} (most : Nat) (toD : List α → DV) (rd : Nat → Except Flt (α × Nat)) (hi : i < k) : Sh o k (gmany s key (i + o) most toD rd) (gmany s key i most toD rd) := by
  refine ⟨rfl, rfl, fun x y h => ?_, fun x y a h => ?_⟩
  · show zeroD (x (i + o)) = zeroD (y i); rw [h i hi]
  · cases hr : rlist s most a with
    | error f => simp only [gmany, hr]; exact ⟨fun e he => he, fun z hz => by cases hz⟩
    | ok w =>
      cases hr2 : rmany rd w.1 w.2 [] with
      | error f => simp only [gmany, hr, hr2]; exact ⟨fun e he => he, fun z hz => by cases hz⟩
      | ok v => simp only [gmany, hr, hr2]; exact ⟨fun e he => (by cases he), fun z hz => by cases hz; exact ⟨_, rfl, h.upd i _⟩⟩
inductive ShL (o k : Nat) : List GSpec → List GSpec → Prop
  | nil : ShL o k [] []
  | cons {g g0 : GSpec} {r r0 : List GSpec} : Sh o k g g0 → ShL o k r r0 → ShL o k (g :: r) (g0 :: r0)
section
variable {o k : Nat} {gs gs0 : List GSpec}
theorem ShL.len (h : ShL o k gs gs0) : gs.length = gs0.length := by
  induction h with
  | nil => rfl
  | cons _ _ ih => simp [ih]
theorem sh_zero : Sh o k GSpec.zero GSpec.zero := ⟨rfl, rfl, fun _ _ _ => rfl, fun x y a h => ⟨fun e he => (by cases he), fun z hz => by cases hz; exact ⟨_, rfl, h⟩⟩⟩
theorem ShL.at (h : ShL o k gs gs0) : ∀ i, Sh o k (gth gs i) (gth gs0 i) := by
  induction h with
  | nil => intro i; exact sh_zero
  | cons hg _ ih =>
    intro i
    match i with
    | 0 => exact hg
    | i + 1 => exact ih i
theorem ShL.any (h : ShL o k gs gs0) : (gs.any fun g => g.must) = gs0.any fun g => g.must := by
  induction h with
  | nil => rfl
  | cons hg _ ih => simp only [List.any_cons, ih, hg.must]
theorem ShL.all (h : ShL o k gs gs0) {x y : Rcd} (hw : Win o k x y) : (gs.all fun g => g.empty x) = gs0.all fun g => g.empty y := by
  induction h with
  | nil => rfl
  | cons hg _ ih => simp only [List.all_cons, ih, hg.empty x y hw]
theorem keyIdx_sh (h : ShL o k gs gs0) (fr : Nat) (t : ByteArray) : keyIdx gs fr t = keyIdx gs0 fr t := by
  unfold keyIdx
  rw [h.len]
  congr 1
  funext i
  rw [(h.at (fr + i)).key]
theorem missing_sh (h : ShL o k gs gs0) (seen : List Nat) : missing gs seen = missing gs0 seen := by
  unfold missing
  rw [h.len]
  congr 1
  funext i
  rw [(h.at i).must]
theorem loop_sh {s : ByteArray} (h : ShL o k gs gs0) : ∀ (n fr : Nat) (x y : Rcd) (seen : List Nat) (a : Nat), Win o k x y →
    (∀ e, objLoop s gs n fr x seen a = .error e → objLoop s gs0 n fr y seen a = .error e) ∧ (∀ z, objLoop s gs n fr x seen a = .ok z → ∃ z0, objLoop s gs0 n fr y seen a = .ok (z0, z.2) ∧ Win o k z.1 z0)
  | 0, fr, x, y, seen, a, hw => ⟨fun e he => (by cases he), fun z hz => by simp only [objLoop] at hz; cases hz; exact ⟨y, rfl, hw⟩⟩
  | n + 1, fr, x, y, seen, a, hw => by
    cases ht : tkR 2 s a with
    | error f => simp only [objLoop, ht]; exact ⟨fun e he => he, fun z hz => by cases hz⟩
    | ok t =>
      cases hk : keyIdx gs0 fr t.2.1 with
      | none => simp only [objLoop, ht, keyIdx_sh h, hk]; exact ⟨fun e he => he, fun z hz => by cases hz⟩
      | some j =>
        have hr := (h.at (fr + j)).read x y t.2.2 hw
        cases hg : (gth gs (fr + j)).read x t.2.2 with
        | error f =>
          have := hr.1 f hg
          simp only [objLoop, ht, keyIdx_sh h, hk, hg, this]
          exact ⟨fun e he => he, fun z hz => by cases hz⟩
        | ok u =>
          obtain ⟨u0, h0, hw2⟩ := hr.2 u hg
          have he := (h.at (fr + j)).empty u.1 u0 hw2
          cases hem : (gth gs0 (fr + j)).empty u0 with
          | true =>
            rw [hem] at he
            simp only [objLoop, ht, keyIdx_sh h, hk, hg, h0, he, hem, if_true]
            exact ⟨fun e he => he, fun z hz => by cases hz⟩
          | false =>
            rw [hem] at he
            simp only [objLoop, ht, keyIdx_sh h, hk, hg, h0, he, hem, Bool.false_eq_true, if_false]
            exact loop_sh h n (fr + j + 1) u.1 u0 _ u.2 hw2
theorem objR_sh {s : ByteArray} (h : ShL o k gs gs0) {x y : Rcd} (a : Nat) (hw : Win o k x y) :
    (∀ e, objR s gs x a = .error e → objR s gs0 y a = .error e) ∧ (∀ z, objR s gs x a = .ok z → ∃ z0, objR s gs0 y a = .ok (z0, z.2) ∧ Win o k z.1 z0) := by
  cases ht : tkR 4 s a with
  | error f => simp only [objR, ht]; exact ⟨fun e he => he, fun z hz => by cases hz⟩
  | ok t =>
    have hl := loop_sh (s := s) h t.1.toNat 0 x y [] t.2.2 hw
    cases hg : objLoop s gs t.1.toNat 0 x [] t.2.2 with
    | error f =>
      simp only [objR, ht, hg, hl.1 f hg]
      exact ⟨fun e he => he, fun z hz => by cases hz⟩
    | ok u =>
      obtain ⟨u0, h0, hw2⟩ := hl.2 u hg
      have hm := missing_sh h u.2.1
      cases hmi : missing gs0 u.2.1 with
      | true =>
        rw [hmi] at hm
        simp only [objR, ht, hg, h0, hm, hmi, if_true]
        exact ⟨fun e he => he, fun z hz => by cases hz⟩
      | false =>
        rw [hmi] at hm
        simp only [objR, ht, hg, h0, hm, hmi, Bool.false_eq_true, if_false]
        exact ⟨fun e he => (by cases he), fun z hz => by cases hz; exact ⟨u0, rfl, hw2⟩⟩
end
theorem sig_sh (s : ByteArray) (o : Nat) : ShL o 3 (sigGs s o) (sigGs s 0) := by
  unfold sigGs gdigs
  refine .cons ?_ (.cons ?_ (.cons ?_ .nil))
  · have := sh_num (o := o) (k := 3) s ⟨#[105]⟩ (i := 0) (by decide); rw [Nat.zero_add] at this; exact this
  · have := sh_many (o := o) (k := 3) s ⟨#[112]⟩ (i := 2) 16 .strs (rdig s) (by decide); rw [Nat.add_comm 2 o] at this; exact this
  · have := sh_many (o := o) (k := 3) s ⟨#[118]⟩ (i := 1) 67 .strs (rdig s) (by decide); rw [Nat.add_comm 1 o] at this; exact this
end Go.Proofs.YtihiaopilnjonaaGreatDoor
namespace Go.Proofs.YtihiaopilnjonaaGreatDoor
open Go.RowKit
set_option linter.unusedSimpArgs false
set_option linter.unusedVariables false
def sig0 : Rcd := fun i => match i with | 1 => .strs [] | 2 => .strs [] | _ => .num 0
def digsStep (s : ByteArray) (o : Nat) (most : Int) : RStep := fun x σ => (upd x o (.strs (digsS s most σ).1), (digsS s most σ).2)
def flagStep (s : ByteArray) (o : Nat) : RStep := fun x σ => (upd x o (.flag true), failS ((tkS 0 s σ).1.1 != 1) 5 (tkS 0 s σ).2)
def putW (o k : Nat) (x y : Rcd) : Rcd := fun i => if o ≤ i ∧ i < o + k then y (i - o) else x i
def objStep (sub : Cst → Rcd × Cst) (z : Rcd → Bool) (o k : Nat) : RStep := fun x σ => (putW o k x (sub σ).1, failS (z (sub σ).1) 5 (sub σ).2)
def sigQs (s : ByteArray) : List (UInt8 × RStep) := [(105, numStep s 0), (112, digsStep s 2 16), (118, digsStep s 1 67)]
def sigS (s : ByteArray) (σ : Cst) : Rcd × Cst := objS s ⟨#[105, 112, 118]⟩ (sigQs s) sig0 σ
def sigZ (y : Rcd) : Bool := (rlayP (sigPs (y 0).n (y 1).l (y 2).l)).toList == [128]
def slotQs (s : ByteArray) : List (UInt8 × RStep) := [(103, objStep (sigS s) sigZ 2 3), (108, numStep s 0), (115, flagStep s 1)]
def slotS (s : ByteArray) (σ : Cst) : Rcd × Cst := objS s ⟨#[103, 108, 115]⟩ (slotQs s) slot0 σ
theorem sw_inv {P : Rcd → Prop} : ∀ {l : List (UInt8 × RStep)} {k : ByteArray} {x : Rcd} {σ : Cst}, (∀ p ∈ l, ∀ x σ, P x → P (p.2 x σ).1) → P x → P (sw l k x σ).1
  | [], k, x, σ, h, hx => hx
  | p :: r, k, x, σ, h, hx => by
    rw [sw]
    split
    · exact h p (List.mem_cons_self ..) x σ hx
    · exact sw_inv (fun q hq => h q (List.mem_cons_of_mem _ hq)) hx
theorem rLoop_inv {P : Rcd → Prop} {s all : ByteArray} {specs : List (UInt8 × RStep)} (h : ∀ p ∈ specs, ∀ x σ, P x → P (p.2 x σ).1) : ∀ (n : Nat) (last : ByteArray) (x : Rcd) (σ : Cst), P x → P (rLoop s all specs n last x σ).1
  | 0, last, x, σ, hx => hx
  | n + 1, last, x, .error f, hx => hx
  | n + 1, last, x, .ok a, hx => by
    rw [rLoop]
    exact rLoop_inv h n _ _ _ (sw_inv h hx)
theorem objS_inv {P : Rcd → Prop} {s all : ByteArray} {specs : List (UInt8 × RStep)} {x0 : Rcd} (h : ∀ p ∈ specs, ∀ x σ, P x → P (p.2 x σ).1) (h0 : P x0) (σ : Cst) : P (objS s all specs x0 σ).1 := rLoop_inv h _ _ _ _ h0
def DBd (s : ByteArray) : DV → Prop
  | .num n => U64i n
  | .str t => t.size ≤ s.size
  | .strs l => l.length ≤ 10240 ∧ ∀ t ∈ l, t.size ≤ s.size
  | .nums l => ∀ n ∈ l, U64i n
  | .flag _ => True
  | .revs l => ∀ r ∈ l, RvBd r
def RBd (s : ByteArray) (x : Rcd) : Prop := ∀ i, DBd s (x i)
theorem RBd.upd {s : ByteArray} {x : Rcd} (h : RBd s x) {o : Nat} {d : DV} (hd : DBd s d) : RBd s (upd x o d) := fun i => by
  by_cases e : i = o
  · subst e; rw [upd_at]; exact hd
  · rw [upd_ne e]; exact h i
theorem tkS_bd {sort : Nat} {s : ByteArray} {σ : Cst} (h5 : sort < 5) : U64i (tkS sort s σ).1.1 ∧ (tkS sort s σ).1.2.size ≤ s.size := by
  cases σ with
  | error f => exact ⟨⟨Int.le_refl 0, show (0 : Int) ≤ 18446744073709551615 by decide⟩, Nat.zero_le _⟩
  | ok a =>
    cases h : tkR sort s a with
    | error f => simp only [tkS, h]; exact ⟨⟨Int.le_refl 0, by decide⟩, Nat.zero_le _⟩
    | ok x =>
      simp only [tkS, h]
      have := tkR_bd h5 h
      exact ⟨⟨this.2.1, this.2.2.2.1⟩, this.2.2.2.2⟩
theorem digL_bd (s : ByteArray) : ∀ (n : Nat) (σ : Cst) (l : List ByteArray), (∀ t ∈ l, t.size ≤ s.size) → (digL s n σ l).1.length ≤ n + l.length ∧ ∀ t ∈ (digL s n σ l).1, t.size ≤ s.size
  | 0, σ, l, h => ⟨by simp [digL], h⟩
  | n + 1, .error f, l, h => ⟨by simp [digL], h⟩
  | n + 1, .ok a, l, h => by
    rw [digL]
    have h2 := digL_bd s n (digS s (.ok a)).2 (l ++ [(digS s (.ok a)).1]) (fun t ht => by
      rcases List.mem_append.1 ht with h1 | h1
      · exact h t h1
      · rw [List.mem_singleton.1 h1]; exact (tkS_bd (sort := 1) (by decide)).2)
    refine ⟨Nat.le_trans h2.1 (by simp; omega), h2.2⟩
theorem digsS_bd (s : ByteArray) (most : Int) (σ : Cst) : (digsS s most σ).1.length ≤ 10240 ∧ ∀ t ∈ (digsS s most σ).1, t.size ≤ s.size := by
  have h := listS_bd (s := s) (most := most) (σ := σ)
  have h2 := digL_bd s (listS s most σ).1.toNat (listS s most σ).2 [] (fun t ht => by cases ht)
  refine ⟨Nat.le_trans h2.1 (by simp; omega), h2.2⟩
theorem sig_inv (s : ByteArray) (σ : Cst) : RBd s (sigS s σ).1 ∧ Kd sig0 (sigS s σ).1 := by
  refine objS_inv (P := fun x => RBd s x ∧ Kd sig0 x) (fun p hp x σ hx => ?_) ⟨fun i => ?_, fun i => rfl⟩ σ
  · simp only [sigQs, List.mem_cons, List.not_mem_nil, or_false] at hp
    rcases hp with rfl | rfl | rfl
    · exact ⟨hx.1.upd (tkS_bd (sort := 0) (by decide)).1, hx.2.upd rfl⟩
    · exact ⟨hx.1.upd (digsS_bd s _ _), hx.2.upd rfl⟩
    · exact ⟨hx.1.upd (digsS_bd s _ _), hx.2.upd rfl⟩
  · match i with
    | 0 => exact ⟨Int.le_refl 0, show (0 : Int) ≤ 18446744073709551615 by decide⟩
    | 1 => exact ⟨Nat.zero_le _, fun t ht => by cases ht⟩
    | 2 => exact ⟨Nat.zero_le _, fun t ht => by cases ht⟩
    | i + 3 => exact ⟨Int.le_refl 0, show (0 : Int) ≤ 18446744073709551615 by decide⟩
theorem putW_in {o k : Nat} {x y : Rcd} {i : Nat} (h : i < k) : putW o k x y (i + o) = y i := by
  unfold putW
  rw [if_pos (by omega), Nat.add_sub_cancel]
theorem putW_out {o k : Nat} {x y : Rcd} {i : Nat} (h : ¬ (o ≤ i ∧ i < o + k)) : putW o k x y i = x i := by
  unfold putW
  rw [if_neg h]
end Go.Proofs.YtihiaopilnjonaaGreatDoor
namespace Go.Proofs.YtihiaopilnjonaaGreatDoor
open Go.RowKit
set_option linter.unusedSimpArgs false
set_option linter.unusedVariables false
theorem digs_many (s : ByteArray) : ∀ (n a : Nat) (l : List ByteArray),
    match rmany (rdig s) n a l with
    | .error e => (digL s n (.ok a) l).2 = .error e
    | .ok y => digL s n (.ok a) l = (y.1, .ok y.2)
  | 0, a, l => rfl
  | n + 1, a, l => by
    rw [rmany, digL]
    cases h : tkR 1 s a with
    | error f =>
      have h1 : rdig s a = .error f := by simp only [rdig, h]
      have h2 : (digS s (.ok a)).2 = .error f := by simp only [digS, tkS, h, failS]
      rw [h1, h2, digL_bad]
    | ok x =>
      by_cases hz : x.2.1.size = 32
      · have h1 : rdig s a = .ok (x.2.1, x.2.2) := by simp only [rdig, h, hz, if_true]
        have h2 : digS s (.ok a) = (x.2.1, .ok x.2.2) := by simp only [digS, tkS, h, failS, hz, decide_true, Bool.not_true, Bool.false_eq_true, if_false]
        rw [h1, h2]
        exact digs_many s n x.2.2 (l ++ [x.2.1])
      · have h1 : rdig s a = .error (5, 0) := by simp only [rdig, h, hz, if_false]
        have h2 : (digS s (.ok a)).2 = .error (5, 0) := by simp only [digS, tkS, h, failS, hz, decide_false, Bool.not_false, if_true]
        rw [h1, h2, digL_bad]
theorem rmany_len {α : Type} {rd : Nat → Except Flt (α × Nat)} : ∀ {n a : Nat} {l : List α} {y : List α × Nat}, rmany rd n a l = .ok y → y.1.length = n + l.length
  | 0, a, l, y, h => by simp only [rmany] at h; cases h; simp
  | n + 1, a, l, y, h => by
    rw [rmany] at h
    split at h
    · cases h
    · rw [rmany_len h]; simp; omega
theorem list_err {s : ByteArray} {most a : Nat} {f : Flt} (h : rlist s most a = .error f) : (listS s (most : Int) (.ok a)).2 = .error f := by
  unfold rlist at h
  unfold listS
  cases ht : tkR 3 s a with
  | error g => rw [ht] at h; cases h; simp only [tkS, ht, failS]
  | ok x =>
    rw [ht] at h
    simp only at h
    split at h
    · cases h
    · next hn =>
      cases h
      have : decide ((most : Int) < x.1) = true := decide_eq_true (by omega)
      simp only [tkS, ht, failS, this, if_true]
theorem list_ok {s : ByteArray} {most a : Nat} {x : Nat × Nat} (h : rlist s most a = .ok x) : (listS s (most : Int) (.ok a)).1 = (x.1 : Int) ∧ (listS s (most : Int) (.ok a)).2 = if x.1 = 0 then .error (5, 0) else .ok x.2 := by
  unfold rlist at h
  unfold listS
  cases ht : tkR 3 s a with
  | error g => rw [ht] at h; cases h
  | ok y =>
    have hb := tkR_bd (by decide) ht
    rw [ht] at h
    simp only at h
    split at h
    · next hn =>
      cases h
      have h1 : decide ((most : Int) < y.1) = false := decide_eq_false (by omega)
      simp only [tkS, ht, failS, h1, Bool.false_eq_true, if_false]
      refine ⟨by omega, ?_⟩
      by_cases hz : y.1 = 0
      · rw [hz]; rfl
      · have h2 : (y.1 == 0) = false := by simp [hz]
        rw [h2, if_neg (by decide), if_neg (by omega)]
    · cases h
theorem digs_step {x0 : Rcd} (s key : ByteArray) (o most : Nat) : StepOk x0 (gdigs s key o most) (digsStep s o (most : Int)) := by
  refine ⟨fun x a hf => ?_, fun x e => ?_⟩
  · cases h : rlist s most a with
    | error e =>
      have h1 : (gdigs s key o most).read x a = .error e := by simp only [gdigs, gmany, h]
      rw [h1]
      show (digL s (listS s (most : Int) (.ok a)).1.toNat (listS s (most : Int) (.ok a)).2 []).2 = .error e
      rw [list_err h, digL_bad]
    | ok k =>
      obtain ⟨l1, l2⟩ := list_ok h
      have hm := digs_many s k.1 k.2 []
      cases hr : rmany (rdig s) k.1 k.2 [] with
      | error e =>
        have h1 : (gdigs s key o most).read x a = .error e := by simp only [gdigs, gmany, h, hr]
        rw [h1]
        show (digL s (listS s (most : Int) (.ok a)).1.toNat (listS s (most : Int) (.ok a)).2 []).2 = .error e
        have hk : k.1 ≠ 0 := fun e0 => by rw [e0] at hr; simp only [rmany] at hr; cases hr
        rw [l1, l2, if_neg hk, Int.toNat_natCast]
        rw [hr] at hm
        exact hm
      | ok y =>
        have h1 : (gdigs s key o most).read x a = .ok (upd x o (.strs y.1), y.2) := by simp only [gdigs, gmany, h, hr]
        have hl := rmany_len hr
        have he : (gdigs s key o most).empty (upd x o (.strs y.1)) = (y.1.length == 0) := by show zeroD (upd x o (.strs y.1) o) = _; rw [upd_at]; rfl
        rw [h1]
        show if (gdigs s key o most).empty (upd x o (.strs y.1)) = true then _ else _
        rw [he]
        by_cases hk : k.1 = 0
        · rw [hk] at hl
          rw [show (y.1.length == 0) = true by rw [hl]; rfl, if_pos rfl]
          show (digL s (listS s (most : Int) (.ok a)).1.toNat (listS s (most : Int) (.ok a)).2 []).2 = .error (5, 0)
          rw [l1, l2, if_pos hk, digL_bad]
        · have hn : y.1.length ≠ 0 := by rw [hl]; simp; exact hk
          rw [show (y.1.length == 0) = false by simp only [beq_eq_false_iff_ne]; exact hn, if_neg (by decide)]
          rw [hr] at hm
          have hm' : digL s k.1 (.ok k.2) [] = (y.1, .ok y.2) := hm
          show (upd x o (.strs (digL s (listS s (most : Int) (.ok a)).1.toNat (listS s (most : Int) (.ok a)).2 []).1), (digL s (listS s (most : Int) (.ok a)).1.toNat (listS s (most : Int) (.ok a)).2 []).2) = _
          rw [l1, l2, if_neg hk, Int.toNat_natCast, hm']
  · show (digL s (listS s (most : Int) (.error e)).1.toNat (listS s (most : Int) (.error e)).2 []).2 = .error e
    have : (listS s (most : Int) (.error e)).2 = .error e := rfl
    rw [this, digL_bad]
theorem flag_step {x0 : Rcd} (s key : ByteArray) (o : Nat) : StepOk x0 (gflag s key o) (flagStep s o) := by
  refine ⟨fun x a hf => ?_, fun x e => rfl⟩
  cases h : tkR 0 s a with
  | error e =>
    have h1 : (gflag s key o).read x a = .error e := by simp only [gflag, rnum, h]
    rw [h1]
    simp only [flagStep, tkS, h, failS]
  | ok y =>
    have h1 : (gflag s key o).read x a = .ok (upd x o (.flag (y.1 == 1)), y.2.2) := by simp only [gflag, rnum, h]
    rw [h1]
    simp only [gflag, upd_at, zeroD, flagStep, tkS, h, failS]
    by_cases hz : y.1 = 1
    · rw [hz]; rfl
    · have h2 : (y.1 == 1) = false := by simp [hz]
      have h3 : (y.1 != 1) = true := by simp [hz]
      rw [h2, h3]; rfl
structure SameR (s : ByteArray) (gs0 : List GSpec) (y0 : Rcd) (sub : Cst → Rcd × Cst) : Prop where
  good : ∀ a, (∀ e, objR s gs0 y0 a = .error e → (sub (.ok a)).2 = .error e) ∧ (∀ y, objR s gs0 y0 a = .ok y → sub (.ok a) = (y.1, .ok y.2))
  bad : ∀ e, (sub (.error e)).2 = .error e
theorem obj_step {x0 y0 : Rcd} {s key : ByteArray} {gs gs0 : List GSpec} {o k : Nat} {sub : Cst → Rcd × Cst} {z : Rcd → Bool} (hsh : ShL o k gs gs0) (hs : SameR s gs0 y0 sub) (hfr : ∀ g ∈ gs, g.Frames) (hoffs : ∀ i, i ∈ gs.flatMap (fun g => g.offs) ↔ o ≤ i ∧ i < o + k) (hw0 : Win o k x0 y0)
    (hz : ∀ a y, objR s gs0 y0 a = .ok y → z y.1 = gs0.all fun g => g.empty y.1) : StepOk x0 (gobj s key gs) (objStep sub z o k) := by
  refine ⟨fun x a hf => ?_, fun x e => ?_⟩
  · have hw : Win o k x y0 := fun i hi => by
      have := hf (i + o) ((hoffs (i + o)).2 ⟨by omega, by omega⟩)
      rw [this]; exact hw0 i hi
    have h := objR_sh (s := s) hsh a hw
    show match objR s gs x a with | .error e => _ | .ok y => _
    cases hr : objR s gs x a with
    | error e =>
      show failS _ 5 (sub (.ok a)).2 = .error e
      rw [(hs.good a).1 e (h.1 e hr)]; rfl
    | ok u =>
      obtain ⟨u0, h0, hw2⟩ := h.2 u hr
      have hsub := (hs.good a).2 (u0, u.2) h0
      have hem : (gobj s key gs).empty u.1 = z u0 := by
        rw [hz a (u0, u.2) h0]
        exact hsh.all hw2
      show if (gobj s key gs).empty u.1 = true then (objStep sub z o k x (.ok a)).2 = .error (5, 0) else objStep sub z o k x (.ok a) = (u.1, .ok u.2)
      unfold objStep
      rw [hsub, hem]
      cases hzz : z u0 with
      | true => rw [if_pos rfl]; rfl
      | false =>
        rw [if_neg (by decide)]
        show (putW o k x u0, (.ok u.2 : Cst)) = (u.1, .ok u.2)
        have : putW o k x u0 = u.1 := funext fun i => by
          by_cases e : o ≤ i ∧ i < o + k
          · obtain ⟨j, rfl⟩ : ∃ j, i = j + o := ⟨i - o, by omega⟩
            rw [putW_in (by omega)]; exact (hw2 j (by omega)).symm
          · rw [putW_out e]
            exact (gobj_frames (key := key) hfr x a u hr i (fun hi => e ((hoffs i).1 hi))).symm
        rw [this]
  · show failS _ 5 (sub (.error e)).2 = .error e
    rw [hs.bad e]; rfl
theorem no_miss {gs : List GSpec} (h : ∀ i, (gth gs i).must = false) (seen : List Nat) : missing gs seen = false := by
  unfold missing
  rw [List.any_eq_false]
  intro i _
  rw [h i]; simp
theorem objS_bad (s all : ByteArray) (specs : List (UInt8 × RStep)) (x0 : Rcd) (e : Flt) : (objS s all specs x0 (.error e)).2 = .error e := by
  unfold objS pairsS
  simp only [tkS]
  rw [rLoop_bad]
theorem failS_no (k : Int) (σ : Cst) : failS false k σ = σ := by cases σ <;> rfl
theorem sameR_of {x0 : Rcd} {s all : ByteArray} {specs : List (UInt8 × RStep)} {gs : List GSpec} (h : SpecsOk x0 all specs gs) (hG : GOk x0 gs) (hm : ∀ i, (gth gs i).must = false) : SameR s gs x0 (objS s all specs x0) := by
  refine ⟨fun a => ?_, objS_bad s all specs x0⟩
  have ht : ∀ σ, thingS s all specs (fun _ => false) x0 σ = objS s all specs x0 σ := fun σ => by unfold thingS; rw [failS_no]
  have := thing_same (s := s) (miss := fun _ => false) h hG (fun n a y _ => no_miss hm y.2.1) a
  rw [ht] at this
  refine ⟨fun e he => ?_, fun y hy => ?_⟩
  · rw [he] at this; exact this
  · rw [hy] at this; exact this
theorem gth_nil {l : List GSpec} {i : Nat} (h : l.length ≤ i) : gth l i = GSpec.zero := by unfold gth; rw [List.getD_eq_getElem?_getD, List.getElem?_eq_none h]; rfl
theorem sig_specs (s : ByteArray) : SpecsOk sig0 ⟨#[105, 112, 118]⟩ (sigQs s) (sigGs s 0) := by
  refine specsOk_of [105, 112, 118] rfl rfl rfl (by decide) fun i hi => ?_
  match i, hi with
  | 0, _ => exact num_step _ _ _
  | 1, _ => exact digs_step _ _ _ 16
  | 2, _ => exact digs_step _ _ _ 67
  | i + 3, hi => exact absurd hi (by simp [sigGs]; try omega)
theorem sig_sameR (s : ByteArray) : SameR s (sigGs s 0) sig0 (sigS s) :=
  sameR_of (sig_specs s) (SigOk (x0 := sig0) s 0 ⟨rfl, rfl, rfl⟩) fun i => by
    match i with
    | 0 | 1 | 2 => rfl
    | i + 3 => rw [gth_nil (by simp [sigGs])]; rfl
theorem sigZ_eq {s : ByteArray} {y : Rcd} (h : RBd s y) (hk : Kd sig0 y) : sigZ y = (sigGs s 0).all fun g => g.empty y := by
  obtain ⟨n, e0⟩ := hk.num (o := 0) rfl
  obtain ⟨l1, e1⟩ := hk.strs (o := 1) rfl
  obtain ⟨l2, e2⟩ := hk.strs (o := 2) rfl
  have b1 : l1.length ≤ 10240 := by have := h 1; rw [e1] at this; exact this.1
  have b2 : l2.length ≤ 10240 := by have := h 2; rw [e2] at this; exact this.1
  unfold sigZ
  rw [e0, e1, e2]
  show ((rlayP (sigPs n l1 l2)).toList == [128]) = _
  have ha : ((sigGs s 0).all fun g => g.empty y) = ((sigSpecs n l1 l2).all fun f => f.empty) := by
    show (zeroD (y 0) && (zeroD (y 2) && (zeroD (y 1) && true))) = _
    rw [e0, e1, e2]
    show (n == 0 && (l2.length == 0 && (l1.length == 0 && true))) = (n == 0 && (decide (len l2 = 0) && (decide (len l1 = 0) && true)))
    rfl
  rw [ha]
  have h2 := rlay_small (sigPs n l1 l2) (by simp [sigPs]) (fun p hp => by
    simp only [sigPs, List.mem_cons, List.not_mem_nil, or_false] at hp
    rcases hp with rfl | rfl | rfl <;> (show (1 : Nat) < 65536; decide))
  have h3 := all_empty (sigSpecs n l1 l2)
  have h4 := fps_kept (sig_same n l1 l2 (by rw [len_eq]; omega) (by rw [len_eq]; omega))
  have h5 : ((rlayP (sigPs n l1 l2)).toList == [128]) = true ↔ rlayP (sigPs n l1 l2) = ⟨#[128]⟩ := by
    rw [beq_iff_eq]
    constructor
    · intro e; exact toList_same (by rw [e, ByteArray.toList_eq]; rfl)
    · intro e; rw [e, ByteArray.toList_eq]
  rw [Bool.eq_iff_iff, h5, h2, ← h4, h3]
theorem slot_specs (s : ByteArray) : SpecsOk slot0 ⟨#[103, 108, 115]⟩ (slotQs s) (slotGs s 0) := by
  refine specsOk_of [103, 108, 115] rfl rfl rfl (by decide) fun i hi => ?_
  match i, hi with
  | 0, _ =>
    refine obj_step (key := ⟨#[103]⟩) (sig_sh s 2) (sig_sameR s) (SigOk (x0 := slot0) s 2 ⟨rfl, rfl, rfl⟩).frames (fun i => ?_) (fun i hi => by match i, hi with | 0, _ => rfl | 1, _ => rfl | 2, _ => rfl) (fun a y hy => ?_)
    · show i ∈ [2, 4, 3] ↔ _
      simp only [List.mem_cons, List.not_mem_nil, or_false]
      omega
    · have h := sig_inv s (.ok a)
      rw [((sig_sameR s).good a).2 y hy] at h
      exact sigZ_eq h.1 h.2
  | 1, _ => exact num_step _ _ _
  | 2, _ => exact flag_step _ _ _
  | i + 3, hi => exact absurd hi (by simp [slotGs]; try omega)
theorem slot_sameR (s : ByteArray) : SameR s (slotGs s 0) slot0 (slotS s) :=
  sameR_of (slot_specs s) (SlotOk (x0 := slot0) s 0 ⟨rfl, rfl, ⟨rfl, rfl, rfl⟩⟩) fun i => by
    match i with
    | 0 | 1 | 2 => rfl
    | i + 3 => rw [gth_nil (by simp [slotGs])]; rfl
end Go.Proofs.YtihiaopilnjonaaGreatDoor
namespace Go.Proofs.YtihiaopilnjonaaGreatDoor
open Go.RowKit
set_option linter.unusedSimpArgs false
set_option linter.unusedVariables false
def cut40 (x : ByteArray) : ByteArray := x.extract 0 (min x.size 40)
def textsP (l : List ByteArray) (n : Nat) : List ByteArray := (l.take n).map cut40
theorem cut40_size (x : ByteArray) : (cut40 x).size ≤ 40 := by unfold cut40; rw [ByteArray.size_extract]; omega
theorem textsP_len (l : List ByteArray) (n : Nat) : len (textsP l n) = min (len l) n := by unfold textsP; simp only [len, List.length_map, List.length_take]; omega
theorem textsP_sz (l : List ByteArray) (n i : Nat) (h : i < len (textsP l n)) : (sth (textsP l n) i).size ≤ 40 := by
  have h' : i < ((l.take n).map cut40).length := h
  show (sth ((l.take n).map cut40) i).size ≤ 40
  rw [sth_eq _ i h', List.getElem_map]; exact cut40_size _
def CWS (w : World) : CP := fun b o x => w.cell? ⟨b, o, none⟩ = some x ∧ ∃ cs, w.heap[b]? = some (.cells cs 9 (0, 0))
theorem cws_keep {w w' : World} (h : ∀ (b : Nat) (cs : Array Value), w.heap[b]? = some (.cells cs 9 (0, 0)) → w'.heap[b]? = w.heap[b]?) (b o : Nat) (x : Value) (hc : CWS w b o x) : CWS w' b o x := by
  obtain ⟨h1, cs, h2⟩ := hc
  have e := h b cs h2
  refine ⟨?_, cs, e.trans h2⟩
  have : w'.cell? ⟨b, o, none⟩ = w.cell? ⟨b, o, none⟩ := by unfold World.cell?; rw [e]
  rw [this]; exact h1
theorem StrsC.wkeep {w w' : World} {a : Option Addr} {l : List ByteArray} (hs : StrsC (CWS w) a l) (h : ∀ (b : Nat) (cs : Array Value), w.heap[b]? = some (.cells cs 9 (0, 0)) → w'.heap[b]? = w.heap[b]?) : StrsC (CWS w') a l := hs.imp (cws_keep h)
theorem StrsC.wlow {w w' : World} {a : Option Addr} {l : List ByteArray} (hs : StrsC (CWS w) a l) (hb : Below w.heap.size w w') : StrsC (CWS w') a l := hs.wkeep fun b cs h => hb.block b (lt_of_block h)
theorem StrsC.wset {w : World} {t j : Nat} {cs : Array Value} {T : TypeId} {fr : Nat × Nat} {a : Option Addr} {l : List ByteArray} (hs : StrsC (CWS w) a l) (h : w.heap[t]? = some (.cells cs T fr)) (hT : T ≠ 9) (v : Value) : StrsC (CWS (w.setCell ⟨t, j, none⟩ v)) a l := hs.wkeep fun b cs' hb => Below.heap_setCell _ _ _ _ (show b ≠ t from fun e => by subst e; rw [h] at hb; cases hb; exact hT rfl)
theorem strs_of_own {w : World} {base n : Nat} {v : Value} {l : List ByteArray} (h : w.ownsRow base 9 1 v n (l.map Value.string)) : ∃ a c, v = .slice a (len l) c ∧ StrsC (CWS w) a l ∧ ∀ b off, a = some ⟨b, off, none⟩ → base ≤ b := by
  obtain ⟨a, c, rfl, h1⟩ := own_txs h
  refine ⟨a, c, rfl, fun i hi => ?_, fun b off e => (h.lt b (by rw [e]; rfl)).1⟩
  obtain ⟨b, off, rfl, hc⟩ := h1 i hi
  obtain ⟨cs, hcs⟩ := own_type h b rfl
  exact ⟨b, off, rfl, hc, cs, hcs⟩
def TextsIs (l : List ByteArray) (w : World) (e : Ending) (w' : World) : Prop := ∃ a' c', e = .returned (.slice a' (len l) c') ∧ StrsC (CWS w') a' l ∧ (∀ b off, a' = some ⟨b, off, none⟩ → w.heap.size ≤ b) ∧ Below w.heap.size w w'
set_option maxRecDepth 100000 in
set_option maxHeartbeats 4000000 in
theorem texts_any (a : Option Addr) (c : Nat) (l : List ByteArray) (n : Nat) (w : World) (hl : StrsC (CW w) a l) (hn : len l ≤ 9223372036854775807) (hk : n ≤ 1000) :
    Calls Tryz.prog 73 #[.slice a (len l) c, .int .i64 n] w (TextsIs (textsP l n) w) := by
  have HL := Lib.hid hl
  clear hl
  obtain ⟨N, hN⟩ : ∃ N, min (len l) n = N := ⟨_, rfl⟩
  have HTL : Hid (textsP l N = textsP l n) := Lib.hid (by
    unfold textsP
    rw [← hN]
    by_cases h : len l ≤ n
    · rw [Nat.min_eq_left h, List.take_of_length_le (by rw [len_eq]; exact Nat.le_refl _), List.take_of_length_le (by rw [← len_eq]; exact h)]
    · rw [Nat.min_eq_right (by omega)])
  obtain ⟨i0, hi, hz0, hz1, hz2⟩ := info_parts info_str
  have hN1 : N ≤ len l ∧ N ≤ n ∧ (N = len l ∨ N = n) := by omega
  clear hN
  go_enter Tryz.func73, Tryz.ntmps73
  go_wp2
  go_loopg [5, 6] N (fun g lv i wr => ∃ (m : Nat) (acc : List ByteArray), g + m = N ∧ i = .int .i64 m ∧ Hid (acc = textsP l m) ∧ Hid (Below w.heap.size w wr) ∧ Hid (wr.ownsRow w.heap.size 9 1 lv m (acc.map Value.string)))
  case atStart => exact ⟨0, [], rfl, rfl, rfl, Below.refl _ _, World.ownsRow_nil _ _ _ _⟩
  case round =>
    obtain ⟨m, acc, hm, rfl, HA, HB, HO⟩ := hrel
    by_cases hlt : m < N
    · have i1 : (m : Int) < len l := by omega
      have i2 : (m : Int) < n := by omega
      obtain ⟨gb, go, rfl, hc⟩ := HL.out m (by omega)
      have hcx : wr.cell? ⟨gb, go + m, none⟩ = some (.string (sth l m)) := (HB.out.cell (p := ⟨gb, go + m, none⟩) (lt_of_cell hc)).trans hc
      have hgw := lt_of_cell hc
      have hnx : some gb ≠ u5.ownBlock := own_apart_lt HO.out hgw
      have HAN : Hid (textsP l (m + 1) = acc ++ [cut40 (sth l m)]) := Lib.hid (by
        have hml : m < l.length := by have := len_eq l; omega
        rw [HA.out]; unfold textsP
        rw [List.take_succ_eq_append_getElem hml, List.map_append, sth_eq l m hml]; rfl)
      generalize sth l m = x at hcx HAN
      obtain ⟨k, hk2⟩ : ∃ k, min x.size 40 = k := ⟨_, rfl⟩
      have mn : min (x.size : Int) 40 = (k : Int) := by rw [← hk2]; omega
      have sl : k ≤ x.size := by rw [← hk2]; exact Nat.min_le_left _ _
      obtain ⟨y, hy0⟩ : ∃ y, x.extract 0 k = y := ⟨_, rfl⟩
      have HAN : Hid (textsP l (m + 1) = acc ++ [y]) := Lib.hid (by rw [HAN.out, ← hy0, ← hk2]; rfl)
      clear hk2 hc
      have cx := hcx
      clear hcx
      have hwr : w.heap.size ≤ wr.heap.size := HB.out.size
      go_upto_region 5 with fail
      refine wp_region_tail 14 13 (u5.ownBlock) (phis [fun u _ => u = (u5), fun u _ => u = (.slice (some ⟨gb, go, none⟩) (len l) c), fun u _ => u = (.int .i64 m), fun u _ => u = (.pointer (some ⟨gb, go + m, none⟩)), fun u _ => u = (.string x), fun u _ => u = (.slice (some ⟨gb, go, none⟩) (len l) c), fun u _ => u = (.int .i64 m), fun u _ => u = (.pointer (some ⟨gb, go + m, none⟩)), fun u _ => u = (.string x), fun u _ => u = (.int .i64 x.size), fun u _ => u = (.int .i64 k), fun u _ => u = (.string y), fun u w' => ∃ b, u = .slice (some ⟨b, 0, none⟩) 1 1 ∧ some b ≠ u5.ownBlock ∧ w'.heap[b]? = some (.cells #[.string y] 9 (0, 0)), fun u w' => w'.ownsRow w.heap.size 9 1 u (m + 1) ((acc.map Value.string) ++ [.string y])]) rfl (by kernel_rfl) (by kernel_rfl) (mono_of ⟨mono_eq, mono_eq, mono_eq, mono_eq, mono_eq, mono_eq, mono_eq, mono_eq, mono_eq, mono_eq, mono_eq, mono_eq, ?m12, ?m13, trivial⟩) (steps_of 14 ⟨?s0, ?s1, ?s2, ?s3, ?s4, ?s5, ?s6, ?s7, ?s8, ?s9, ?s10, ?s11, ?s12, ?s13, trivial⟩) ?_
      case m12 =>
        exact ⟨fun u w1 w' h ⟨b, h1, hb, hb'⟩ => ⟨b, h1, hb, ext_block h hb'⟩, fun _ u w1 w' h ⟨b, h1, hb, hb'⟩ => ⟨b, h1, hb, extB_block h hb hb'⟩⟩
      case m13 =>
        exact ⟨fun u w1 w' h hu => own_below hu h, fun hn => absurd rfl hn⟩
      case s0 =>
        refine step_val (v := (u5)) (fun av wv hE hS hO hD => ?_) (fun _ => rfl)
        have h5 : av.eval (.tmp 5) = (u5) := hO.2.2 5 rfl
        have f5 := (ev_form av 5).symm.trans h5
        refine ⟨rfl, ?_⟩
        simp [go_sem, f5, i1, mn, sl, hy0]
      case s1 =>
        refine step_val (v := (.slice (some ⟨gb, go, none⟩) (len l) c)) (fun av wv hE hS hO hD => ?_) (fun _ => rfl)
        have h0 : av.eval (.tmp 0) = (.slice (some ⟨gb, go, none⟩) (len l) c) := hO.2.2 0 rfl
        have f0 := (ev_form av 0).symm.trans h0
        refine ⟨rfl, ?_⟩
        simp [go_sem, f0, i1, mn, sl, hy0]
      case s2 =>
        refine step_val (v := (.int .i64 m)) (fun av wv hE hS hO hD => ?_) (fun _ => rfl)
        have h6 : av.eval (.tmp 6) = (.int .i64 m) := hO.2.2 6 rfl
        have f6 := (ev_form av 6).symm.trans h6
        refine ⟨rfl, ?_⟩
        simp [go_sem, f6, i1, mn, sl, hy0]
      case s3 =>
        refine step_val (v := (.pointer (some ⟨gb, go + m, none⟩))) (fun av wv hE hS hO hD => ?_) (fun _ => rfl)
        have d19 : av.eval (.tmp 19) = (.slice (some ⟨gb, go, none⟩) (len l) c) := hD.1 rfl _ rfl
        have f19 := (ev_form av 19).symm.trans d19
        have d20 : av.eval (.tmp 20) = (.int .i64 m) := hD.2.1 rfl _ rfl
        have f20 := (ev_form av 20).symm.trans d20
        refine ⟨rfl, ?_⟩
        simp [go_sem, f19, f20, i1, mn, sl, hy0]
      case s4 =>
        refine step_val (v := (.string x)) (fun av wv hE hS hO hD => ?_) (fun _ => rfl)
        have d21 : av.eval (.tmp 21) = (.pointer (some ⟨gb, go + m, none⟩)) := hD.1 rfl _ rfl
        have f21 := (ev_form av 21).symm.trans d21
        have cx := extB_cell hE hnx cx
        refine ⟨rfl, ?_⟩
        simp [go_sem, f21, cx, i1, mn, sl, hy0]
      case s5 =>
        refine step_val (v := (.slice (some ⟨gb, go, none⟩) (len l) c)) (fun av wv hE hS hO hD => ?_) (fun _ => rfl)
        have h0 : av.eval (.tmp 0) = (.slice (some ⟨gb, go, none⟩) (len l) c) := hO.2.2 0 rfl
        have f0 := (ev_form av 0).symm.trans h0
        refine ⟨rfl, ?_⟩
        simp [go_sem, f0, i1, mn, sl, hy0]
      case s6 =>
        refine step_val (v := (.int .i64 m)) (fun av wv hE hS hO hD => ?_) (fun _ => rfl)
        have h6 : av.eval (.tmp 6) = (.int .i64 m) := hO.2.2 6 rfl
        have f6 := (ev_form av 6).symm.trans h6
        refine ⟨rfl, ?_⟩
        simp [go_sem, f6, i1, mn, sl, hy0]
      case s7 =>
        refine step_val (v := (.pointer (some ⟨gb, go + m, none⟩))) (fun av wv hE hS hO hD => ?_) (fun _ => rfl)
        have d23 : av.eval (.tmp 23) = (.slice (some ⟨gb, go, none⟩) (len l) c) := hD.1 rfl _ rfl
        have f23 := (ev_form av 23).symm.trans d23
        have d24 : av.eval (.tmp 24) = (.int .i64 m) := hD.2.1 rfl _ rfl
        have f24 := (ev_form av 24).symm.trans d24
        refine ⟨rfl, ?_⟩
        simp [go_sem, f23, f24, i1, mn, sl, hy0]
      case s8 =>
        refine step_val (v := (.string x)) (fun av wv hE hS hO hD => ?_) (fun _ => rfl)
        have d25 : av.eval (.tmp 25) = (.pointer (some ⟨gb, go + m, none⟩)) := hD.1 rfl _ rfl
        have f25 := (ev_form av 25).symm.trans d25
        have cx := extB_cell hE hnx cx
        refine ⟨rfl, ?_⟩
        simp [go_sem, f25, cx, i1, mn, sl, hy0]
      case s9 =>
        refine step_val (v := (.int .i64 x.size)) (fun av wv hE hS hO hD => ?_) (fun _ => rfl)
        have d26 : av.eval (.tmp 26) = (.string x) := hD.1 rfl _ rfl
        have f26 := (ev_form av 26).symm.trans d26
        refine ⟨rfl, ?_⟩
        simp [go_sem, f26, i1, mn, sl, hy0]
      case s10 =>
        refine step_val (v := (.int .i64 k)) (fun av wv hE hS hO hD => ?_) (fun _ => rfl)
        have d27 : av.eval (.tmp 27) = (.int .i64 x.size) := hD.1 rfl _ rfl
        have f27 := (ev_form av 27).symm.trans d27
        refine ⟨rfl, ?_⟩
        simp [go_sem, f27, i1, mn, sl, hy0]
      case s11 =>
        refine step_val (v := (.string y)) (fun av wv hE hS hO hD => ?_) (fun _ => rfl)
        have d22 : av.eval (.tmp 22) = (.string x) := hD.1 rfl _ rfl
        have f22 := (ev_form av 22).symm.trans d22
        have d28 : av.eval (.tmp 28) = (.int .i64 k) := hD.2.1 rfl _ rfl
        have f28 := (ev_form av 28).symm.trans d28
        refine ⟨rfl, ?_⟩
        simp [go_sem, f22, f28, i1, mn, sl, hy0]
      case s12 =>
        refine step_wp (fun av wv hE hS hO hD => ?_)
        have d29 : av.eval (.tmp 29) = (.string y) := hD.1 rfl _ rfl
        have f29 := (ev_form av 29).symm.trans d29
        refine ⟨rfl, ?_⟩
        refine wp_of_run (v := .slice (some ⟨wv.heap.size, 0, none⟩) 1 1) (w' := wv.alloc (.cells #[.string y] 9)) (by simp [go_sem, f29]) ⟨_, rfl, es_of_ext (balloc (Ext_refl _) _), wv.heap.size, rfl, ?_, heap_alloc_new _ _⟩
        exact own_apart_ge HO.out (by have := hE.size; simp at this; omega)
      case s13 =>
        refine step_wp (fun av wv hE hS hO hD => ?_)
        have d18 : av.eval (.tmp 18) = (u5) := hD.1 rfl _ rfl
        have f18 := (ev_form av 18).symm.trans d18
        have d30 : (fun u w' => ∃ b, u = .slice (some ⟨b, 0, none⟩) 1 1 ∧ some b ≠ u5.ownBlock ∧ w'.heap[b]? = some (.cells #[.string y] 9 (0, 0))) (av.eval (.tmp 30)) wv := hD.2.1 rfl _ rfl
        refine ⟨rfl, ?_⟩
        obtain ⟨b19, h19, hb19, hc19⟩ := d30
        have hown1 : wv.ownsRow w.heap.size 9 1 u5 m (acc.map Value.string) := own_below (w := wr.drew) HO.out (hS rfl)
        refine wp_append_lies wv _ _ _ rfl w.heap.size 9 i0 (.string ⟨#[]⟩) 1 16 Tryz.underlying26 hi hz0 hz1 hz2 rfl (by decide) u5 m _ d18 hown1 ⟨b19, 0, none⟩ 1 1 [.string y] (by exact h19) rfl (World.news_of_block hc19) (by intro u hu; simp at hu; rcases hu with rfl <;> rfl) (by decide) (by unfold maxLen; omega) (by omega) (by have := hE.size; simp at this; omega) _ rfl ?_
        intro g2 cap2 w2 hown2 hgrow hat hlt2
        exact ⟨_, rfl, es_sp hgrow, hown2⟩
      intro a' w' hE hO hall
      have hA := act_of_outer (ds := [18, 19, 20, 21, 22, 23, 24, 25, 26, 27, 28, 29, 30, 31]) rfl hO (by kernel_rfl)
      have e18 : (fun u _ => u = (u5)) (a'.eval (.tmp 18)) w' := hall.1 _ rfl
      have e19 : (fun u _ => u = (.slice (some ⟨gb, go, none⟩) (len l) c)) (a'.eval (.tmp 19)) w' := hall.2.1 _ rfl
      have e20 : (fun u _ => u = (.int .i64 m)) (a'.eval (.tmp 20)) w' := hall.2.2.1 _ rfl
      have e21 : (fun u _ => u = (.pointer (some ⟨gb, go + m, none⟩))) (a'.eval (.tmp 21)) w' := hall.2.2.2.1 _ rfl
      have e22 : (fun u _ => u = (.string x)) (a'.eval (.tmp 22)) w' := hall.2.2.2.2.1 _ rfl
      have e23 : (fun u _ => u = (.slice (some ⟨gb, go, none⟩) (len l) c)) (a'.eval (.tmp 23)) w' := hall.2.2.2.2.2.1 _ rfl
      have e24 : (fun u _ => u = (.int .i64 m)) (a'.eval (.tmp 24)) w' := hall.2.2.2.2.2.2.1 _ rfl
      have e25 : (fun u _ => u = (.pointer (some ⟨gb, go + m, none⟩))) (a'.eval (.tmp 25)) w' := hall.2.2.2.2.2.2.2.1 _ rfl
      have e26 : (fun u _ => u = (.string x)) (a'.eval (.tmp 26)) w' := hall.2.2.2.2.2.2.2.2.1 _ rfl
      have e27 : (fun u _ => u = (.int .i64 x.size)) (a'.eval (.tmp 27)) w' := hall.2.2.2.2.2.2.2.2.2.1 _ rfl
      have e28 : (fun u _ => u = (.int .i64 k)) (a'.eval (.tmp 28)) w' := hall.2.2.2.2.2.2.2.2.2.2.1 _ rfl
      have e29 : (fun u _ => u = (.string y)) (a'.eval (.tmp 29)) w' := hall.2.2.2.2.2.2.2.2.2.2.2.1 _ rfl
      have e30 : (fun u w' => ∃ b, u = .slice (some ⟨b, 0, none⟩) 1 1 ∧ some b ≠ u5.ownBlock ∧ w'.heap[b]? = some (.cells #[.string y] 9 (0, 0))) (a'.eval (.tmp 30)) w' := hall.2.2.2.2.2.2.2.2.2.2.2.2.1 _ rfl
      have e31 : (fun u w' => w'.ownsRow w.heap.size 9 1 u (m + 1) ((acc.map Value.string) ++ [.string y])) (a'.eval (.tmp 31)) w' := hall.2.2.2.2.2.2.2.2.2.2.2.2.2.1 _ rfl
      obtain ⟨v30, hv30⟩ : ∃ v, a'.eval (.tmp 30) = v := ⟨_, rfl⟩
      rw [hv30] at e30
      obtain ⟨v31, hv31⟩ : ∃ v, a'.eval (.tmp 31) = v := ⟨_, rfl⟩
      rw [hv31] at e31
      simp only [List.foldl_cons, List.foldl_nil, Act.put, List.setIfInBounds_toArray, List.set_cons_succ, List.set_cons_zero, e18, e19, e20, e21, e22, e23, e24, e25, e26, e27, e28, e29, hv30, hv31] at hA
      clear hO hall e18 e19 e20 e21 e22 e23 e24 e25 e26 e27 e28 e29 hv30 hv31
      subst hA
      have HB2 : Hid (Below w.heap.size w w') := Lib.hid (grownBy_below HB.out (of_drewE hE) (fun k hk => by have := (HO.out.lt k hk).1; omega))
      have HO2 : Hid (w'.ownsRow w.heap.size 9 1 v31 (m + 1) ((acc ++ [y]).map Value.string)) := Lib.hid (by rw [List.map_append]; exact e31)
      clear hE e31 e30 cx mn sl hy0
      go_wp2
      go_roundg (N - (m + 1))
      case rel => exact ⟨m + 1, acc ++ [y], by omega, by go_num, HAN.out.symm, HB2.out, HO2.out⟩
      case measure => omega
    · obtain rfl : m = N := by omega
      have HF : Hid (acc = textsP l n) := Lib.hid (by rw [HA.out, HTL.out])
      by_cases hq : m < len l
      · have i1 : (m : Int) < len l := by omega
        have i2 : ¬ (m : Int) < n := by omega
        go_wp2
        go_ret
        obtain ⟨a', c', h1, h2, h3⟩ := strs_of_own HO.out
        rw [HF.out] at h1 h2
        exact ⟨a', c', by rw [h1]; rfl, h2, h3, HB.out⟩
      · have i1 : ¬ (m : Int) < len l := by omega
        go_wp2
        go_ret
        obtain ⟨a', c', h1, h2, h3⟩ := strs_of_own HO.out
        rw [HF.out] at h1 h2
        exact ⟨a', c', by rw [h1]; rfl, h2, h3, HB.out⟩
end Go.Proofs.YtihiaopilnjonaaGreatDoor
namespace Go.Proofs.YtihiaopilnjonaaGreatDoor
open Go.RowKit
set_option linter.unusedSimpArgs false
set_option linter.unusedVariables false
theorem StrsC.low {w w' : World} {a : Option Addr} {l : List ByteArray} (h : StrsC (CW w) a l) (hb : Below w.heap.size w w') : StrsC (CW w') a l := h.imp fun b o x hc => (hb.cell (p := ⟨b, o, none⟩) (lt_of_cell hc)).trans hc
theorem Strs.cw {B : Nat} {w : World} {a : Option Addr} {l : List ByteArray} (h : Strs B w a l) : StrsC (CW w) a l := StrsC.imp (C := CellAt B w) (fun _ _ _ h => h.cell) h
def SlotIs (L : Int) (q : Bool) (idx : Int) (ws ps : List ByteArray) (w : World) (e : Ending) (w' : World) : Prop := ∃ a1 k1 a2 k2, e = .returned (.agg #[.int .u64 L, .bool q, .int .u64 idx, .slice a1 (len ws) k1, .slice a2 (len ps) k2]) ∧ StrsC (CWS w') a1 ws ∧ StrsC (CWS w') a2 ps ∧ Below w.heap.size w w'
set_option maxRecDepth 100000 in
set_option maxHeartbeats 4000000 in
theorem slot_any (L : Int) (q : Bool) (idx : Int) (a1 a2 : Option Addr) (k1 k2 : Nat) (ws ps : List ByteArray) (w : World) (h1 : StrsC (CW w) a1 ws) (h2 : StrsC (CW w) a2 ps) (n1 : len ws ≤ 9223372036854775807) (n2 : len ps ≤ 9223372036854775807) :
    Calls Tryz.prog 33 #[.agg #[.int .u64 L, .bool q, .int .u64 idx, .slice a1 (len ws) k1, .slice a2 (len ps) k2]] w (SlotIs L q idx (textsP ws 70) (textsP ps 20) w) := by
  have H1 := Lib.hid (fun (w' : World) (hb : Below w.heap.size w w') => texts_any a1 k1 ws 70 w' (h1.low hb) n1 (by decide))
  have H2 := Lib.hid (fun (w' : World) (hb : Below w.heap.size w w') => texts_any a2 k2 ps 20 w' (h2.low hb) n2 (by decide))
  clear h1 h2
  generalize textsP ws 70 = ws' at H1
  generalize textsP ps 20 = ps' at H2
  go_enter Tryz.func33, Tryz.ntmps33
  go_upto_region 1 with fail
  obtain ⟨sb, hsb⟩ : ∃ sb, w.heap.size = sb := ⟨_, rfl⟩
  obtain ⟨V, hV⟩ : ∃ V, (w.alloc (.cells #[.int .u64 L, .bool q, .int .u64 idx, .slice a1 (len ws) k1, .slice a2 (len ps) k2] 44)).alloc (.cells #[.int .u64 0, .bool false, .int .u64 0, .slice none 0 0, .slice none 0 0] 44) = V := ⟨_, rfl⟩
  have HB : Hid (Below w.heap.size w V) := Lib.hid (by rw [← hV]; exact balloc (balloc (Below.refl _ _) _) _)
  have HS : Hid (V.heap[sb]? = some (.cells #[.int .u64 L, .bool q, .int .u64 idx, .slice a1 (len ws) k1, .slice a2 (len ps) k2] 44 (0, 0))) := Lib.hid (by rw [← hV, ← hsb]; exact block_alloc (heap_alloc_new _ _) _)
  have HR : Hid (V.heap[sb + 1]? = some (.cells #[.int .u64 0, .bool false, .int .u64 0, .slice none 0 0, .slice none 0 0] 44 (0, 0))) := Lib.hid (by rw [← hV]; exact alloc_new_at _ (by simp [hsb]))
  have HSB := Lib.hid hsb
  try rw [hV]
  try simp only [hsb]
  clear hV hsb
  have cS : ∀ o, V.cell? ⟨sb, o, none⟩ = _ := block_cell HS.out
  go_wp2_with fail
  refine (H1.out V HB.out).mono ?_
  rintro e w1 ⟨b1, c1, rfl, hs, hf, hb⟩
  have HS1 := Lib.hid hs
  have HB1 := Lib.hid (bnext HB.out hb)
  have HSa := Lib.hid ((hb.block _ (lt_of_block HS.out)).trans HS.out)
  have HRa := Lib.hid ((hb.block _ (lt_of_block HR.out)).trans HR.out)
  clear hs hf hb cS HS HR HB
  have cS : ∀ o, w1.cell? ⟨sb, o, none⟩ = _ := block_cell HSa.out
  have fS : ∀ o, w1.frozen? ⟨sb, o, none⟩ = false := block_free HSa.out
  have lS : sb < w1.heap.size := lt_of_block HSa.out
  go_upto_region 2 with fail
  obtain ⟨W1, hW1⟩ : ∃ W1, w1.setCell ⟨sb, 3, none⟩ (.slice b1 (len ws') c1) = W1 := ⟨_, rfl⟩
  have HSb : Hid (W1.heap[sb]? = some (.cells #[.int .u64 L, .bool q, .int .u64 idx, .slice b1 (len ws') c1, .slice a2 (len ps) k2] 44 (0, 0))) := Lib.hid (by rw [← hW1]; exact block_setCell HSa.out _)
  have HRb : Hid (W1.heap[sb + 1]? = some (.cells #[.int .u64 0, .bool false, .int .u64 0, .slice none 0 0, .slice none 0 0] 44 (0, 0))) := Lib.hid (by rw [← hW1]; exact block_setCell_ne HRa.out (show sb + 1 ≠ sb by omega) _)
  have HB2 : Hid (Below w.heap.size w W1) := Lib.hid (by rw [← hW1]; exact bset HB1.out (show w.heap.size ≤ sb by rw [HSB.out]; exact Nat.le_refl _) _)
  have HS2 : Hid (StrsC (CWS W1) b1 ws') := Lib.hid (by rw [← hW1]; exact HS1.out.wset HSa.out (by decide) _)
  clear cS fS lS HSa HRa HB1 HS1
  rw [hW1]
  clear hW1
  have cS : ∀ o, W1.cell? ⟨sb, o, none⟩ = _ := block_cell HSb.out
  go_wp2_with fail
  refine (H2.out W1 HB2.out).mono ?_
  rintro e w2 ⟨b2, c2, rfl, hs, hf, hb⟩
  have HT1 := Lib.hid hs
  have HB3 := Lib.hid (bnext HB2.out hb)
  have HSc := Lib.hid ((hb.block _ (lt_of_block HSb.out)).trans HSb.out)
  have HRc := Lib.hid ((hb.block _ (lt_of_block HRb.out)).trans HRb.out)
  have HS3 : Hid (StrsC (CWS w2) b1 ws') := Lib.hid (HS2.out.wlow hb)
  clear hs hf hb cS HSb HRb HB2 HS2
  have cS : ∀ o, w2.cell? ⟨sb, o, none⟩ = _ := block_cell HSc.out
  have fS : ∀ o, w2.frozen? ⟨sb, o, none⟩ = false := block_free HSc.out
  have lS : sb < w2.heap.size := lt_of_block HSc.out
  go_upto_region 3 with fail
  obtain ⟨W2, hW2⟩ : ∃ W2, w2.setCell ⟨sb, 4, none⟩ (.slice b2 (len ps') c2) = W2 := ⟨_, rfl⟩
  have HSd : Hid (W2.heap[sb]? = some (.cells #[.int .u64 L, .bool q, .int .u64 idx, .slice b1 (len ws') c1, .slice b2 (len ps') c2] 44 (0, 0))) := Lib.hid (by rw [← hW2]; exact block_setCell HSc.out _)
  have HRd : Hid (W2.heap[sb + 1]? = some (.cells #[.int .u64 0, .bool false, .int .u64 0, .slice none 0 0, .slice none 0 0] 44 (0, 0))) := Lib.hid (by rw [← hW2]; exact block_setCell_ne HRc.out (show sb + 1 ≠ sb by omega) _)
  have HB4 : Hid (Below w.heap.size w W2) := Lib.hid (by rw [← hW2]; exact bset HB3.out (show w.heap.size ≤ sb by rw [HSB.out]; exact Nat.le_refl _) _)
  have HS4 : Hid (StrsC (CWS W2) b1 ws') := Lib.hid (by rw [← hW2]; exact HS3.out.wset HSc.out (by decide) _)
  have HT2 : Hid (StrsC (CWS W2) b2 ps') := Lib.hid (by rw [← hW2]; exact HT1.out.wset HSc.out (by decide) _)
  clear cS fS lS HSc HRc HB3 HS3 HT1
  rw [hW2]
  clear hW2
  have cS : ∀ o, W2.cell? ⟨sb, o, none⟩ = _ := block_cell HSd.out
  have g0 : ∀ o, W2.cell? ⟨sb + 1, o, none⟩ = _ := block_cell HRd.out
  have g1 : ∀ o, W2.frozen? ⟨sb + 1, o, none⟩ = false := block_free HRd.out
  have g2 : sb + 1 < W2.heap.size := lt_of_block HRd.out
  go_wp2
  have hb5 := block_setCell (block_setCell (block_setCell (block_setCell (block_setCell HRd.out (o := 0) (.int .u64 L)) (o := 1) (.bool q)) (o := 2) (.int .u64 idx)) (o := 3) (.slice b1 (len ws') c1)) (o := 4) (.slice b2 (len ps') c2)
  have d : ∀ o, _ = _ := block_cell hb5
  have hset : ∀ {a : Option Addr} {l : List ByteArray}, StrsC (CWS W2) a l → StrsC (CWS (((((W2.setCell ⟨sb + 1, 0, none⟩ (.int .u64 L)).setCell ⟨sb + 1, 1, none⟩ (.bool q)).setCell ⟨sb + 1, 2, none⟩ (.int .u64 idx)).setCell ⟨sb + 1, 3, none⟩ (.slice b1 (len ws') c1)).setCell ⟨sb + 1, 4, none⟩ (.slice b2 (len ps') c2))) a l := fun h =>
    ((((h.wset HRd.out (by decide) _).wset (block_setCell HRd.out _) (by decide) _).wset (block_setCell (block_setCell HRd.out _) _) (by decide) _).wset (block_setCell (block_setCell (block_setCell HRd.out _) _) _) (by decide) _).wset (block_setCell (block_setCell (block_setCell (block_setCell HRd.out _) _) _) _) (by decide) _
  have hle : w.heap.size ≤ sb + 1 := by rw [HSB.out]; omega
  refine bodyPost_ret (v := .agg #[.int .u64 L, .bool q, .int .u64 idx, .slice b1 (len ws') c1, .slice b2 (len ps') c2]) ?_ rfl ⟨b1, c1, b2, c2, rfl, hset HS4.out, hset HT2.out, bset (bset (bset (bset (bset HB4.out hle _) hle _) hle _) hle _) hle _⟩
  simp [results, Tryz.results33, go_sem, d]
set_option maxRecDepth 100000 in
set_option maxHeartbeats 4000000 in
theorem rtexts_yes (a b : Option Addr) (c d : Nat) (l : List ByteArray) (w : World) (ha : StrsC (CW w) a l) (hb : StrsC (CW w) b l) (hn : len l ≤ 9223372036854775807) :
    Calls Tryz.prog 79 #[.slice a (len l) c, .slice b (len l) d] w fun e w' => e = .returned (.bool true) ∧ Below w.heap.size w w' := by
  have HA := Lib.hid ha
  have HB := Lib.hid hb
  clear ha hb
  go_enter Tryz.func79, Tryz.ntmps79
  go_wp2
  go_loopg [5] (len l) (fun g i wr => ∃ m : Nat, g + m = len l ∧ i = .int .i64 m ∧ Hid (Below w.heap.size w wr))
  case atStart => exact ⟨0, rfl, rfl, Below.refl _ _⟩
  case round =>
    obtain ⟨m, hm, rfl, HW⟩ := hrel
    by_cases hlt : m < len l
    · have i1 : (m : Int) < len l := by omega
      obtain ⟨ga, oa, rfl, hca⟩ := (HA.out.low HW.out) m hlt
      obtain ⟨gb, ob, rfl, hcb⟩ := (HB.out.low HW.out) m hlt
      have c0 : wr.cell? ⟨ga, oa + m, none⟩ = some (.string (sth l m)) := hca
      have c1 : wr.cell? ⟨gb, ob + m, none⟩ = some (.string (sth l m)) := hcb
      clear hca hcb
      generalize sth l m = x at c0 c1
      go_upto_region 6 with fail
      go_quiet (fail)
      have HW2 := Lib.hid (bdrew HW.out)
      go_wp2
      go_roundg (len l - (m + 1))
      case rel => exact ⟨m + 1, by omega, by go_num, Lib.hid (bdrewN HW.out _)⟩
      case measure => omega
    · obtain rfl : m = len l := by omega
      have i1 : ¬ ((len l : Nat) : Int) < len l := by omega
      go_wp2
      go_ret
      exact ⟨rfl, HW.out⟩
set_option maxRecDepth 100000 in
set_option maxHeartbeats 4000000 in
theorem rsameSlot_yes (L : Int) (q : Bool) (idx : Int) (a1 a2 b1 b2 : Option Addr) (k1 k2 c1 c2 : Nat) (ws ps : List ByteArray) (w : World) (ha1 : StrsC (CW w) a1 ws) (ha2 : StrsC (CW w) a2 ps) (hb1 : StrsC (CW w) b1 ws) (hb2 : StrsC (CW w) b2 ps) (n1 : len ws ≤ 9223372036854775807) (n2 : len ps ≤ 9223372036854775807) :
    Calls Tryz.prog 37 #[.agg #[.int .u64 L, .bool q, .int .u64 idx, .slice a1 (len ws) k1, .slice a2 (len ps) k2], .agg #[.int .u64 L, .bool q, .int .u64 idx, .slice b1 (len ws) c1, .slice b2 (len ps) c2]] w fun e w' => e = .returned (.bool true) ∧ Below w.heap.size w w' := by
  have HQ1 := Lib.hid (fun (w' : World) (h : Below w.heap.size w w') => rtexts_yes a1 b1 k1 c1 ws w' (ha1.low h) (hb1.low h) n1)
  have HQ2 := Lib.hid (fun (w' : World) (h : Below w.heap.size w w') => rtexts_yes a2 b2 k2 c2 ps w' (ha2.low h) (hb2.low h) n2)
  clear ha1 ha2 hb1 hb2
  generalize len ws = l1 at HQ1 ⊢
  generalize len ps = l2 at HQ2 ⊢
  go_enter Tryz.func37, Tryz.ntmps37
  go_upto_region 1 with fail
  obtain ⟨sb, hsb⟩ : ∃ sb, w.heap.size = sb := ⟨_, rfl⟩
  obtain ⟨tb, htb⟩ : ∃ tb, sb + 1 = tb := ⟨_, rfl⟩
  obtain ⟨V, hV⟩ : ∃ V, (w.alloc (.cells #[.int .u64 L, .bool q, .int .u64 idx, .slice a1 l1 k1, .slice a2 l2 k2] 44)).alloc (.cells #[.int .u64 L, .bool q, .int .u64 idx, .slice b1 l1 c1, .slice b2 l2 c2] 44) = V := ⟨_, rfl⟩
  have HB : Hid (Below w.heap.size w V) := Lib.hid (by rw [← hV]; exact balloc (balloc (Below.refl _ _) _) _)
  have HS : Hid (V.heap[sb]? = some (.cells #[.int .u64 L, .bool q, .int .u64 idx, .slice a1 l1 k1, .slice a2 l2 k2] 44 (0, 0))) := Lib.hid (by rw [← hV, ← hsb]; exact block_alloc (heap_alloc_new _ _) _)
  have HT : Hid (V.heap[tb]? = some (.cells #[.int .u64 L, .bool q, .int .u64 idx, .slice b1 l1 c1, .slice b2 l2 c2] 44 (0, 0))) := Lib.hid (by rw [← hV, ← htb, ← hsb]; exact alloc_new_at _ (by simp))
  simp only [hV, hsb, htb]
  clear hV hsb htb
  have cS : ∀ o, V.cell? ⟨sb, o, none⟩ = _ := block_cell HS.out
  have cT : ∀ o, V.cell? ⟨tb, o, none⟩ = _ := block_cell HT.out
  go_wp2_with fail
  refine (HQ1.out V HB.out).mono ?_
  rintro e w1 ⟨rfl, hb⟩
  have HB1 := Lib.hid (bnext HB.out hb)
  have HS := Lib.hid ((hb.block _ (lt_of_block HS.out)).trans HS.out)
  have HT := Lib.hid ((hb.block _ (lt_of_block HT.out)).trans HT.out)
  clear hb cS cT
  have cS : ∀ o, w1.cell? ⟨sb, o, none⟩ = _ := block_cell HS.out
  have cT : ∀ o, w1.cell? ⟨tb, o, none⟩ = _ := block_cell HT.out
  go_wp2_with fail
  refine (HQ2.out w1 HB1.out).mono ?_
  rintro e w2 ⟨rfl, hb⟩
  have HB2 := Lib.hid (bnext HB1.out hb)
  clear hb cS cT
  go_wp2
  go_ret
  exact ⟨rfl, HB2.out⟩
end Go.Proofs.YtihiaopilnjonaaGreatDoor
namespace Go.Proofs.YtihiaopilnjonaaGreatDoor
open Go.RowKit
set_option linter.unusedSimpArgs false
set_option linter.unusedVariables false
def recV (r : Except Flt Rcd) (x0 : Rcd) : Rcd := match r with | .ok x => x | .error _ => x0
def fltV (r : Except Flt Rcd) : Flt := match r with | .ok _ => (0, 0) | .error f => f
def NeV (r : Except Flt Rcd) : Prop := match r with | .ok _ => True | .error f => f.1 ≠ 0
def Tells (B : Nat) (ev : Value) (r : Except Flt Rcd) (w : World) : Prop := NeV r → ∀ w', Below w.heap.size w w' → TE7 B w' → Calls Tryz.prog 31 #[ev, .agg #[.int .i64 (fltV r).1, .int .i64 (fltV r).2]] w' fun e w'' => e = .returned (.bool true) ∧ Below w'.heap.size w' w''
theorem tells_ok (B : Nat) (x : Rcd) (w : World) : Tells B .nilIface (.ok x) w := fun _ w' _ _ => told_none w'
theorem tells_no {B fb : Nat} {f : Flt} {w : World} (h : FltB w fb f.1 f.2) : Tells B (.iface 127 (.pointer (some ⟨fb, 0, none⟩))) (.error f) w := fun hn w' hb ht =>
  told_fault fb f.1 f.2 w' ht.e (h.below hb) hn (Nat.lt_of_lt_of_le ht.g ht.s)
theorem Tells.below {B : Nat} {ev : Value} {r : Except Flt Rcd} {w w' : World} (h : Tells B ev r w) (hb : Below w.heap.size w w') : Tells B ev r w' := fun hn w'' hb2 ht => h hn w'' (bnext hb hb2) ht
end Go.Proofs.YtihiaopilnjonaaGreatDoor
namespace Go.Proofs.YtihiaopilnjonaaGreatDoor
open Go.RowKit
set_option linter.unusedSimpArgs false
set_option linter.unusedVariables false
def EvOf (r : Except Flt Rcd) (ev : Value) : Prop := match r with
  | .ok _ => ev = .nilIface
  | .error _ => ∃ fb, ev = .iface 127 (.pointer (some ⟨fb, 0, none⟩))
theorem TE7.up {B : Nat} {w : World} (h : TE7 B w) : PTab w.heap.size w := ⟨Nat.lt_of_lt_of_le h.p.glob h.p.size, Nat.le_refl _, fun k hk => by
  obtain ⟨tb, tq, rc, h1, h2, h3⟩ := h.p.tab k hk
  exact ⟨tb, tq, rc, Nat.lt_of_lt_of_le h1 h.p.size, h2, h3⟩⟩
theorem StrsC.at {w : World} {a : Option Addr} {l : List ByteArray} (h : StrsC (CW w) a l) : Strs w.heap.size w a l := h.imp fun b o x hc => CW.at hc
def NmsC (C : CP) (a : Option Addr) (l : List Int) : Prop := ∀ i, i < len l → ∃ b off, a = some ⟨b, off, none⟩ ∧ C b (off + i) (.int .u64 (nth l i))
theorem NmsC.imp {C D : CP} (h : ∀ b o x, C b o x → D b o x) {a : Option Addr} {l : List Int} (hs : NmsC C a l) : NmsC D a l := fun i hi => by
  obtain ⟨b, off, e, hc⟩ := hs i hi; exact ⟨b, off, e, h _ _ _ hc⟩
theorem cw_low {w w' : World} (hb : Below w.heap.size w w') (b o : Nat) (x : Value) (hc : CW w b o x) : CW w' b o x := (hb.cell (p := ⟨b, o, none⟩) (lt_of_cell hc)).trans hc
theorem holds_strs {rb tb : Nat} {w : World} {a : Option Addr} {c n : Nat} {d : DV} (hk : kindD d = 3) (h : HoldsD rb tb w (.slice a n c) d) : StrsC (CW w) a d.l := by
  cases d <;> first | cases hk | skip
  obtain ⟨a', c', e, _, _, ht⟩ := h
  cases e
  exact fun i hi => ht.1 i hi
theorem strsC_nil (C : CP) (a : Option Addr) : StrsC C a [] := fun i hi => absurd hi (by simp [len])
theorem rqSlot_any (B : Nat) (s : ByteArray) (w : World) (h : TE7 B w) (hs : s.size ≤ 9223372036854775807) : Calls Tryz.prog 35 #[.string s] w fun e w' => ∃ ev a3 c3 a4 c4, e = .returned (.tuple #[.agg (cellsSlot (recV (readR s (slotGs s 0) slot0) slot0) a3 c3 a4 c4), ev]) ∧ EvOf (readR s (slotGs s 0) slot0) ev ∧ Tells B ev (readR s (slotGs s 0) slot0) w' ∧ StrsC (CW w') a3 (recV (readR s (slotGs s 0) slot0) slot0 3).l ∧ StrsC (CW w') a4 (recV (readR s (slotGs s 0) slot0) slot0 4).l ∧ Below w.heap.size w w' := by
  refine (reaSlot_any B s w h.t h.e h.s h.g hs).mono ?_
  rintro e w' ⟨hb, hh⟩
  cases hr : readR s (slotGs s 0) slot0 with
  | error f =>
    rw [hr] at hh
    obtain ⟨fb, he, hf⟩ := hh
    exact ⟨_, none, 0, none, 0, he, ⟨fb, rfl⟩, tells_no hf, strsC_nil _ _, strsC_nil _ _, hb⟩
  | ok y =>
    rw [hr] at hh
    obtain ⟨hk, a3, c3, a4, c4, ⟨rb, tb, hL⟩, he⟩ := hh
    exact ⟨_, a3, c3, a4, c4, he, rfl, tells_ok B y w', holds_strs (hk 3) hL.1, holds_strs (hk 4) hL.2, hb⟩
end Go.Proofs.YtihiaopilnjonaaGreatDoor
