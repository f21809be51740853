/- Parts of the proof, one behind the other. -/
import Derived.Test.YtpobhbdomldecaaGreatDoorHchP3
import Derived.Laws.CopyOwn
import Derived.Lib.Strings
import Derived.Laws.BytesArg
import Derived.Laws.EntriesVeiled
import Derived.BigQuiet
import Derived.Laws.AppendOwnNone
namespace Go.Proofs.YtpobhbdomldecaaGreatDoor
open Go.RowKit
set_option linter.unusedSimpArgs false
set_option linter.unusedVariables false
def stL (v : St8) : List W32 := [v.a, v.b, v.c, v.d, v.e, v.f, v.g, v.h]
def hshC (v : St8) (r : List UInt8) (n : Int) : Array Value := ((stL v).map wV ++ r.map bV ++ [Value.int .u64 n]).toArray
theorem hshC_word (v : St8) (r : List UInt8) (n : Int) (i : Nat) (h : i < 8) : (hshC v r n)[i]? = some (wV (wth (stL v) i)) := by
  unfold hshC
  have h8 : (stL v).length = 8 := rfl
  rw [wth_eq _ i (by omega)]
  simp [List.getElem?_append, h8, h]
theorem hshC_byte (v : St8) (r : List UInt8) (n : Int) (i : Nat) (h : i < r.length) : (hshC v r n)[8 + i]? = some (bV (bth r i)) := by
  unfold hshC
  have h8 : (stL v).length = 8 := rfl
  have e : bth r i = r[i] := by unfold bth; rw [List.getD_eq_getElem?_getD, List.getElem?_eq_getElem h]; rfl
  rw [e]
  simp [List.getElem?_append, h8, h]
def headZ (r : List UInt8) (m : Nat) : List W32 := headW r m ++ List.replicate (64 - m) 0
def hshLC (L : List W32) (r : List UInt8) (n : Int) : Array Value := (L.map wV ++ r.map bV ++ [Value.int .u64 n]).toArray
theorem hshLC_word (L : List W32) (r : List UInt8) (n : Int) (i : Nat) (h : i < L.length) : (hshLC L r n)[i]? = some (wV (wth L i)) := by
  unfold hshLC
  rw [wth_eq _ i h]
  simp [List.getElem?_append, h]
theorem hshLC_set (L : List W32) (r : List UInt8) (n : Int) (i : Nat) (x : W32) (h : i < L.length) : (hshLC L r n).setIfInBounds i (wV x) = hshLC (L.set i x) r n := by
  unfold hshLC
  simp [List.set_append, h, List.map_set]
def sumL (v u : St8) (i : Nat) : List W32 := (stL (plusW v u)).take i ++ (stL v).drop i
theorem sumL_len (v u : St8) (i : Nat) : (sumL v u i).length = 8 := by
  unfold sumL
  have h1 : (stL (plusW v u)).length = 8 := rfl
  have h2 : (stL v).length = 8 := rfl
  rw [List.length_append, List.length_take, List.length_drop, h1, h2]; omega
theorem sumL_next (v u : St8) (i : Nat) (h : i < 8) : wth (sumL v u i) i = wth (stL v) i ∧ (sumL v u i).set i (wth (stL v) i + wth (stL u) i) = sumL v u (i + 1) := by
  match i, h with
  | 0, _ | 1, _ | 2, _ | 3, _ | 4, _ | 5, _ | 6, _ | 7, _ => exact ⟨rfl, rfl⟩
attribute [local go_sem] bv_xor bv_and bv_or bv_add bv_addm
theorem extB_of_below {row : Option Nat} {w w' : World} (h : Below w.heap.size w w') : ExtB row w w' := ⟨h.os, h.tape, h.output, h.size, fun i hi _ => h.block i hi⟩
theorem extB_setI2 {w w1 : World} {b : Nat} (h : ExtB (some b) w w1) (o : Nat) (v : Value) : ExtB (some b) w (w1.setCell ⟨b, o, none⟩ v) :=
  ⟨h.os, h.tape, h.output, by rw [World.size_setCell]; exact h.size, fun i hi hn => by rw [Below.heap_setCell _ _ _ _ (show i ≠ b from fun e => hn (by rw [e]))]; exact h.block i hi hn⟩
theorem extB_newset {row : Option Nat} {w w1 : World} (h : ExtB row w w1) {b : Nat} (hb : w.heap.size ≤ b) (o : Nat) (v : Value) : ExtB row w (w1.setCell ⟨b, o, none⟩ v) :=
  ⟨h.os, h.tape, h.output, by rw [World.size_setCell]; exact h.size, fun i hi hn => by rw [Below.heap_setCell _ _ _ _ (show i ≠ b by omega)]; exact h.block i hi hn⟩
theorem headW_len (r : List UInt8) (m : Nat) : (headW r m).length = m := by simp [headW]
theorem headZ_len (r : List UInt8) (m : Nat) (h : m ≤ 64) : (headZ r m).length = 64 := by unfold headZ; rw [List.length_append, headW_len, List.length_replicate]; omega
theorem headZ_next (r : List UInt8) (m : Nat) (h : m < 64) : (headZ r m).set m (w4 (bth r (4 * m)) (bth r (4 * m + 1)) (bth r (4 * m + 2)) (bth r (4 * m + 3))) = headZ r (m + 1) := by
  unfold headZ
  rw [List.set_append_right _ _ (by rw [headW_len]; exact Nat.le_refl _), headW_len, Nat.sub_self, show 64 - m = (64 - (m + 1)) + 1 by omega, List.replicate_succ, List.set_cons_zero]
  have e : headW r (m + 1) = headW r m ++ [w4 (bth r (4 * m)) (bth r (4 * m + 1)) (bth r (4 * m + 2)) (bth r (4 * m + 3))] := by unfold headW; rw [List.range_succ, List.map_append]; rfl
  rw [e, List.append_assoc]; rfl
def moreZ (r : List UInt8) (j : Nat) : List W32 := moreW (headW r 16) j ++ List.replicate (48 - j) 0
theorem moreW_len (ws : List W32) : ∀ j, (moreW ws j).length = ws.length + j
  | 0 => rfl
  | j + 1 => by rw [moreW, List.length_append, moreW_len ws j]; rfl
theorem moreZ_len (r : List UInt8) (j : Nat) (h : j ≤ 48) : (moreZ r j).length = 64 := by unfold moreZ; rw [List.length_append, moreW_len, headW_len, List.length_replicate]; omega
theorem moreZ_at (r : List UInt8) (j i : Nat) (h : i < 16 + j) : wth (moreZ r j) i = wth (moreW (headW r 16) j) i := by
  unfold moreZ wth
  rw [List.getD_eq_getElem?_getD, List.getD_eq_getElem?_getD, List.getElem?_append_left (by rw [moreW_len, headW_len]; exact h)]
theorem moreZ_next (r : List UInt8) (j : Nat) (h : j < 48) : (moreZ r j).set (16 + j) (nextW (moreW (headW r 16) j) (16 + j)) = moreZ r (j + 1) := by
  unfold moreZ
  have hl : (moreW (headW r 16) j).length = 16 + j := by rw [moreW_len, headW_len]
  rw [List.set_append_right _ _ (by rw [hl]; exact Nat.le_refl _), hl, Nat.sub_self, show 48 - j = (48 - (j + 1)) + 1 by omega, List.replicate_succ, List.set_cons_zero, moreW, hl, List.append_assoc]
  rfl
theorem headZ_more (r : List UInt8) : headZ r 16 = moreZ r 0 := rfl
set_option maxRecDepth 100000 in
set_option maxHeartbeats 4000000 in
theorem in_any (hb : Nat) (v : St8) (r : List UInt8) (n : Int) (w : World) (hr : r.length = 64) (h : w.heap[hb]? = some (.cells (hshC v r n) 250 (0, 0))) :
    Calls Tryz.prog 220 #[.pointer (some ⟨hb, 0, none⟩), .slice (some ⟨hb, 8, none⟩) 64 64] w fun e w' => e = .returned (.tuple #[]) ∧ ExtB (some hb) w w' ∧ w'.heap[hb]? = some (.cells (hshC (pressW v r) r n) 250 (0, 0)) := by
  have H := Lib.hid h
  have HR := Lib.hid hr
  clear h hr
  go_enter Tryz.func220, Tryz.ntmps220
  go_upto_region 1 with fail
  obtain ⟨wb, hwb⟩ : ∃ wb, w.heap.size = wb := ⟨_, rfl⟩
  show Code.wp _ _ _ _ (w.alloc (.cells (wsC zeroW) 294))
  obtain ⟨V, hV⟩ : ∃ V, w.alloc (.cells (wsC zeroW) 294) = V := ⟨_, rfl⟩
  have HX : Hid (ExtB (some hb) w V) := Lib.hid (by rw [← hV]; exact extB_alloc _ _ _)
  have HW : Hid (V.heap[wb]? = some (.cells (wsC zeroW) 294 (0, 0))) := Lib.hid (by rw [← hV, ← hwb]; exact heap_alloc_new _ _)
  have HN : Hid (hb < wb) := Lib.hid (by have := lt_of_block H.out; omega)
  have H := Lib.hid (show V.heap[hb]? = some (.cells (hshC v r n) 250 (0, 0)) by rw [← hV]; exact block_alloc H.out _)
  rw [hV, hwb]
  clear hV
  go_wp2
  go_loopg [22, 5, 6] 16 (fun g i _ _ wr => ∃ m : Nat, g + m = 16 ∧ i = .int .i64 m ∧ Hid (wr.heap[wb]? = some (.cells (wsC (headZ r m)) 294 (0, 0))) ∧ Hid (ExtB (some hb) w wr) ∧ Hid (wr.heap[hb]? = some (.cells (hshC v r n) 250 (0, 0))))
  case atStart => exact ⟨0, rfl, rfl, HW.out, HX.out, H.out⟩
  case round =>
    clear HX HW H
    obtain ⟨m, hm, rfl, HW, HX, H⟩ := hrel
    by_cases hlt : m < 16
    · have i1 : (m : Int) < 16 := by omega
      go_upto_region 5 with fail
      rw [show 4 * m + 4 - 4 * m = 4 by omega]
      obtain ⟨W, hW⟩ : ∃ W, wr = W := ⟨_, rfl⟩
      rw [hW] at HW HX H ⊢
      clear hW
      obtain ⟨B0, hB0⟩ : ∃ B, bW (bth r (4 * m)) = B := ⟨_, rfl⟩
      obtain ⟨B1, hB1⟩ : ∃ B, bW (bth r (4 * m + 1)) = B := ⟨_, rfl⟩
      obtain ⟨B2, hB2⟩ : ∃ B, bW (bth r (4 * m + 2)) = B := ⟨_, rfl⟩
      obtain ⟨B3, hB3⟩ : ∃ B, bW (bth r (4 * m + 3)) = B := ⟨_, rfl⟩
      have q0 : W.cell? ⟨hb, 8 + 4 * m, none⟩ = some (.int .u8 (wI B0)) := by rw [block_cell H.out, hshC_byte _ _ _ _ (by have := HR.out; omega), ← hB0]
      have q1 : W.cell? ⟨hb, 8 + 4 * m + 1, none⟩ = some (.int .u8 (wI B1)) := by rw [block_cell H.out, Nat.add_assoc, hshC_byte _ _ _ _ (by have := HR.out; omega), ← hB1]
      have q2 : W.cell? ⟨hb, 8 + 4 * m + 2, none⟩ = some (.int .u8 (wI B2)) := by rw [block_cell H.out, Nat.add_assoc, hshC_byte _ _ _ _ (by have := HR.out; omega), ← hB2]
      have q3 : W.cell? ⟨hb, 8 + 4 * m + 3, none⟩ = some (.int .u8 (wI B3)) := by rw [block_cell H.out, Nat.add_assoc, hshC_byte _ _ _ _ (by have := HR.out; omega), ← hB3]
      have HW4 : Hid (B0 <<< 24 ||| B1 <<< 16 ||| B2 <<< 8 ||| B3 = w4 (bth r (4 * m)) (bth r (4 * m + 1)) (bth r (4 * m + 2)) (bth r (4 * m + 3))) := Lib.hid (by rw [← hB0, ← hB1, ← hB2, ← hB3]; rfl)
      have m64 : ¬ (64 : Int) ≤ (m : Int) := by omega
      clear hB0 hB1 hB2 hB3
      refine wp_region_tail 24 1000 (none) (phis [fun u _ => u = (.int .i64 m), fun u _ => u = (.slice (some ⟨hb, 8 + 4 * m, none⟩) 4 (64 - 4 * m)), fun u _ => u = (.pointer (some ⟨hb, 8 + 4 * m, none⟩)), fun u _ => u = (.int .u8 (wI B0)), fun u _ => u = (.int .u32 (wI B0)), fun u _ => u = (.int .u32 (wI (B0 <<< 24))), fun u _ => u = (.slice (some ⟨hb, 8 + 4 * m, none⟩) 4 (64 - 4 * m)), fun u _ => u = (.pointer (some ⟨hb, 8 + 4 * m + 1, none⟩)), fun u _ => u = (.int .u8 (wI B1)), fun u _ => u = (.int .u32 (wI B1)), fun u _ => u = (.int .u32 (wI (B1 <<< 16))), fun u _ => u = (.int .u32 (wI (B0 <<< 24 ||| B1 <<< 16))), fun u _ => u = (.slice (some ⟨hb, 8 + 4 * m, none⟩) 4 (64 - 4 * m)), fun u _ => u = (.pointer (some ⟨hb, 8 + 4 * m + 2, none⟩)), fun u _ => u = (.int .u8 (wI B2)), fun u _ => u = (.int .u32 (wI B2)), fun u _ => u = (.int .u32 (wI (B2 <<< 8))), fun u _ => u = (.int .u32 (wI (B0 <<< 24 ||| B1 <<< 16 ||| B2 <<< 8))), fun u _ => u = (.slice (some ⟨hb, 8 + 4 * m, none⟩) 4 (64 - 4 * m)), fun u _ => u = (.pointer (some ⟨hb, 8 + 4 * m + 3, none⟩)), fun u _ => u = (.int .u8 (wI B3)), fun u _ => u = (.int .u32 (wI B3)), fun u _ => u = (.int .u32 (wI (B0 <<< 24 ||| B1 <<< 16 ||| B2 <<< 8 ||| B3))), fun u _ => u = (.pointer (some ⟨wb, m, none⟩))]) rfl (by kernel_rfl) (by kernel_rfl) (mono_of ⟨mono_eq, mono_eq, mono_eq, mono_eq, mono_eq, mono_eq, mono_eq, mono_eq, mono_eq, mono_eq, mono_eq, mono_eq, mono_eq, mono_eq, mono_eq, mono_eq, mono_eq, mono_eq, mono_eq, mono_eq, mono_eq, mono_eq, mono_eq, mono_eq, trivial⟩) (steps_of 24 ⟨?s0, ?s1, ?s2, ?s3, ?s4, ?s5, ?s6, ?s7, ?s8, ?s9, ?s10, ?s11, ?s12, ?s13, ?s14, ?s15, ?s16, ?s17, ?s18, ?s19, ?s20, ?s21, ?s22, ?s23, trivial⟩) ?_
      case s0 =>
        refine step_val (v := (.int .i64 m)) (fun av wv hE hS hO hD => ?_) (fun _ => rfl)
        have h5 : av.eval (.tmp 5) = (.int .i64 m) := hO.2.2 5 rfl
        have f5 := (ev_form av 5).symm.trans h5
        refine ⟨rfl, ?_⟩
        simp [go_sem, f5, wI_wrap, wI_mod, bv_shl24, bv_shl16, bv_shl8, bv_or, m64, hlt]
      case s1 =>
        refine step_val (v := (.slice (some ⟨hb, 8 + 4 * m, none⟩) 4 (64 - 4 * m))) (fun av wv hE hS hO hD => ?_) (fun _ => rfl)
        have h6 : av.eval (.tmp 6) = (.slice (some ⟨hb, 8 + 4 * m, none⟩) 4 (64 - 4 * m)) := hO.2.2 6 rfl
        have f6 := (ev_form av 6).symm.trans h6
        refine ⟨rfl, ?_⟩
        simp [go_sem, f6, wI_wrap, wI_mod, bv_shl24, bv_shl16, bv_shl8, bv_or, m64, hlt]
      case s2 =>
        refine step_val (v := (.pointer (some ⟨hb, 8 + 4 * m, none⟩))) (fun av wv hE hS hO hD => ?_) (fun _ => rfl)
        have d33 : av.eval (.tmp 33) = (.slice (some ⟨hb, 8 + 4 * m, none⟩) 4 (64 - 4 * m)) := hD.1 rfl _ rfl
        have f33 := (ev_form av 33).symm.trans d33
        refine ⟨rfl, ?_⟩
        simp [go_sem, f33, wI_wrap, wI_mod, bv_shl24, bv_shl16, bv_shl8, bv_or, m64, hlt]
      case s3 =>
        refine step_val (v := (.int .u8 (wI B0))) (fun av wv hE hS hO hD => ?_) (fun _ => rfl)
        have d34 : av.eval (.tmp 34) = (.pointer (some ⟨hb, 8 + 4 * m, none⟩)) := hD.1 rfl _ rfl
        have f34 := (ev_form av 34).symm.trans d34
        have q0 := extB_cell hE (by simp) q0
        have q1 := extB_cell hE (by simp) q1
        have q2 := extB_cell hE (by simp) q2
        have q3 := extB_cell hE (by simp) q3
        refine ⟨rfl, ?_⟩
        simp [go_sem, f34, q0, q1, q2, q3, wI_wrap, wI_mod, bv_shl24, bv_shl16, bv_shl8, bv_or, m64, hlt]
      case s4 =>
        refine step_val (v := (.int .u32 (wI B0))) (fun av wv hE hS hO hD => ?_) (fun _ => rfl)
        have d35 : av.eval (.tmp 35) = (.int .u8 (wI B0)) := hD.1 rfl _ rfl
        have f35 := (ev_form av 35).symm.trans d35
        refine ⟨rfl, ?_⟩
        simp [go_sem, f35, wI_wrap, wI_mod, bv_shl24, bv_shl16, bv_shl8, bv_or, m64, hlt]
      case s5 =>
        refine step_val (v := (.int .u32 (wI (B0 <<< 24)))) (fun av wv hE hS hO hD => ?_) (fun _ => rfl)
        have d36 : av.eval (.tmp 36) = (.int .u32 (wI B0)) := hD.1 rfl _ rfl
        have f36 := (ev_form av 36).symm.trans d36
        refine ⟨rfl, ?_⟩
        simp [go_sem, f36, wI_wrap, wI_mod, bv_shl24, bv_shl16, bv_shl8, bv_or, m64, hlt]
      case s6 =>
        refine step_val (v := (.slice (some ⟨hb, 8 + 4 * m, none⟩) 4 (64 - 4 * m))) (fun av wv hE hS hO hD => ?_) (fun _ => rfl)
        have h6 : av.eval (.tmp 6) = (.slice (some ⟨hb, 8 + 4 * m, none⟩) 4 (64 - 4 * m)) := hO.2.2 6 rfl
        have f6 := (ev_form av 6).symm.trans h6
        refine ⟨rfl, ?_⟩
        simp [go_sem, f6, wI_wrap, wI_mod, bv_shl24, bv_shl16, bv_shl8, bv_or, m64, hlt]
      case s7 =>
        refine step_val (v := (.pointer (some ⟨hb, 8 + 4 * m + 1, none⟩))) (fun av wv hE hS hO hD => ?_) (fun _ => rfl)
        have d38 : av.eval (.tmp 38) = (.slice (some ⟨hb, 8 + 4 * m, none⟩) 4 (64 - 4 * m)) := hD.1 rfl _ rfl
        have f38 := (ev_form av 38).symm.trans d38
        refine ⟨rfl, ?_⟩
        simp [go_sem, f38, wI_wrap, wI_mod, bv_shl24, bv_shl16, bv_shl8, bv_or, m64, hlt]
      case s8 =>
        refine step_val (v := (.int .u8 (wI B1))) (fun av wv hE hS hO hD => ?_) (fun _ => rfl)
        have d39 : av.eval (.tmp 39) = (.pointer (some ⟨hb, 8 + 4 * m + 1, none⟩)) := hD.1 rfl _ rfl
        have f39 := (ev_form av 39).symm.trans d39
        have q0 := extB_cell hE (by simp) q0
        have q1 := extB_cell hE (by simp) q1
        have q2 := extB_cell hE (by simp) q2
        have q3 := extB_cell hE (by simp) q3
        refine ⟨rfl, ?_⟩
        simp [go_sem, f39, q0, q1, q2, q3, wI_wrap, wI_mod, bv_shl24, bv_shl16, bv_shl8, bv_or, m64, hlt]
      case s9 =>
        refine step_val (v := (.int .u32 (wI B1))) (fun av wv hE hS hO hD => ?_) (fun _ => rfl)
        have d40 : av.eval (.tmp 40) = (.int .u8 (wI B1)) := hD.1 rfl _ rfl
        have f40 := (ev_form av 40).symm.trans d40
        refine ⟨rfl, ?_⟩
        simp [go_sem, f40, wI_wrap, wI_mod, bv_shl24, bv_shl16, bv_shl8, bv_or, m64, hlt]
      case s10 =>
        refine step_val (v := (.int .u32 (wI (B1 <<< 16)))) (fun av wv hE hS hO hD => ?_) (fun _ => rfl)
        have d41 : av.eval (.tmp 41) = (.int .u32 (wI B1)) := hD.1 rfl _ rfl
        have f41 := (ev_form av 41).symm.trans d41
        refine ⟨rfl, ?_⟩
        simp [go_sem, f41, wI_wrap, wI_mod, bv_shl24, bv_shl16, bv_shl8, bv_or, m64, hlt]
      case s11 =>
        refine step_val (v := (.int .u32 (wI (B0 <<< 24 ||| B1 <<< 16)))) (fun av wv hE hS hO hD => ?_) (fun _ => rfl)
        have d37 : av.eval (.tmp 37) = (.int .u32 (wI (B0 <<< 24))) := hD.1 rfl _ rfl
        have f37 := (ev_form av 37).symm.trans d37
        have d42 : av.eval (.tmp 42) = (.int .u32 (wI (B1 <<< 16))) := hD.2.1 rfl _ rfl
        have f42 := (ev_form av 42).symm.trans d42
        refine ⟨rfl, ?_⟩
        simp [go_sem, f37, f42, wI_wrap, wI_mod, bv_shl24, bv_shl16, bv_shl8, bv_or, m64, hlt]
      case s12 =>
        refine step_val (v := (.slice (some ⟨hb, 8 + 4 * m, none⟩) 4 (64 - 4 * m))) (fun av wv hE hS hO hD => ?_) (fun _ => rfl)
        have h6 : av.eval (.tmp 6) = (.slice (some ⟨hb, 8 + 4 * m, none⟩) 4 (64 - 4 * m)) := hO.2.2 6 rfl
        have f6 := (ev_form av 6).symm.trans h6
        refine ⟨rfl, ?_⟩
        simp [go_sem, f6, wI_wrap, wI_mod, bv_shl24, bv_shl16, bv_shl8, bv_or, m64, hlt]
      case s13 =>
        refine step_val (v := (.pointer (some ⟨hb, 8 + 4 * m + 2, none⟩))) (fun av wv hE hS hO hD => ?_) (fun _ => rfl)
        have d44 : av.eval (.tmp 44) = (.slice (some ⟨hb, 8 + 4 * m, none⟩) 4 (64 - 4 * m)) := hD.1 rfl _ rfl
        have f44 := (ev_form av 44).symm.trans d44
        refine ⟨rfl, ?_⟩
        simp [go_sem, f44, wI_wrap, wI_mod, bv_shl24, bv_shl16, bv_shl8, bv_or, m64, hlt]
      case s14 =>
        refine step_val (v := (.int .u8 (wI B2))) (fun av wv hE hS hO hD => ?_) (fun _ => rfl)
        have d45 : av.eval (.tmp 45) = (.pointer (some ⟨hb, 8 + 4 * m + 2, none⟩)) := hD.1 rfl _ rfl
        have f45 := (ev_form av 45).symm.trans d45
        have q0 := extB_cell hE (by simp) q0
        have q1 := extB_cell hE (by simp) q1
        have q2 := extB_cell hE (by simp) q2
        have q3 := extB_cell hE (by simp) q3
        refine ⟨rfl, ?_⟩
        simp [go_sem, f45, q0, q1, q2, q3, wI_wrap, wI_mod, bv_shl24, bv_shl16, bv_shl8, bv_or, m64, hlt]
      case s15 =>
        refine step_val (v := (.int .u32 (wI B2))) (fun av wv hE hS hO hD => ?_) (fun _ => rfl)
        have d46 : av.eval (.tmp 46) = (.int .u8 (wI B2)) := hD.1 rfl _ rfl
        have f46 := (ev_form av 46).symm.trans d46
        refine ⟨rfl, ?_⟩
        simp [go_sem, f46, wI_wrap, wI_mod, bv_shl24, bv_shl16, bv_shl8, bv_or, m64, hlt]
      case s16 =>
        refine step_val (v := (.int .u32 (wI (B2 <<< 8)))) (fun av wv hE hS hO hD => ?_) (fun _ => rfl)
        have d47 : av.eval (.tmp 47) = (.int .u32 (wI B2)) := hD.1 rfl _ rfl
        have f47 := (ev_form av 47).symm.trans d47
        refine ⟨rfl, ?_⟩
        simp [go_sem, f47, wI_wrap, wI_mod, bv_shl24, bv_shl16, bv_shl8, bv_or, m64, hlt]
      case s17 =>
        refine step_val (v := (.int .u32 (wI (B0 <<< 24 ||| B1 <<< 16 ||| B2 <<< 8)))) (fun av wv hE hS hO hD => ?_) (fun _ => rfl)
        have d43 : av.eval (.tmp 43) = (.int .u32 (wI (B0 <<< 24 ||| B1 <<< 16))) := hD.1 rfl _ rfl
        have f43 := (ev_form av 43).symm.trans d43
        have d48 : av.eval (.tmp 48) = (.int .u32 (wI (B2 <<< 8))) := hD.2.1 rfl _ rfl
        have f48 := (ev_form av 48).symm.trans d48
        refine ⟨rfl, ?_⟩
        simp [go_sem, f43, f48, wI_wrap, wI_mod, bv_shl24, bv_shl16, bv_shl8, bv_or, m64, hlt]
      case s18 =>
        refine step_val (v := (.slice (some ⟨hb, 8 + 4 * m, none⟩) 4 (64 - 4 * m))) (fun av wv hE hS hO hD => ?_) (fun _ => rfl)
        have h6 : av.eval (.tmp 6) = (.slice (some ⟨hb, 8 + 4 * m, none⟩) 4 (64 - 4 * m)) := hO.2.2 6 rfl
        have f6 := (ev_form av 6).symm.trans h6
        refine ⟨rfl, ?_⟩
        simp [go_sem, f6, wI_wrap, wI_mod, bv_shl24, bv_shl16, bv_shl8, bv_or, m64, hlt]
      case s19 =>
        refine step_val (v := (.pointer (some ⟨hb, 8 + 4 * m + 3, none⟩))) (fun av wv hE hS hO hD => ?_) (fun _ => rfl)
        have d50 : av.eval (.tmp 50) = (.slice (some ⟨hb, 8 + 4 * m, none⟩) 4 (64 - 4 * m)) := hD.1 rfl _ rfl
        have f50 := (ev_form av 50).symm.trans d50
        refine ⟨rfl, ?_⟩
        simp [go_sem, f50, wI_wrap, wI_mod, bv_shl24, bv_shl16, bv_shl8, bv_or, m64, hlt]
      case s20 =>
        refine step_val (v := (.int .u8 (wI B3))) (fun av wv hE hS hO hD => ?_) (fun _ => rfl)
        have d51 : av.eval (.tmp 51) = (.pointer (some ⟨hb, 8 + 4 * m + 3, none⟩)) := hD.1 rfl _ rfl
        have f51 := (ev_form av 51).symm.trans d51
        have q0 := extB_cell hE (by simp) q0
        have q1 := extB_cell hE (by simp) q1
        have q2 := extB_cell hE (by simp) q2
        have q3 := extB_cell hE (by simp) q3
        refine ⟨rfl, ?_⟩
        simp [go_sem, f51, q0, q1, q2, q3, wI_wrap, wI_mod, bv_shl24, bv_shl16, bv_shl8, bv_or, m64, hlt]
      case s21 =>
        refine step_val (v := (.int .u32 (wI B3))) (fun av wv hE hS hO hD => ?_) (fun _ => rfl)
        have d52 : av.eval (.tmp 52) = (.int .u8 (wI B3)) := hD.1 rfl _ rfl
        have f52 := (ev_form av 52).symm.trans d52
        refine ⟨rfl, ?_⟩
        simp [go_sem, f52, wI_wrap, wI_mod, bv_shl24, bv_shl16, bv_shl8, bv_or, m64, hlt]
      case s22 =>
        refine step_val (v := (.int .u32 (wI (B0 <<< 24 ||| B1 <<< 16 ||| B2 <<< 8 ||| B3)))) (fun av wv hE hS hO hD => ?_) (fun _ => rfl)
        have d49 : av.eval (.tmp 49) = (.int .u32 (wI (B0 <<< 24 ||| B1 <<< 16 ||| B2 <<< 8))) := hD.1 rfl _ rfl
        have f49 := (ev_form av 49).symm.trans d49
        have d53 : av.eval (.tmp 53) = (.int .u32 (wI B3)) := hD.2.1 rfl _ rfl
        have f53 := (ev_form av 53).symm.trans d53
        refine ⟨rfl, ?_⟩
        simp [go_sem, f49, f53, wI_wrap, wI_mod, bv_shl24, bv_shl16, bv_shl8, bv_or, m64, hlt]
      case s23 =>
        refine step_val (v := (.pointer (some ⟨wb, m, none⟩))) (fun av wv hE hS hO hD => ?_) (fun _ => rfl)
        have h4 : av.eval (.tmp 4) = (.pointer (some ⟨wb, 0, none⟩)) := hO.2.2 4 rfl
        have f4 := (ev_form av 4).symm.trans h4
        have d32 : av.eval (.tmp 32) = (.int .i64 m) := hD.1 rfl _ rfl
        have f32 := (ev_form av 32).symm.trans d32
        refine ⟨rfl, ?_⟩
        simp [go_sem, f4, f32, wI_wrap, wI_mod, bv_shl24, bv_shl16, bv_shl8, bv_or, m64, hlt]
      intro a' w' hE hO hall
      have hA := act_of_outer (ds := [32, 33, 34, 35, 36, 37, 38, 39, 40, 41, 42, 43, 44, 45, 46, 47, 48, 49, 50, 51, 52, 53, 54, 55]) rfl hO (by kernel_rfl)
      have e32 : (fun u _ => u = (.int .i64 m)) (a'.eval (.tmp 32)) w' := hall.1 _ rfl
      have e33 : (fun u _ => u = (.slice (some ⟨hb, 8 + 4 * m, none⟩) 4 (64 - 4 * m))) (a'.eval (.tmp 33)) w' := hall.2.1 _ rfl
      have e34 : (fun u _ => u = (.pointer (some ⟨hb, 8 + 4 * m, none⟩))) (a'.eval (.tmp 34)) w' := hall.2.2.1 _ rfl
      have e35 : (fun u _ => u = (.int .u8 (wI B0))) (a'.eval (.tmp 35)) w' := hall.2.2.2.1 _ rfl
      have e36 : (fun u _ => u = (.int .u32 (wI B0))) (a'.eval (.tmp 36)) w' := hall.2.2.2.2.1 _ rfl
      have e37 : (fun u _ => u = (.int .u32 (wI (B0 <<< 24)))) (a'.eval (.tmp 37)) w' := hall.2.2.2.2.2.1 _ rfl
      have e38 : (fun u _ => u = (.slice (some ⟨hb, 8 + 4 * m, none⟩) 4 (64 - 4 * m))) (a'.eval (.tmp 38)) w' := hall.2.2.2.2.2.2.1 _ rfl
      have e39 : (fun u _ => u = (.pointer (some ⟨hb, 8 + 4 * m + 1, none⟩))) (a'.eval (.tmp 39)) w' := hall.2.2.2.2.2.2.2.1 _ rfl
      have e40 : (fun u _ => u = (.int .u8 (wI B1))) (a'.eval (.tmp 40)) w' := hall.2.2.2.2.2.2.2.2.1 _ rfl
      have e41 : (fun u _ => u = (.int .u32 (wI B1))) (a'.eval (.tmp 41)) w' := hall.2.2.2.2.2.2.2.2.2.1 _ rfl
      have e42 : (fun u _ => u = (.int .u32 (wI (B1 <<< 16)))) (a'.eval (.tmp 42)) w' := hall.2.2.2.2.2.2.2.2.2.2.1 _ rfl
      have e43 : (fun u _ => u = (.int .u32 (wI (B0 <<< 24 ||| B1 <<< 16)))) (a'.eval (.tmp 43)) w' := hall.2.2.2.2.2.2.2.2.2.2.2.1 _ rfl
      have e44 : (fun u _ => u = (.slice (some ⟨hb, 8 + 4 * m, none⟩) 4 (64 - 4 * m))) (a'.eval (.tmp 44)) w' := hall.2.2.2.2.2.2.2.2.2.2.2.2.1 _ rfl
      have e45 : (fun u _ => u = (.pointer (some ⟨hb, 8 + 4 * m + 2, none⟩))) (a'.eval (.tmp 45)) w' := hall.2.2.2.2.2.2.2.2.2.2.2.2.2.1 _ rfl
      have e46 : (fun u _ => u = (.int .u8 (wI B2))) (a'.eval (.tmp 46)) w' := hall.2.2.2.2.2.2.2.2.2.2.2.2.2.2.1 _ rfl
      have e47 : (fun u _ => u = (.int .u32 (wI B2))) (a'.eval (.tmp 47)) w' := hall.2.2.2.2.2.2.2.2.2.2.2.2.2.2.2.1 _ rfl
      have e48 : (fun u _ => u = (.int .u32 (wI (B2 <<< 8)))) (a'.eval (.tmp 48)) w' := hall.2.2.2.2.2.2.2.2.2.2.2.2.2.2.2.2.1 _ rfl
      have e49 : (fun u _ => u = (.int .u32 (wI (B0 <<< 24 ||| B1 <<< 16 ||| B2 <<< 8)))) (a'.eval (.tmp 49)) w' := hall.2.2.2.2.2.2.2.2.2.2.2.2.2.2.2.2.2.1 _ rfl
      have e50 : (fun u _ => u = (.slice (some ⟨hb, 8 + 4 * m, none⟩) 4 (64 - 4 * m))) (a'.eval (.tmp 50)) w' := hall.2.2.2.2.2.2.2.2.2.2.2.2.2.2.2.2.2.2.1 _ rfl
      have e51 : (fun u _ => u = (.pointer (some ⟨hb, 8 + 4 * m + 3, none⟩))) (a'.eval (.tmp 51)) w' := hall.2.2.2.2.2.2.2.2.2.2.2.2.2.2.2.2.2.2.2.1 _ rfl
      have e52 : (fun u _ => u = (.int .u8 (wI B3))) (a'.eval (.tmp 52)) w' := hall.2.2.2.2.2.2.2.2.2.2.2.2.2.2.2.2.2.2.2.2.1 _ rfl
      have e53 : (fun u _ => u = (.int .u32 (wI B3))) (a'.eval (.tmp 53)) w' := hall.2.2.2.2.2.2.2.2.2.2.2.2.2.2.2.2.2.2.2.2.2.1 _ rfl
      have e54 : (fun u _ => u = (.int .u32 (wI (B0 <<< 24 ||| B1 <<< 16 ||| B2 <<< 8 ||| B3)))) (a'.eval (.tmp 54)) w' := hall.2.2.2.2.2.2.2.2.2.2.2.2.2.2.2.2.2.2.2.2.2.2.1 _ rfl
      have e55 : (fun u _ => u = (.pointer (some ⟨wb, m, none⟩))) (a'.eval (.tmp 55)) w' := hall.2.2.2.2.2.2.2.2.2.2.2.2.2.2.2.2.2.2.2.2.2.2.2.1 _ rfl
      simp only [List.foldl_cons, List.foldl_nil, Act.put, List.setIfInBounds_toArray, List.set_cons_succ, List.set_cons_zero, e32, e33, e34, e35, e36, e37, e38, e39, e40, e41, e42, e43, e44, e45, e46, e47, e48, e49, e50, e51, e52, e53, e54, e55] at hA
      clear hO hall e32 e33 e34 e35 e36 e37 e38 e39 e40 e41 e42 e43 e44 e45 e46 e47 e48 e49 e50 e51 e52 e53 e54 e55
      subst hA
      have hX := of_drew hE
      have hN := HN.out
      have hWs : w'.heap[wb]? = some (.cells (wsC (headZ r m)) 294 (0, 0)) := (hX.block _ (lt_of_block HW.out)).trans HW.out
      have HWS := Lib.hid hWs
      have HX2 : Hid (ExtB (some hb) w w') := Lib.hid (ExtB_trans _ _ _ _ HX.out (extB_of_below hX))
      have H2 : Hid (w'.heap[hb]? = some (.cells (hshC v r n) 250 (0, 0))) := Lib.hid ((hX.block _ (lt_of_block H.out)).trans H.out)
      have c0 : w'.cell? ⟨wb, m, none⟩ = some (wV (wth (headZ r m) m)) := by rw [block_cell hWs, wsC_at _ _ (by rw [headZ_len r m (by omega)]; omega)]
      have f0 : w'.frozen? ⟨wb, m, none⟩ = false := block_free hWs m
      have l0 : wb < w'.heap.size := lt_of_block hWs
      clear hE hX q0 q1 q2 q3 m64 hWs
      go_wp2
      go_roundg (16 - (m + 1))
      case rel => exact ⟨m + 1, by omega, by go_num, Lib.hid (by rw [HW4.out, ← headZ_next r m (by omega)]; have := block_setCell HWS.out (o := m) (wV (w4 (bth r (4 * m)) (bth r (4 * m + 1)) (bth r (4 * m + 2)) (bth r (4 * m + 3)))); rw [wsC_set] at this; exact this), Lib.hid (extB_newset HX2.out (Nat.le_of_eq hwb) _ _), block_setCell_ne H2.out (show hb ≠ wb by omega) _⟩
      case measure => omega
    · obtain rfl : m = 16 := by omega
      have i1 : ¬ ((16 : Nat) : Int) < 16 := by decide
      rw [headZ_more] at HW
      clear hm hlt
      go_wp2
      go_loopg [8] 48 (fun g i wr => ∃ j : Nat, g + j = 48 ∧ i = .int .i64 ((16 + j : Nat) : Int) ∧ Hid (wr.heap[wb]? = some (.cells (wsC (moreZ r j)) 294 (0, 0))) ∧ Hid (ExtB (some hb) w wr) ∧ Hid (wr.heap[hb]? = some (.cells (hshC v r n) 250 (0, 0))))
      case atStart => exact ⟨0, rfl, rfl, HW.out, HX.out, H.out⟩
      case round =>
        clear HW HX H
        obtain ⟨j, hj, rfl, HW, HX, H⟩ := hrel
        obtain ⟨t, ht⟩ : ∃ t, 16 + j = t := ⟨_, rfl⟩
        rw [ht]
        by_cases hlt : t < 64
        · have i2 : ((t : Nat) : Int) < 64 := by omega
          obtain ⟨p16, e16⟩ : ∃ p, t = p + 16 := ⟨t - 16, by omega⟩
          obtain ⟨p15, e15⟩ : ∃ p, t = p + 15 := ⟨t - 15, by omega⟩
          obtain ⟨p7, e7⟩ : ∃ p, t = p + 7 := ⟨t - 7, by omega⟩
          obtain ⟨p2, e2⟩ : ∃ p, t = p + 2 := ⟨t - 2, by omega⟩
          have k16 : IntKind.i64.wrap ((t : Int) - 16) = (p16 : Int) := by rw [IntWalk.i64_in _ (by omega)]; omega
          have k15 : IntKind.i64.wrap ((t : Int) - 15) = (p15 : Int) := by rw [IntWalk.i64_in _ (by omega)]; omega
          have k7 : IntKind.i64.wrap ((t : Int) - 7) = (p7 : Int) := by rw [IntWalk.i64_in _ (by omega)]; omega
          have k2 : IntKind.i64.wrap ((t : Int) - 2) = (p2 : Int) := by rw [IntWalk.i64_in _ (by omega)]; omega
          have b16 : ¬ (64 : Int) ≤ (p16 : Int) := by omega
          have b15 : ¬ (64 : Int) ≤ (p15 : Int) := by omega
          have b7 : ¬ (64 : Int) ≤ (p7 : Int) := by omega
          have b2 : ¬ (64 : Int) ≤ (p2 : Int) := by omega
          have bt : ¬ (64 : Int) ≤ (t : Int) := by omega
          go_upto_region 11 with fail
          obtain ⟨W, hW⟩ : ∃ W, wr = W := ⟨_, rfl⟩
          rw [hW] at HW HX H ⊢
          clear hW
          obtain ⟨A, hA⟩ : ∃ x, wth (moreW (headW r 16) j) p16 = x := ⟨_, rfl⟩
          obtain ⟨B, hB⟩ : ∃ x, wth (moreW (headW r 16) j) p15 = x := ⟨_, rfl⟩
          obtain ⟨C, hC⟩ : ∃ x, wth (moreW (headW r 16) j) p7 = x := ⟨_, rfl⟩
          obtain ⟨D, hD⟩ : ∃ x, wth (moreW (headW r 16) j) p2 = x := ⟨_, rfl⟩
          have hlm := moreZ_len r j (by omega)
          have z16 : W.cell? ⟨wb, p16, none⟩ = some (.int .u32 (wI A)) := by rw [block_cell HW.out, wsC_at _ _ (by omega), moreZ_at _ _ _ (by omega), hA]
          have z15 : W.cell? ⟨wb, p15, none⟩ = some (.int .u32 (wI B)) := by rw [block_cell HW.out, wsC_at _ _ (by omega), moreZ_at _ _ _ (by omega), hB]
          have z7 : W.cell? ⟨wb, p7, none⟩ = some (.int .u32 (wI C)) := by rw [block_cell HW.out, wsC_at _ _ (by omega), moreZ_at _ _ _ (by omega), hC]
          have z2 : W.cell? ⟨wb, p2, none⟩ = some (.int .u32 (wI D)) := by rw [block_cell HW.out, wsC_at _ _ (by omega), moreZ_at _ _ _ (by omega), hD]
          have HNX : Hid (A + mixW B 7 18 3 + C + mixW D 17 19 10 = nextW (moreW (headW r 16) j) t) := Lib.hid (by rw [← hA, ← hB, ← hC, ← hD]; unfold nextW; rw [show t - 16 = p16 by omega, show t - 15 = p15 by omega, show t - 7 = p7 by omega, show t - 2 = p2 by omega]; rfl)
          clear hA hB hC hD e16 e15 e7 e2
          refine wp_region_tail 25 1000 (none) (phis [fun u _ => u = (.int .i64 t), fun u _ => u = (.int .i64 t), fun u _ => u = (.int .i64 p16), fun u _ => u = (.pointer (some ⟨wb, p16, none⟩)), fun u _ => u = (.int .u32 (wI A)), fun u _ => u = (.func (.func 270) #[] #[]), fun u _ => u = (.int .i64 t), fun u _ => u = (.int .i64 p15), fun u _ => u = (.pointer (some ⟨wb, p15, none⟩)), fun u _ => u = (.int .u32 (wI B)), fun u _ => u = (.int .u32 (wI (mixW B 7 18 3))), fun u _ => u = (.int .u32 (wI (A + mixW B 7 18 3))), fun u _ => u = (.int .i64 t), fun u _ => u = (.int .i64 p7), fun u _ => u = (.pointer (some ⟨wb, p7, none⟩)), fun u _ => u = (.int .u32 (wI C)), fun u _ => u = (.int .u32 (wI (A + mixW B 7 18 3 + C))), fun u _ => u = (.func (.func 270) #[] #[]), fun u _ => u = (.int .i64 t), fun u _ => u = (.int .i64 p2), fun u _ => u = (.pointer (some ⟨wb, p2, none⟩)), fun u _ => u = (.int .u32 (wI D)), fun u _ => u = (.int .u32 (wI (mixW D 17 19 10))), fun u _ => u = (.int .u32 (wI (A + mixW B 7 18 3 + C + mixW D 17 19 10))), fun u _ => u = (.pointer (some ⟨wb, t, none⟩))]) rfl (by kernel_rfl) (by kernel_rfl) (mono_of ⟨mono_eq, mono_eq, mono_eq, mono_eq, mono_eq, mono_eq, mono_eq, mono_eq, mono_eq, mono_eq, mono_eq, mono_eq, mono_eq, mono_eq, mono_eq, mono_eq, mono_eq, mono_eq, mono_eq, mono_eq, mono_eq, mono_eq, mono_eq, mono_eq, mono_eq, trivial⟩) (steps_of 25 ⟨?s0, ?s1, ?s2, ?s3, ?s4, ?s5, ?s6, ?s7, ?s8, ?s9, ?s10, ?s11, ?s12, ?s13, ?s14, ?s15, ?s16, ?s17, ?s18, ?s19, ?s20, ?s21, ?s22, ?s23, ?s24, trivial⟩) ?_
          case s0 =>
            refine step_val (v := (.int .i64 t)) (fun av wv hE hS hO hD => ?_) (fun _ => rfl)
            have h8 : av.eval (.tmp 8) = (.int .i64 t) := hO.2.2 8 rfl
            have f8 := (ev_form av 8).symm.trans h8
            refine ⟨rfl, ?_⟩
            simp [go_sem, f8, k16, k15, k7, k2, b16, b15, b7, b2, bt, bv_addm, bv_add]
          case s1 =>
            refine step_val (v := (.int .i64 t)) (fun av wv hE hS hO hD => ?_) (fun _ => rfl)
            have h8 : av.eval (.tmp 8) = (.int .i64 t) := hO.2.2 8 rfl
            have f8 := (ev_form av 8).symm.trans h8
            refine ⟨rfl, ?_⟩
            simp [go_sem, f8, k16, k15, k7, k2, b16, b15, b7, b2, bt, bv_addm, bv_add]
          case s2 =>
            refine step_val (v := (.int .i64 p16)) (fun av wv hE hS hO hD => ?_) (fun _ => rfl)
            have d62 : av.eval (.tmp 62) = (.int .i64 t) := hD.1 rfl _ rfl
            have f62 := (ev_form av 62).symm.trans d62
            refine ⟨rfl, ?_⟩
            simp [go_sem, f62, k16, k15, k7, k2, b16, b15, b7, b2, bt, bv_addm, bv_add]
          case s3 =>
            refine step_val (v := (.pointer (some ⟨wb, p16, none⟩))) (fun av wv hE hS hO hD => ?_) (fun _ => rfl)
            have h4 : av.eval (.tmp 4) = (.pointer (some ⟨wb, 0, none⟩)) := hO.2.2 4 rfl
            have f4 := (ev_form av 4).symm.trans h4
            have d63 : av.eval (.tmp 63) = (.int .i64 p16) := hD.1 rfl _ rfl
            have f63 := (ev_form av 63).symm.trans d63
            refine ⟨rfl, ?_⟩
            simp [go_sem, f4, f63, k16, k15, k7, k2, b16, b15, b7, b2, bt, bv_addm, bv_add]
          case s4 =>
            refine step_val (v := (.int .u32 (wI A))) (fun av wv hE hS hO hD => ?_) (fun _ => rfl)
            have d64 : av.eval (.tmp 64) = (.pointer (some ⟨wb, p16, none⟩)) := hD.1 rfl _ rfl
            have f64 := (ev_form av 64).symm.trans d64
            have z16 := extB_cell hE (by simp) z16
            have z15 := extB_cell hE (by simp) z15
            have z7 := extB_cell hE (by simp) z7
            have z2 := extB_cell hE (by simp) z2
            refine ⟨rfl, ?_⟩
            simp [go_sem, f64, z16, z15, z7, z2, k16, k15, k7, k2, b16, b15, b7, b2, bt, bv_addm, bv_add]
          case s5 =>
            refine step_val (v := (.func (.func 270) #[] #[])) (fun av wv hE hS hO hD => ?_) (fun _ => rfl)
            have h7 : av.eval (.tmp 7) = (.func (.func 270) #[] #[]) := hO.2.2 7 rfl
            have f7 := (ev_form av 7).symm.trans h7
            refine ⟨rfl, ?_⟩
            simp [go_sem, f7, k16, k15, k7, k2, b16, b15, b7, b2, bt, bv_addm, bv_add]
          case s6 =>
            refine step_val (v := (.int .i64 t)) (fun av wv hE hS hO hD => ?_) (fun _ => rfl)
            have h8 : av.eval (.tmp 8) = (.int .i64 t) := hO.2.2 8 rfl
            have f8 := (ev_form av 8).symm.trans h8
            refine ⟨rfl, ?_⟩
            simp [go_sem, f8, k16, k15, k7, k2, b16, b15, b7, b2, bt, bv_addm, bv_add]
          case s7 =>
            refine step_val (v := (.int .i64 p15)) (fun av wv hE hS hO hD => ?_) (fun _ => rfl)
            have d67 : av.eval (.tmp 67) = (.int .i64 t) := hD.1 rfl _ rfl
            have f67 := (ev_form av 67).symm.trans d67
            refine ⟨rfl, ?_⟩
            simp [go_sem, f67, k16, k15, k7, k2, b16, b15, b7, b2, bt, bv_addm, bv_add]
          case s8 =>
            refine step_val (v := (.pointer (some ⟨wb, p15, none⟩))) (fun av wv hE hS hO hD => ?_) (fun _ => rfl)
            have h4 : av.eval (.tmp 4) = (.pointer (some ⟨wb, 0, none⟩)) := hO.2.2 4 rfl
            have f4 := (ev_form av 4).symm.trans h4
            have d68 : av.eval (.tmp 68) = (.int .i64 p15) := hD.1 rfl _ rfl
            have f68 := (ev_form av 68).symm.trans d68
            refine ⟨rfl, ?_⟩
            simp [go_sem, f4, f68, k16, k15, k7, k2, b16, b15, b7, b2, bt, bv_addm, bv_add]
          case s9 =>
            refine step_val (v := (.int .u32 (wI B))) (fun av wv hE hS hO hD => ?_) (fun _ => rfl)
            have d69 : av.eval (.tmp 69) = (.pointer (some ⟨wb, p15, none⟩)) := hD.1 rfl _ rfl
            have f69 := (ev_form av 69).symm.trans d69
            have z16 := extB_cell hE (by simp) z16
            have z15 := extB_cell hE (by simp) z15
            have z7 := extB_cell hE (by simp) z7
            have z2 := extB_cell hE (by simp) z2
            refine ⟨rfl, ?_⟩
            simp [go_sem, f69, z16, z15, z7, z2, k16, k15, k7, k2, b16, b15, b7, b2, bt, bv_addm, bv_add]
          case s10 =>
            refine step_wp (fun av wv hE hS hO hD => ?_)
            have d66 : av.eval (.tmp 66) = (.func (.func 270) #[] #[]) := hD.1 rfl _ rfl
            have f66 := (ev_form av 66).symm.trans d66
            have d70 : av.eval (.tmp 70) = (.int .u32 (wI B)) := hD.2.1 rfl _ rfl
            have f70 := (ev_form av 70).symm.trans d70
            refine ⟨rfl, ?_⟩
            refine wp_of_call (v := .int .u32 (wI (mixW B 7 18 3))) (by simp [go_sem, f66, f70]) (mix_any B 7 18 3 wv (by decide) (by decide) (by decide)) (fun w2 hb => ⟨_, rfl, es_of_ext hb, rfl⟩)
          case s11 =>
            refine step_val (v := (.int .u32 (wI (A + mixW B 7 18 3)))) (fun av wv hE hS hO hD => ?_) (fun _ => rfl)
            have d65 : av.eval (.tmp 65) = (.int .u32 (wI A)) := hD.1 rfl _ rfl
            have f65 := (ev_form av 65).symm.trans d65
            have d71 : av.eval (.tmp 71) = (.int .u32 (wI (mixW B 7 18 3))) := hD.2.1 rfl _ rfl
            have f71 := (ev_form av 71).symm.trans d71
            refine ⟨rfl, ?_⟩
            simp [go_sem, f65, f71, k16, k15, k7, k2, b16, b15, b7, b2, bt, bv_addm, bv_add]
          case s12 =>
            refine step_val (v := (.int .i64 t)) (fun av wv hE hS hO hD => ?_) (fun _ => rfl)
            have h8 : av.eval (.tmp 8) = (.int .i64 t) := hO.2.2 8 rfl
            have f8 := (ev_form av 8).symm.trans h8
            refine ⟨rfl, ?_⟩
            simp [go_sem, f8, k16, k15, k7, k2, b16, b15, b7, b2, bt, bv_addm, bv_add]
          case s13 =>
            refine step_val (v := (.int .i64 p7)) (fun av wv hE hS hO hD => ?_) (fun _ => rfl)
            have d73 : av.eval (.tmp 73) = (.int .i64 t) := hD.1 rfl _ rfl
            have f73 := (ev_form av 73).symm.trans d73
            refine ⟨rfl, ?_⟩
            simp [go_sem, f73, k16, k15, k7, k2, b16, b15, b7, b2, bt, bv_addm, bv_add]
          case s14 =>
            refine step_val (v := (.pointer (some ⟨wb, p7, none⟩))) (fun av wv hE hS hO hD => ?_) (fun _ => rfl)
            have h4 : av.eval (.tmp 4) = (.pointer (some ⟨wb, 0, none⟩)) := hO.2.2 4 rfl
            have f4 := (ev_form av 4).symm.trans h4
            have d74 : av.eval (.tmp 74) = (.int .i64 p7) := hD.1 rfl _ rfl
            have f74 := (ev_form av 74).symm.trans d74
            refine ⟨rfl, ?_⟩
            simp [go_sem, f4, f74, k16, k15, k7, k2, b16, b15, b7, b2, bt, bv_addm, bv_add]
          case s15 =>
            refine step_val (v := (.int .u32 (wI C))) (fun av wv hE hS hO hD => ?_) (fun _ => rfl)
            have d75 : av.eval (.tmp 75) = (.pointer (some ⟨wb, p7, none⟩)) := hD.1 rfl _ rfl
            have f75 := (ev_form av 75).symm.trans d75
            have z16 := extB_cell hE (by simp) z16
            have z15 := extB_cell hE (by simp) z15
            have z7 := extB_cell hE (by simp) z7
            have z2 := extB_cell hE (by simp) z2
            refine ⟨rfl, ?_⟩
            simp [go_sem, f75, z16, z15, z7, z2, k16, k15, k7, k2, b16, b15, b7, b2, bt, bv_addm, bv_add]
          case s16 =>
            refine step_val (v := (.int .u32 (wI (A + mixW B 7 18 3 + C)))) (fun av wv hE hS hO hD => ?_) (fun _ => rfl)
            have d72 : av.eval (.tmp 72) = (.int .u32 (wI (A + mixW B 7 18 3))) := hD.1 rfl _ rfl
            have f72 := (ev_form av 72).symm.trans d72
            have d76 : av.eval (.tmp 76) = (.int .u32 (wI C)) := hD.2.1 rfl _ rfl
            have f76 := (ev_form av 76).symm.trans d76
            refine ⟨rfl, ?_⟩
            simp [go_sem, f72, f76, k16, k15, k7, k2, b16, b15, b7, b2, bt, bv_addm, bv_add]
          case s17 =>
            refine step_val (v := (.func (.func 270) #[] #[])) (fun av wv hE hS hO hD => ?_) (fun _ => rfl)
            have h7 : av.eval (.tmp 7) = (.func (.func 270) #[] #[]) := hO.2.2 7 rfl
            have f7 := (ev_form av 7).symm.trans h7
            refine ⟨rfl, ?_⟩
            simp [go_sem, f7, k16, k15, k7, k2, b16, b15, b7, b2, bt, bv_addm, bv_add]
          case s18 =>
            refine step_val (v := (.int .i64 t)) (fun av wv hE hS hO hD => ?_) (fun _ => rfl)
            have h8 : av.eval (.tmp 8) = (.int .i64 t) := hO.2.2 8 rfl
            have f8 := (ev_form av 8).symm.trans h8
            refine ⟨rfl, ?_⟩
            simp [go_sem, f8, k16, k15, k7, k2, b16, b15, b7, b2, bt, bv_addm, bv_add]
          case s19 =>
            refine step_val (v := (.int .i64 p2)) (fun av wv hE hS hO hD => ?_) (fun _ => rfl)
            have d79 : av.eval (.tmp 79) = (.int .i64 t) := hD.1 rfl _ rfl
            have f79 := (ev_form av 79).symm.trans d79
            refine ⟨rfl, ?_⟩
            simp [go_sem, f79, k16, k15, k7, k2, b16, b15, b7, b2, bt, bv_addm, bv_add]
          case s20 =>
            refine step_val (v := (.pointer (some ⟨wb, p2, none⟩))) (fun av wv hE hS hO hD => ?_) (fun _ => rfl)
            have h4 : av.eval (.tmp 4) = (.pointer (some ⟨wb, 0, none⟩)) := hO.2.2 4 rfl
            have f4 := (ev_form av 4).symm.trans h4
            have d80 : av.eval (.tmp 80) = (.int .i64 p2) := hD.1 rfl _ rfl
            have f80 := (ev_form av 80).symm.trans d80
            refine ⟨rfl, ?_⟩
            simp [go_sem, f4, f80, k16, k15, k7, k2, b16, b15, b7, b2, bt, bv_addm, bv_add]
          case s21 =>
            refine step_val (v := (.int .u32 (wI D))) (fun av wv hE hS hO hD => ?_) (fun _ => rfl)
            have d81 : av.eval (.tmp 81) = (.pointer (some ⟨wb, p2, none⟩)) := hD.1 rfl _ rfl
            have f81 := (ev_form av 81).symm.trans d81
            have z16 := extB_cell hE (by simp) z16
            have z15 := extB_cell hE (by simp) z15
            have z7 := extB_cell hE (by simp) z7
            have z2 := extB_cell hE (by simp) z2
            refine ⟨rfl, ?_⟩
            simp [go_sem, f81, z16, z15, z7, z2, k16, k15, k7, k2, b16, b15, b7, b2, bt, bv_addm, bv_add]
          case s22 =>
            refine step_wp (fun av wv hE hS hO hD => ?_)
            have d78 : av.eval (.tmp 78) = (.func (.func 270) #[] #[]) := hD.1 rfl _ rfl
            have f78 := (ev_form av 78).symm.trans d78
            have d82 : av.eval (.tmp 82) = (.int .u32 (wI D)) := hD.2.1 rfl _ rfl
            have f82 := (ev_form av 82).symm.trans d82
            refine ⟨rfl, ?_⟩
            refine wp_of_call (v := .int .u32 (wI (mixW D 17 19 10))) (by simp [go_sem, f78, f82]) (mix_any D 17 19 10 wv (by decide) (by decide) (by decide)) (fun w2 hb => ⟨_, rfl, es_of_ext hb, rfl⟩)
          case s23 =>
            refine step_val (v := (.int .u32 (wI (A + mixW B 7 18 3 + C + mixW D 17 19 10)))) (fun av wv hE hS hO hD => ?_) (fun _ => rfl)
            have d77 : av.eval (.tmp 77) = (.int .u32 (wI (A + mixW B 7 18 3 + C))) := hD.1 rfl _ rfl
            have f77 := (ev_form av 77).symm.trans d77
            have d83 : av.eval (.tmp 83) = (.int .u32 (wI (mixW D 17 19 10))) := hD.2.1 rfl _ rfl
            have f83 := (ev_form av 83).symm.trans d83
            refine ⟨rfl, ?_⟩
            simp [go_sem, f77, f83, k16, k15, k7, k2, b16, b15, b7, b2, bt, bv_addm, bv_add]
          case s24 =>
            refine step_val (v := (.pointer (some ⟨wb, t, none⟩))) (fun av wv hE hS hO hD => ?_) (fun _ => rfl)
            have h4 : av.eval (.tmp 4) = (.pointer (some ⟨wb, 0, none⟩)) := hO.2.2 4 rfl
            have f4 := (ev_form av 4).symm.trans h4
            have d61 : av.eval (.tmp 61) = (.int .i64 t) := hD.1 rfl _ rfl
            have f61 := (ev_form av 61).symm.trans d61
            refine ⟨rfl, ?_⟩
            simp [go_sem, f4, f61, k16, k15, k7, k2, b16, b15, b7, b2, bt, bv_addm, bv_add]
          intro a' w' hE hO hall
          have hA := act_of_outer (ds := [61, 62, 63, 64, 65, 66, 67, 68, 69, 70, 71, 72, 73, 74, 75, 76, 77, 78, 79, 80, 81, 82, 83, 84, 85]) rfl hO (by kernel_rfl)
          have e61 : (fun u _ => u = (.int .i64 t)) (a'.eval (.tmp 61)) w' := hall.1 _ rfl
          have e62 : (fun u _ => u = (.int .i64 t)) (a'.eval (.tmp 62)) w' := hall.2.1 _ rfl
          have e63 : (fun u _ => u = (.int .i64 p16)) (a'.eval (.tmp 63)) w' := hall.2.2.1 _ rfl
          have e64 : (fun u _ => u = (.pointer (some ⟨wb, p16, none⟩))) (a'.eval (.tmp 64)) w' := hall.2.2.2.1 _ rfl
          have e65 : (fun u _ => u = (.int .u32 (wI A))) (a'.eval (.tmp 65)) w' := hall.2.2.2.2.1 _ rfl
          have e66 : (fun u _ => u = (.func (.func 270) #[] #[])) (a'.eval (.tmp 66)) w' := hall.2.2.2.2.2.1 _ rfl
          have e67 : (fun u _ => u = (.int .i64 t)) (a'.eval (.tmp 67)) w' := hall.2.2.2.2.2.2.1 _ rfl
          have e68 : (fun u _ => u = (.int .i64 p15)) (a'.eval (.tmp 68)) w' := hall.2.2.2.2.2.2.2.1 _ rfl
          have e69 : (fun u _ => u = (.pointer (some ⟨wb, p15, none⟩))) (a'.eval (.tmp 69)) w' := hall.2.2.2.2.2.2.2.2.1 _ rfl
          have e70 : (fun u _ => u = (.int .u32 (wI B))) (a'.eval (.tmp 70)) w' := hall.2.2.2.2.2.2.2.2.2.1 _ rfl
          have e71 : (fun u _ => u = (.int .u32 (wI (mixW B 7 18 3)))) (a'.eval (.tmp 71)) w' := hall.2.2.2.2.2.2.2.2.2.2.1 _ rfl
          have e72 : (fun u _ => u = (.int .u32 (wI (A + mixW B 7 18 3)))) (a'.eval (.tmp 72)) w' := hall.2.2.2.2.2.2.2.2.2.2.2.1 _ rfl
          have e73 : (fun u _ => u = (.int .i64 t)) (a'.eval (.tmp 73)) w' := hall.2.2.2.2.2.2.2.2.2.2.2.2.1 _ rfl
          have e74 : (fun u _ => u = (.int .i64 p7)) (a'.eval (.tmp 74)) w' := hall.2.2.2.2.2.2.2.2.2.2.2.2.2.1 _ rfl
          have e75 : (fun u _ => u = (.pointer (some ⟨wb, p7, none⟩))) (a'.eval (.tmp 75)) w' := hall.2.2.2.2.2.2.2.2.2.2.2.2.2.2.1 _ rfl
          have e76 : (fun u _ => u = (.int .u32 (wI C))) (a'.eval (.tmp 76)) w' := hall.2.2.2.2.2.2.2.2.2.2.2.2.2.2.2.1 _ rfl
          have e77 : (fun u _ => u = (.int .u32 (wI (A + mixW B 7 18 3 + C)))) (a'.eval (.tmp 77)) w' := hall.2.2.2.2.2.2.2.2.2.2.2.2.2.2.2.2.1 _ rfl
          have e78 : (fun u _ => u = (.func (.func 270) #[] #[])) (a'.eval (.tmp 78)) w' := hall.2.2.2.2.2.2.2.2.2.2.2.2.2.2.2.2.2.1 _ rfl
          have e79 : (fun u _ => u = (.int .i64 t)) (a'.eval (.tmp 79)) w' := hall.2.2.2.2.2.2.2.2.2.2.2.2.2.2.2.2.2.2.1 _ rfl
          have e80 : (fun u _ => u = (.int .i64 p2)) (a'.eval (.tmp 80)) w' := hall.2.2.2.2.2.2.2.2.2.2.2.2.2.2.2.2.2.2.2.1 _ rfl
          have e81 : (fun u _ => u = (.pointer (some ⟨wb, p2, none⟩))) (a'.eval (.tmp 81)) w' := hall.2.2.2.2.2.2.2.2.2.2.2.2.2.2.2.2.2.2.2.2.1 _ rfl
          have e82 : (fun u _ => u = (.int .u32 (wI D))) (a'.eval (.tmp 82)) w' := hall.2.2.2.2.2.2.2.2.2.2.2.2.2.2.2.2.2.2.2.2.2.1 _ rfl
          have e83 : (fun u _ => u = (.int .u32 (wI (mixW D 17 19 10)))) (a'.eval (.tmp 83)) w' := hall.2.2.2.2.2.2.2.2.2.2.2.2.2.2.2.2.2.2.2.2.2.2.1 _ rfl
          have e84 : (fun u _ => u = (.int .u32 (wI (A + mixW B 7 18 3 + C + mixW D 17 19 10)))) (a'.eval (.tmp 84)) w' := hall.2.2.2.2.2.2.2.2.2.2.2.2.2.2.2.2.2.2.2.2.2.2.2.1 _ rfl
          have e85 : (fun u _ => u = (.pointer (some ⟨wb, t, none⟩))) (a'.eval (.tmp 85)) w' := hall.2.2.2.2.2.2.2.2.2.2.2.2.2.2.2.2.2.2.2.2.2.2.2.2.1 _ rfl
          simp only [List.foldl_cons, List.foldl_nil, Act.put, List.setIfInBounds_toArray, List.set_cons_succ, List.set_cons_zero, e61, e62, e63, e64, e65, e66, e67, e68, e69, e70, e71, e72, e73, e74, e75, e76, e77, e78, e79, e80, e81, e82, e83, e84, e85] at hA
          clear hO hall e61 e62 e63 e64 e65 e66 e67 e68 e69 e70 e71 e72 e73 e74 e75 e76 e77 e78 e79 e80 e81 e82 e83 e84 e85
          subst hA
          have hX := of_drew hE
          have hWs : w'.heap[wb]? = some (.cells (wsC (moreZ r j)) 294 (0, 0)) := (hX.block _ (lt_of_block HW.out)).trans HW.out
          have HWS := Lib.hid hWs
          have HX2 : Hid (ExtB (some hb) w w') := Lib.hid (ExtB_trans _ _ _ _ HX.out (extB_of_below hX))
          have H2 : Hid (w'.heap[hb]? = some (.cells (hshC v r n) 250 (0, 0))) := Lib.hid ((hX.block _ (lt_of_block H.out)).trans H.out)
          have c0 : w'.cell? ⟨wb, t, none⟩ = some (wV (wth (moreZ r j) t)) := by rw [block_cell hWs, wsC_at _ _ (by omega)]
          have f0 : w'.frozen? ⟨wb, t, none⟩ = false := block_free hWs t
          have l0 : wb < w'.heap.size := lt_of_block hWs
          clear hE hX z16 z15 z7 z2 hWs k16 k15 k7 k2 b16 b15 b7 b2 bt
          go_wp2
          go_roundg (48 - (j + 1))
          case rel => exact ⟨j + 1, by omega, by go_num, Lib.hid (by have h9 := block_setCell HWS.out (o := t) (wV (nextW (moreW (headW r 16) j) t)); rw [wsC_set, ← ht, moreZ_next r j (by omega), ht, ← HNX.out] at h9; exact h9), Lib.hid (extB_newset HX2.out (Nat.le_of_eq hwb) _ _), block_setCell_ne H2.out (show hb ≠ wb by have := HN.out; omega) _⟩
          case measure => omega
        · obtain rfl : t = 64 := by omega
          obtain rfl : j = 48 := by omega
          have i2 : ¬ ((64 : Nat) : Int) < 64 := by decide
          obtain ⟨ws, hws⟩ : ∃ ws, moreW (headW r 16) 48 = ws := ⟨_, rfl⟩
          have hwz : moreZ r 48 = ws := by rw [← hws]; unfold moreZ; simp
          have HWL : Hid (ws.length = 64) := Lib.hid (by rw [← hws, moreW_len, headW_len])
          rw [hwz] at HW
          have HWS := Lib.hid hws
          clear hwz hws hj ht hlt
          have y0 : wr.cell? ⟨hb, 0, none⟩ = some (wV v.a) := (block_cell H.out 0).trans (hshC_word v r n 0 (by decide))
          have y1 : wr.cell? ⟨hb, 1, none⟩ = some (wV v.b) := (block_cell H.out 1).trans (hshC_word v r n 1 (by decide))
          have y2 : wr.cell? ⟨hb, 2, none⟩ = some (wV v.c) := (block_cell H.out 2).trans (hshC_word v r n 2 (by decide))
          have y3 : wr.cell? ⟨hb, 3, none⟩ = some (wV v.d) := (block_cell H.out 3).trans (hshC_word v r n 3 (by decide))
          have y4 : wr.cell? ⟨hb, 4, none⟩ = some (wV v.e) := (block_cell H.out 4).trans (hshC_word v r n 4 (by decide))
          have y5 : wr.cell? ⟨hb, 5, none⟩ = some (wV v.f) := (block_cell H.out 5).trans (hshC_word v r n 5 (by decide))
          have y6 : wr.cell? ⟨hb, 6, none⟩ = some (wV v.g) := (block_cell H.out 6).trans (hshC_word v r n 6 (by decide))
          have y7 : wr.cell? ⟨hb, 7, none⟩ = some (wV v.h) := (block_cell H.out 7).trans (hshC_word v r n 7 (by decide))
          go_upto_region 14 with fail
          obtain ⟨vb, hvb⟩ : ∃ vb, wr.heap.size = vb := ⟨_, rfl⟩
          show Code.wp _ _ _ _ (wr.alloc (.cells (wsC (stL v)) 246))
          obtain ⟨Y, hY⟩ : ∃ Y, wr.alloc (.cells (wsC (stL v)) 246) = Y := ⟨_, rfl⟩
          have hyb : Below wr.heap.size wr Y := by rw [← hY]; exact balloc (Below.refl _ _) _
          have HV : Hid (Y.heap[vb]? = some (.cells (wsC (stL v)) 246 (0, 0))) := Lib.hid (by rw [← hY, ← hvb]; exact heap_alloc_new _ _)
          have HVB : Hid (wb < vb ∧ hb < vb) := Lib.hid ⟨by have := lt_of_block HW.out; omega, by have := lt_of_block H.out; omega⟩
          have HW := Lib.hid ((hyb.block _ (lt_of_block HW.out)).trans HW.out)
          have H := Lib.hid ((hyb.block _ (lt_of_block H.out)).trans H.out)
          have HX := Lib.hid (ExtB_trans _ _ _ _ HX.out (extB_of_below hyb))
          rw [hY, hvb]
          clear hY hvb hyb y0 y1 y2 y3 y4 y5 y6 y7
          go_wp2_with fail
          refine (consts_any Y).mono ?_
          rintro e Z ⟨rfl, hb9⟩
          have HV := Lib.hid ((hb9.block _ (lt_of_block HV.out)).trans HV.out)
          have HW := Lib.hid ((hb9.block _ (lt_of_block HW.out)).trans HW.out)
          have H := Lib.hid ((hb9.block _ (lt_of_block H.out)).trans H.out)
          have HX := Lib.hid (ExtB_trans _ _ _ _ HX.out (extB_of_below hb9))
          clear hb9
          obtain ⟨KC, hKC⟩ : ∃ KC, wsC kW = KC := ⟨_, rfl⟩
          rw [hKC]
          have HKC := Lib.hid hKC
          clear hKC
          go_wp2
          go_loopg [90, 11, 12, 13, 14, 15, 16, 17, 18, 19, 20] 64 (fun g i _ _ _ _ _ _ _ _ _ _ wr => ∃ t : Nat, g + t = 64 ∧ i = .int .i64 (t : Nat) ∧ Hid (wr.heap[vb]? = some (.cells (wsC (stL (roundsW kW ws v t))) 246 (0, 0))) ∧ Hid (wr.heap[wb]? = some (.cells (wsC ws) 294 (0, 0))) ∧ Hid (ExtB (some hb) w wr) ∧ Hid (wr.heap[hb]? = some (.cells (hshC v r n) 250 (0, 0))))
          case atStart => exact ⟨0, rfl, rfl, HV.out, HW.out, HX.out, H.out⟩
          case round =>
            clear HV HW HX H
            obtain ⟨t, ht, rfl, HV, HW, HX, H⟩ := hrel
            by_cases hlt : t < 64
            · have i3 : ((t : Nat) : Int) < 64 := by omega
              have bt : ¬ (64 : Int) ≤ (t : Int) := by omega
              obtain ⟨K, hK⟩ : ∃ K, wth kW t = K := ⟨_, rfl⟩
              have hk : ∀ w', (Instr.index 294 (.agg KC) (.int .i64 (t : Int))).run Tryz.prog w' = .ok (.int .u32 (wI K)) w' := fun w' => by rw [← HKC.out, index_k t hlt, hK]
              have HK := Lib.hid hK
              clear hK
              obtain ⟨z8, hu⟩ : ∃ u, roundsW kW ws v t = u := ⟨_, rfl⟩
              rw [hu] at HV
              obtain ⟨X, hX⟩ : ∃ X, wth ws t = X := ⟨_, rfl⟩
              go_upto_region 17 with fail
              obtain ⟨W, hW⟩ : ∃ W, wr = W := ⟨_, rfl⟩
              rw [hW] at HV HW HX H ⊢
              clear hW
              have x0 : W.cell? ⟨vb, 0, none⟩ = some (.int .u32 (wI z8.a)) := (block_cell HV.out 0).trans (wsC_at (stL z8) 0 (show 0 < 8 by decide))
              have x1 : W.cell? ⟨vb, 1, none⟩ = some (.int .u32 (wI z8.b)) := (block_cell HV.out 1).trans (wsC_at (stL z8) 1 (show 1 < 8 by decide))
              have x2 : W.cell? ⟨vb, 2, none⟩ = some (.int .u32 (wI z8.c)) := (block_cell HV.out 2).trans (wsC_at (stL z8) 2 (show 2 < 8 by decide))
              have x4 : W.cell? ⟨vb, 4, none⟩ = some (.int .u32 (wI z8.e)) := (block_cell HV.out 4).trans (wsC_at (stL z8) 4 (show 4 < 8 by decide))
              have x5 : W.cell? ⟨vb, 5, none⟩ = some (.int .u32 (wI z8.f)) := (block_cell HV.out 5).trans (wsC_at (stL z8) 5 (show 5 < 8 by decide))
              have x6 : W.cell? ⟨vb, 6, none⟩ = some (.int .u32 (wI z8.g)) := (block_cell HV.out 6).trans (wsC_at (stL z8) 6 (show 6 < 8 by decide))
              refine wp_region_all 1000 (none) (phis [fun u _ => u = (.pointer (some ⟨vb, 0, none⟩)), fun u _ => u = (.int .u32 (wI z8.a)), fun u _ => u = (.pointer (some ⟨vb, 1, none⟩)), fun u _ => u = (.int .u32 (wI z8.b)), fun u _ => u = (.pointer (some ⟨vb, 2, none⟩)), fun u _ => u = (.int .u32 (wI z8.c)), fun u _ => u = (.pointer (some ⟨vb, 4, none⟩)), fun u _ => u = (.int .u32 (wI z8.e)), fun u _ => u = (.pointer (some ⟨vb, 5, none⟩)), fun u _ => u = (.int .u32 (wI z8.f)), fun u _ => u = (.pointer (some ⟨vb, 6, none⟩)), fun u _ => u = (.int .u32 (wI z8.g)), fun u _ => u = (.int .u32 (wI z8.a)), fun u _ => u = (.int .u32 (wI z8.b)), fun u _ => u = (.int .u32 (wI z8.c)), fun u _ => u = (.int .u32 (wI z8.e)), fun u _ => u = (.int .u32 (wI z8.f)), fun u _ => u = (.int .u32 (wI z8.g))]) rfl (by kernel_rfl) (mono_of ⟨mono_eq, mono_eq, mono_eq, mono_eq, mono_eq, mono_eq, mono_eq, mono_eq, mono_eq, mono_eq, mono_eq, mono_eq, mono_eq, mono_eq, mono_eq, mono_eq, mono_eq, mono_eq, trivial⟩) (steps_of 18 ⟨?s0, ?s1, ?s2, ?s3, ?s4, ?s5, ?s6, ?s7, ?s8, ?s9, ?s10, ?s11, ?s12, ?s13, ?s14, ?s15, ?s16, ?s17, trivial⟩) ?_
              case s0 =>
                refine step_val (v := (.pointer (some ⟨vb, 0, none⟩))) (fun av wv hE hS hO hD => ?_) (fun _ => rfl)
                have h10 : av.eval (.tmp 10) = (.pointer (some ⟨vb, 0, none⟩)) := hO.2.2 10 rfl
                have f10 := (ev_form av 10).symm.trans h10
                refine ⟨rfl, ?_⟩
                simp [go_sem, f10]
              case s1 =>
                refine step_val (v := (.int .u32 (wI z8.a))) (fun av wv hE hS hO hD => ?_) (fun _ => rfl)
                have d94 : av.eval (.tmp 94) = (.pointer (some ⟨vb, 0, none⟩)) := hD.1 rfl _ rfl
                have f94 := (ev_form av 94).symm.trans d94
                have x0 := extB_cell hE (by simp) x0
                have x1 := extB_cell hE (by simp) x1
                have x2 := extB_cell hE (by simp) x2
                have x4 := extB_cell hE (by simp) x4
                have x5 := extB_cell hE (by simp) x5
                have x6 := extB_cell hE (by simp) x6
                refine ⟨rfl, ?_⟩
                simp [go_sem, f94, x0, x1, x2, x4, x5, x6]
              case s2 =>
                refine step_val (v := (.pointer (some ⟨vb, 1, none⟩))) (fun av wv hE hS hO hD => ?_) (fun _ => rfl)
                have h10 : av.eval (.tmp 10) = (.pointer (some ⟨vb, 0, none⟩)) := hO.2.2 10 rfl
                have f10 := (ev_form av 10).symm.trans h10
                refine ⟨rfl, ?_⟩
                simp [go_sem, f10]
              case s3 =>
                refine step_val (v := (.int .u32 (wI z8.b))) (fun av wv hE hS hO hD => ?_) (fun _ => rfl)
                have d96 : av.eval (.tmp 96) = (.pointer (some ⟨vb, 1, none⟩)) := hD.1 rfl _ rfl
                have f96 := (ev_form av 96).symm.trans d96
                have x0 := extB_cell hE (by simp) x0
                have x1 := extB_cell hE (by simp) x1
                have x2 := extB_cell hE (by simp) x2
                have x4 := extB_cell hE (by simp) x4
                have x5 := extB_cell hE (by simp) x5
                have x6 := extB_cell hE (by simp) x6
                refine ⟨rfl, ?_⟩
                simp [go_sem, f96, x0, x1, x2, x4, x5, x6]
              case s4 =>
                refine step_val (v := (.pointer (some ⟨vb, 2, none⟩))) (fun av wv hE hS hO hD => ?_) (fun _ => rfl)
                have h10 : av.eval (.tmp 10) = (.pointer (some ⟨vb, 0, none⟩)) := hO.2.2 10 rfl
                have f10 := (ev_form av 10).symm.trans h10
                refine ⟨rfl, ?_⟩
                simp [go_sem, f10]
              case s5 =>
                refine step_val (v := (.int .u32 (wI z8.c))) (fun av wv hE hS hO hD => ?_) (fun _ => rfl)
                have d98 : av.eval (.tmp 98) = (.pointer (some ⟨vb, 2, none⟩)) := hD.1 rfl _ rfl
                have f98 := (ev_form av 98).symm.trans d98
                have x0 := extB_cell hE (by simp) x0
                have x1 := extB_cell hE (by simp) x1
                have x2 := extB_cell hE (by simp) x2
                have x4 := extB_cell hE (by simp) x4
                have x5 := extB_cell hE (by simp) x5
                have x6 := extB_cell hE (by simp) x6
                refine ⟨rfl, ?_⟩
                simp [go_sem, f98, x0, x1, x2, x4, x5, x6]
              case s6 =>
                refine step_val (v := (.pointer (some ⟨vb, 4, none⟩))) (fun av wv hE hS hO hD => ?_) (fun _ => rfl)
                have h10 : av.eval (.tmp 10) = (.pointer (some ⟨vb, 0, none⟩)) := hO.2.2 10 rfl
                have f10 := (ev_form av 10).symm.trans h10
                refine ⟨rfl, ?_⟩
                simp [go_sem, f10]
              case s7 =>
                refine step_val (v := (.int .u32 (wI z8.e))) (fun av wv hE hS hO hD => ?_) (fun _ => rfl)
                have d100 : av.eval (.tmp 100) = (.pointer (some ⟨vb, 4, none⟩)) := hD.1 rfl _ rfl
                have f100 := (ev_form av 100).symm.trans d100
                have x0 := extB_cell hE (by simp) x0
                have x1 := extB_cell hE (by simp) x1
                have x2 := extB_cell hE (by simp) x2
                have x4 := extB_cell hE (by simp) x4
                have x5 := extB_cell hE (by simp) x5
                have x6 := extB_cell hE (by simp) x6
                refine ⟨rfl, ?_⟩
                simp [go_sem, f100, x0, x1, x2, x4, x5, x6]
              case s8 =>
                refine step_val (v := (.pointer (some ⟨vb, 5, none⟩))) (fun av wv hE hS hO hD => ?_) (fun _ => rfl)
                have h10 : av.eval (.tmp 10) = (.pointer (some ⟨vb, 0, none⟩)) := hO.2.2 10 rfl
                have f10 := (ev_form av 10).symm.trans h10
                refine ⟨rfl, ?_⟩
                simp [go_sem, f10]
              case s9 =>
                refine step_val (v := (.int .u32 (wI z8.f))) (fun av wv hE hS hO hD => ?_) (fun _ => rfl)
                have d102 : av.eval (.tmp 102) = (.pointer (some ⟨vb, 5, none⟩)) := hD.1 rfl _ rfl
                have f102 := (ev_form av 102).symm.trans d102
                have x0 := extB_cell hE (by simp) x0
                have x1 := extB_cell hE (by simp) x1
                have x2 := extB_cell hE (by simp) x2
                have x4 := extB_cell hE (by simp) x4
                have x5 := extB_cell hE (by simp) x5
                have x6 := extB_cell hE (by simp) x6
                refine ⟨rfl, ?_⟩
                simp [go_sem, f102, x0, x1, x2, x4, x5, x6]
              case s10 =>
                refine step_val (v := (.pointer (some ⟨vb, 6, none⟩))) (fun av wv hE hS hO hD => ?_) (fun _ => rfl)
                have h10 : av.eval (.tmp 10) = (.pointer (some ⟨vb, 0, none⟩)) := hO.2.2 10 rfl
                have f10 := (ev_form av 10).symm.trans h10
                refine ⟨rfl, ?_⟩
                simp [go_sem, f10]
              case s11 =>
                refine step_val (v := (.int .u32 (wI z8.g))) (fun av wv hE hS hO hD => ?_) (fun _ => rfl)
                have d104 : av.eval (.tmp 104) = (.pointer (some ⟨vb, 6, none⟩)) := hD.1 rfl _ rfl
                have f104 := (ev_form av 104).symm.trans d104
                have x0 := extB_cell hE (by simp) x0
                have x1 := extB_cell hE (by simp) x1
                have x2 := extB_cell hE (by simp) x2
                have x4 := extB_cell hE (by simp) x4
                have x5 := extB_cell hE (by simp) x5
                have x6 := extB_cell hE (by simp) x6
                refine ⟨rfl, ?_⟩
                simp [go_sem, f104, x0, x1, x2, x4, x5, x6]
              case s12 =>
                refine step_val (v := (.int .u32 (wI z8.a))) (fun av wv hE hS hO hD => ?_) (fun _ => rfl)
                have d95 : av.eval (.tmp 95) = (.int .u32 (wI z8.a)) := hD.1 rfl _ rfl
                have f95 := (ev_form av 95).symm.trans d95
                refine ⟨rfl, ?_⟩
                simp [go_sem, f95]
              case s13 =>
                refine step_val (v := (.int .u32 (wI z8.b))) (fun av wv hE hS hO hD => ?_) (fun _ => rfl)
                have d97 : av.eval (.tmp 97) = (.int .u32 (wI z8.b)) := hD.1 rfl _ rfl
                have f97 := (ev_form av 97).symm.trans d97
                refine ⟨rfl, ?_⟩
                simp [go_sem, f97]
              case s14 =>
                refine step_val (v := (.int .u32 (wI z8.c))) (fun av wv hE hS hO hD => ?_) (fun _ => rfl)
                have d99 : av.eval (.tmp 99) = (.int .u32 (wI z8.c)) := hD.1 rfl _ rfl
                have f99 := (ev_form av 99).symm.trans d99
                refine ⟨rfl, ?_⟩
                simp [go_sem, f99]
              case s15 =>
                refine step_val (v := (.int .u32 (wI z8.e))) (fun av wv hE hS hO hD => ?_) (fun _ => rfl)
                have d101 : av.eval (.tmp 101) = (.int .u32 (wI z8.e)) := hD.1 rfl _ rfl
                have f101 := (ev_form av 101).symm.trans d101
                refine ⟨rfl, ?_⟩
                simp [go_sem, f101]
              case s16 =>
                refine step_val (v := (.int .u32 (wI z8.f))) (fun av wv hE hS hO hD => ?_) (fun _ => rfl)
                have d103 : av.eval (.tmp 103) = (.int .u32 (wI z8.f)) := hD.1 rfl _ rfl
                have f103 := (ev_form av 103).symm.trans d103
                refine ⟨rfl, ?_⟩
                simp [go_sem, f103]
              case s17 =>
                refine step_val (v := (.int .u32 (wI z8.g))) (fun av wv hE hS hO hD => ?_) (fun _ => rfl)
                have d105 : av.eval (.tmp 105) = (.int .u32 (wI z8.g)) := hD.1 rfl _ rfl
                have f105 := (ev_form av 105).symm.trans d105
                refine ⟨rfl, ?_⟩
                simp [go_sem, f105]
              intro a' w' hE hO hall
              have hA := act_of_outer (ds := [94, 95, 96, 97, 98, 99, 100, 101, 102, 103, 104, 105, 13, 14, 15, 16, 17, 18]) rfl hO (by kernel_rfl)
              have e94 : (fun u _ => u = (.pointer (some ⟨vb, 0, none⟩))) (a'.eval (.tmp 94)) w' := hall.1 _ rfl
              have e95 : (fun u _ => u = (.int .u32 (wI z8.a))) (a'.eval (.tmp 95)) w' := hall.2.1 _ rfl
              have e96 : (fun u _ => u = (.pointer (some ⟨vb, 1, none⟩))) (a'.eval (.tmp 96)) w' := hall.2.2.1 _ rfl
              have e97 : (fun u _ => u = (.int .u32 (wI z8.b))) (a'.eval (.tmp 97)) w' := hall.2.2.2.1 _ rfl
              have e98 : (fun u _ => u = (.pointer (some ⟨vb, 2, none⟩))) (a'.eval (.tmp 98)) w' := hall.2.2.2.2.1 _ rfl
              have e99 : (fun u _ => u = (.int .u32 (wI z8.c))) (a'.eval (.tmp 99)) w' := hall.2.2.2.2.2.1 _ rfl
              have e100 : (fun u _ => u = (.pointer (some ⟨vb, 4, none⟩))) (a'.eval (.tmp 100)) w' := hall.2.2.2.2.2.2.1 _ rfl
              have e101 : (fun u _ => u = (.int .u32 (wI z8.e))) (a'.eval (.tmp 101)) w' := hall.2.2.2.2.2.2.2.1 _ rfl
              have e102 : (fun u _ => u = (.pointer (some ⟨vb, 5, none⟩))) (a'.eval (.tmp 102)) w' := hall.2.2.2.2.2.2.2.2.1 _ rfl
              have e103 : (fun u _ => u = (.int .u32 (wI z8.f))) (a'.eval (.tmp 103)) w' := hall.2.2.2.2.2.2.2.2.2.1 _ rfl
              have e104 : (fun u _ => u = (.pointer (some ⟨vb, 6, none⟩))) (a'.eval (.tmp 104)) w' := hall.2.2.2.2.2.2.2.2.2.2.1 _ rfl
              have e105 : (fun u _ => u = (.int .u32 (wI z8.g))) (a'.eval (.tmp 105)) w' := hall.2.2.2.2.2.2.2.2.2.2.2.1 _ rfl
              have e13 : (fun u _ => u = (.int .u32 (wI z8.a))) (a'.eval (.tmp 13)) w' := hall.2.2.2.2.2.2.2.2.2.2.2.2.1 _ rfl
              have e14 : (fun u _ => u = (.int .u32 (wI z8.b))) (a'.eval (.tmp 14)) w' := hall.2.2.2.2.2.2.2.2.2.2.2.2.2.1 _ rfl
              have e15 : (fun u _ => u = (.int .u32 (wI z8.c))) (a'.eval (.tmp 15)) w' := hall.2.2.2.2.2.2.2.2.2.2.2.2.2.2.1 _ rfl
              have e16 : (fun u _ => u = (.int .u32 (wI z8.e))) (a'.eval (.tmp 16)) w' := hall.2.2.2.2.2.2.2.2.2.2.2.2.2.2.2.1 _ rfl
              have e17 : (fun u _ => u = (.int .u32 (wI z8.f))) (a'.eval (.tmp 17)) w' := hall.2.2.2.2.2.2.2.2.2.2.2.2.2.2.2.2.1 _ rfl
              have e18 : (fun u _ => u = (.int .u32 (wI z8.g))) (a'.eval (.tmp 18)) w' := hall.2.2.2.2.2.2.2.2.2.2.2.2.2.2.2.2.2.1 _ rfl
              simp only [List.foldl_cons, List.foldl_nil, Act.put, List.setIfInBounds_toArray, List.set_cons_succ, List.set_cons_zero, e94, e95, e96, e97, e98, e99, e100, e101, e102, e103, e104, e105, e13, e14, e15, e16, e17, e18] at hA
              clear hO hall e94 e95 e96 e97 e98 e99 e100 e101 e102 e103 e104 e105 e13 e14 e15 e16 e17 e18
              subst hA
              have hX9 := of_drew hE
              have HV := Lib.hid ((hX9.block _ (lt_of_block HV.out)).trans HV.out)
              have HW := Lib.hid ((hX9.block _ (lt_of_block HW.out)).trans HW.out)
              have H := Lib.hid ((hX9.block _ (lt_of_block H.out)).trans H.out)
              have HX := Lib.hid (ExtB_trans _ _ _ _ HX.out (extB_of_below hX9))
              clear hE hX9 x0 x1 x2 x4 x5 x6
              go_upto_region 18 with fail
              obtain ⟨W, hW⟩ : ∃ W, w' = W := ⟨_, rfl⟩
              rw [hW] at HV HW HX H ⊢
              clear hW
              have x7 : W.cell? ⟨vb, 7, none⟩ = some (.int .u32 (wI z8.h)) := (block_cell HV.out 7).trans (wsC_at (stL z8) 7 (show 7 < 8 by decide))
              have zt : W.cell? ⟨wb, t, none⟩ = some (.int .u32 (wI X)) := by rw [block_cell HW.out, wsC_at ws t (by have := HWL.out; omega), hX]
              refine wp_region_tail 21 1000 (none) (phis [fun u _ => u = (.pointer (some ⟨vb, 7, none⟩)), fun u _ => u = (.int .u32 (wI z8.h)), fun u _ => u = (.int .u32 (wI K)), fun u _ => u = (.int .u32 (wI (z8.h + K))), fun u _ => u = (.int .i64 t), fun u _ => u = (.pointer (some ⟨wb, t, none⟩)), fun u _ => u = (.int .u32 (wI X)), fun u _ => u = (.int .u32 (wI (z8.h + K + X))), fun u _ => u = (.func (.func 272) #[] #[]), fun u _ => u = (.int .u32 (wI z8.e)), fun uu w' => ∃ c, uu = .slice (some ⟨c, 0, none⟩) 3 3 ∧ w'.heap[c]? = some (.cells #[.int .i64 6, .int .i64 11, .int .i64 25] 3 (0, 0)), fun u _ => u = (.int .u32 (wI (t1W z8.e))), fun u _ => u = (.int .u32 (wI (z8.h + K + X + t1W z8.e))), fun u _ => u = (.int .u32 (wI z8.g)), fun u _ => u = (.int .u32 (wI z8.e)), fun u _ => u = (.int .u32 (wI z8.f)), fun u _ => u = (.int .u32 (wI z8.g)), fun u _ => u = (.int .u32 (wI (z8.f ^^^ z8.g))), fun u _ => u = (.int .u32 (wI (z8.e &&& (z8.f ^^^ z8.g)))), fun u _ => u = (.int .u32 (wI (z8.g ^^^ (z8.e &&& (z8.f ^^^ z8.g))))), fun u _ => u = (.int .u32 (wI (z8.h + K + X + t1W z8.e + (z8.g ^^^ (z8.e &&& (z8.f ^^^ z8.g))))))]) rfl (by kernel_rfl) (by kernel_rfl) (mono_of ⟨mono_eq, mono_eq, mono_eq, mono_eq, mono_eq, mono_eq, mono_eq, mono_eq, mono_eq, mono_eq, ?m10, mono_eq, mono_eq, mono_eq, mono_eq, mono_eq, mono_eq, mono_eq, mono_eq, mono_eq, mono_eq, trivial⟩) (steps_of 21 ⟨?s0, ?s1, ?s2, ?s3, ?s4, ?s5, ?s6, ?s7, ?s8, ?s9, ?s10, ?s11, ?s12, ?s13, ?s14, ?s15, ?s16, ?s17, ?s18, ?s19, ?s20, trivial⟩) ?_
              case m10 =>
                exact ⟨fun uu w1 w2 h ⟨c, h1, h2⟩ => ⟨c, h1, ext_block h h2⟩, fun _ uu w1 w2 h ⟨c, h1, h2⟩ => ⟨c, h1, extB_block h (by simp) h2⟩⟩
              case s0 =>
                refine step_val (v := (.pointer (some ⟨vb, 7, none⟩))) (fun av wv hE hS hO hD => ?_) (fun _ => rfl)
                have h10 : av.eval (.tmp 10) = (.pointer (some ⟨vb, 0, none⟩)) := hO.2.2 10 rfl
                have f10 := (ev_form av 10).symm.trans h10
                refine ⟨rfl, ?_⟩
                simp [go_sem, f10, bv_add, bv_addm, bv_xor, bv_and, bt]
              case s1 =>
                refine step_val (v := (.int .u32 (wI z8.h))) (fun av wv hE hS hO hD => ?_) (fun _ => rfl)
                have d106 : av.eval (.tmp 106) = (.pointer (some ⟨vb, 7, none⟩)) := hD.1 rfl _ rfl
                have f106 := (ev_form av 106).symm.trans d106
                have x7 := extB_cell hE (by simp) x7
                have zt := extB_cell hE (by simp) zt
                refine ⟨rfl, ?_⟩
                simp [go_sem, f106, x7, zt, bv_add, bv_addm, bv_xor, bv_and, bt]
              case s2 =>
                refine step_val (v := (.int .u32 (wI K))) (fun av wv hE hS hO hD => ?_) (fun _ => rfl)
                have h12 : av.eval (.tmp 12) = (.int .u32 (wI K)) := hO.2.2 12 rfl
                have f12 := (ev_form av 12).symm.trans h12
                refine ⟨rfl, ?_⟩
                simp [go_sem, f12, bv_add, bv_addm, bv_xor, bv_and, bt]
              case s3 =>
                refine step_val (v := (.int .u32 (wI (z8.h + K)))) (fun av wv hE hS hO hD => ?_) (fun _ => rfl)
                have d107 : av.eval (.tmp 107) = (.int .u32 (wI z8.h)) := hD.1 rfl _ rfl
                have f107 := (ev_form av 107).symm.trans d107
                have d108 : av.eval (.tmp 108) = (.int .u32 (wI K)) := hD.2.1 rfl _ rfl
                have f108 := (ev_form av 108).symm.trans d108
                refine ⟨rfl, ?_⟩
                simp [go_sem, f107, f108, bv_add, bv_addm, bv_xor, bv_and, bt]
              case s4 =>
                refine step_val (v := (.int .i64 t)) (fun av wv hE hS hO hD => ?_) (fun _ => rfl)
                have h11 : av.eval (.tmp 11) = (.int .i64 t) := hO.2.2 11 rfl
                have f11 := (ev_form av 11).symm.trans h11
                refine ⟨rfl, ?_⟩
                simp [go_sem, f11, bv_add, bv_addm, bv_xor, bv_and, bt]
              case s5 =>
                refine step_val (v := (.pointer (some ⟨wb, t, none⟩))) (fun av wv hE hS hO hD => ?_) (fun _ => rfl)
                have h4 : av.eval (.tmp 4) = (.pointer (some ⟨wb, 0, none⟩)) := hO.2.2 4 rfl
                have f4 := (ev_form av 4).symm.trans h4
                have d110 : av.eval (.tmp 110) = (.int .i64 t) := hD.1 rfl _ rfl
                have f110 := (ev_form av 110).symm.trans d110
                refine ⟨rfl, ?_⟩
                simp [go_sem, f4, f110, bv_add, bv_addm, bv_xor, bv_and, bt]
              case s6 =>
                refine step_val (v := (.int .u32 (wI X))) (fun av wv hE hS hO hD => ?_) (fun _ => rfl)
                have d111 : av.eval (.tmp 111) = (.pointer (some ⟨wb, t, none⟩)) := hD.1 rfl _ rfl
                have f111 := (ev_form av 111).symm.trans d111
                have x7 := extB_cell hE (by simp) x7
                have zt := extB_cell hE (by simp) zt
                refine ⟨rfl, ?_⟩
                simp [go_sem, f111, x7, zt, bv_add, bv_addm, bv_xor, bv_and, bt]
              case s7 =>
                refine step_val (v := (.int .u32 (wI (z8.h + K + X)))) (fun av wv hE hS hO hD => ?_) (fun _ => rfl)
                have d109 : av.eval (.tmp 109) = (.int .u32 (wI (z8.h + K))) := hD.1 rfl _ rfl
                have f109 := (ev_form av 109).symm.trans d109
                have d112 : av.eval (.tmp 112) = (.int .u32 (wI X)) := hD.2.1 rfl _ rfl
                have f112 := (ev_form av 112).symm.trans d112
                refine ⟨rfl, ?_⟩
                simp [go_sem, f109, f112, bv_add, bv_addm, bv_xor, bv_and, bt]
              case s8 =>
                refine step_val (v := (.func (.func 272) #[] #[])) (fun av wv hE hS hO hD => ?_) (fun _ => rfl)
                have h9 : av.eval (.tmp 9) = (.func (.func 272) #[] #[]) := hO.2.2 9 rfl
                have f9 := (ev_form av 9).symm.trans h9
                refine ⟨rfl, ?_⟩
                simp [go_sem, f9, bv_add, bv_addm, bv_xor, bv_and, bt]
              case s9 =>
                refine step_val (v := (.int .u32 (wI z8.e))) (fun av wv hE hS hO hD => ?_) (fun _ => rfl)
                have h16 : av.eval (.tmp 16) = (.int .u32 (wI z8.e)) := hO.2.2 16 rfl
                have f16 := (ev_form av 16).symm.trans h16
                refine ⟨rfl, ?_⟩
                simp [go_sem, f16, bv_add, bv_addm, bv_xor, bv_and, bt]
              case s10 =>
                refine step_wp (fun av wv hE hS hO hD => ?_)
                refine ⟨rfl, ?_⟩
                exact wp_of_run (v := .slice (some ⟨wv.heap.size, 0, none⟩) 3 3) (w' := wv.alloc (.cells #[.int .i64 6, .int .i64 11, .int .i64 25] 3)) (by simp [go_sem]) ⟨_, rfl, es_of_ext (balloc (Ext_refl _) _), wv.heap.size, rfl, heap_alloc_new _ _⟩
              case s11 =>
                refine step_wp (fun av wv hE hS hO hD => ?_)
                have d114 : av.eval (.tmp 114) = (.func (.func 272) #[] #[]) := hD.1 rfl _ rfl
                have f114 := (ev_form av 114).symm.trans d114
                have d115 : av.eval (.tmp 115) = (.int .u32 (wI z8.e)) := hD.2.1 rfl _ rfl
                have f115 := (ev_form av 115).symm.trans d115
                have d116 : (fun uu w' => ∃ c, uu = .slice (some ⟨c, 0, none⟩) 3 3 ∧ w'.heap[c]? = some (.cells #[.int .i64 6, .int .i64 11, .int .i64 25] 3 (0, 0))) (av.eval (.tmp 116)) wv := hD.2.2.1 rfl _ rfl
                refine ⟨rfl, ?_⟩
                obtain ⟨c, hc, hcc⟩ := d116
                have f116 := (ev_form av 116).symm.trans hc
                refine wp_of_call (v := .int .u32 (wI (t1W z8.e))) (by simp [go_sem, f114, f115, f116, len]) ((turn_any z8.e [6, 11, 25] c 3 wv (by simp [len]) (by intro i hi; match i, hi with | 0, _ | 1, _ | 2, _ => simp [nat0]) (by intro i hi; rw [block_cell hcc]; match i, hi with | 0, _ | 1, _ | 2, _ => rfl)).mono (fun e w2 ⟨h1, h2⟩ => ⟨by rw [h1, turnW_t1], by rw [h2]; exact Below.refl _ _⟩)) (fun w2 hb => ⟨_, rfl, es_of_ext hb, rfl⟩)
              case s12 =>
                refine step_val (v := (.int .u32 (wI (z8.h + K + X + t1W z8.e)))) (fun av wv hE hS hO hD => ?_) (fun _ => rfl)
                have d113 : av.eval (.tmp 113) = (.int .u32 (wI (z8.h + K + X))) := hD.1 rfl _ rfl
                have f113 := (ev_form av 113).symm.trans d113
                have d117 : av.eval (.tmp 117) = (.int .u32 (wI (t1W z8.e))) := hD.2.1 rfl _ rfl
                have f117 := (ev_form av 117).symm.trans d117
                refine ⟨rfl, ?_⟩
                simp [go_sem, f113, f117, bv_add, bv_addm, bv_xor, bv_and, bt]
              case s13 =>
                refine step_val (v := (.int .u32 (wI z8.g))) (fun av wv hE hS hO hD => ?_) (fun _ => rfl)
                have h18 : av.eval (.tmp 18) = (.int .u32 (wI z8.g)) := hO.2.2 18 rfl
                have f18 := (ev_form av 18).symm.trans h18
                refine ⟨rfl, ?_⟩
                simp [go_sem, f18, bv_add, bv_addm, bv_xor, bv_and, bt]
              case s14 =>
                refine step_val (v := (.int .u32 (wI z8.e))) (fun av wv hE hS hO hD => ?_) (fun _ => rfl)
                have h16 : av.eval (.tmp 16) = (.int .u32 (wI z8.e)) := hO.2.2 16 rfl
                have f16 := (ev_form av 16).symm.trans h16
                refine ⟨rfl, ?_⟩
                simp [go_sem, f16, bv_add, bv_addm, bv_xor, bv_and, bt]
              case s15 =>
                refine step_val (v := (.int .u32 (wI z8.f))) (fun av wv hE hS hO hD => ?_) (fun _ => rfl)
                have h17 : av.eval (.tmp 17) = (.int .u32 (wI z8.f)) := hO.2.2 17 rfl
                have f17 := (ev_form av 17).symm.trans h17
                refine ⟨rfl, ?_⟩
                simp [go_sem, f17, bv_add, bv_addm, bv_xor, bv_and, bt]
              case s16 =>
                refine step_val (v := (.int .u32 (wI z8.g))) (fun av wv hE hS hO hD => ?_) (fun _ => rfl)
                have h18 : av.eval (.tmp 18) = (.int .u32 (wI z8.g)) := hO.2.2 18 rfl
                have f18 := (ev_form av 18).symm.trans h18
                refine ⟨rfl, ?_⟩
                simp [go_sem, f18, bv_add, bv_addm, bv_xor, bv_and, bt]
              case s17 =>
                refine step_val (v := (.int .u32 (wI (z8.f ^^^ z8.g)))) (fun av wv hE hS hO hD => ?_) (fun _ => rfl)
                have d121 : av.eval (.tmp 121) = (.int .u32 (wI z8.f)) := hD.1 rfl _ rfl
                have f121 := (ev_form av 121).symm.trans d121
                have d122 : av.eval (.tmp 122) = (.int .u32 (wI z8.g)) := hD.2.1 rfl _ rfl
                have f122 := (ev_form av 122).symm.trans d122
                refine ⟨rfl, ?_⟩
                simp [go_sem, f121, f122, bv_add, bv_addm, bv_xor, bv_and, bt]
              case s18 =>
                refine step_val (v := (.int .u32 (wI (z8.e &&& (z8.f ^^^ z8.g))))) (fun av wv hE hS hO hD => ?_) (fun _ => rfl)
                have d120 : av.eval (.tmp 120) = (.int .u32 (wI z8.e)) := hD.1 rfl _ rfl
                have f120 := (ev_form av 120).symm.trans d120
                have d123 : av.eval (.tmp 123) = (.int .u32 (wI (z8.f ^^^ z8.g))) := hD.2.1 rfl _ rfl
                have f123 := (ev_form av 123).symm.trans d123
                refine ⟨rfl, ?_⟩
                simp [go_sem, f120, f123, bv_add, bv_addm, bv_xor, bv_and, bt]
              case s19 =>
                refine step_val (v := (.int .u32 (wI (z8.g ^^^ (z8.e &&& (z8.f ^^^ z8.g)))))) (fun av wv hE hS hO hD => ?_) (fun _ => rfl)
                have d119 : av.eval (.tmp 119) = (.int .u32 (wI z8.g)) := hD.1 rfl _ rfl
                have f119 := (ev_form av 119).symm.trans d119
                have d124 : av.eval (.tmp 124) = (.int .u32 (wI (z8.e &&& (z8.f ^^^ z8.g)))) := hD.2.1 rfl _ rfl
                have f124 := (ev_form av 124).symm.trans d124
                refine ⟨rfl, ?_⟩
                simp [go_sem, f119, f124, bv_add, bv_addm, bv_xor, bv_and, bt]
              case s20 =>
                refine step_val (v := (.int .u32 (wI (z8.h + K + X + t1W z8.e + (z8.g ^^^ (z8.e &&& (z8.f ^^^ z8.g))))))) (fun av wv hE hS hO hD => ?_) (fun _ => rfl)
                have d118 : av.eval (.tmp 118) = (.int .u32 (wI (z8.h + K + X + t1W z8.e))) := hD.1 rfl _ rfl
                have f118 := (ev_form av 118).symm.trans d118
                have d125 : av.eval (.tmp 125) = (.int .u32 (wI (z8.g ^^^ (z8.e &&& (z8.f ^^^ z8.g))))) := hD.2.1 rfl _ rfl
                have f125 := (ev_form av 125).symm.trans d125
                refine ⟨rfl, ?_⟩
                simp [go_sem, f118, f125, bv_add, bv_addm, bv_xor, bv_and, bt]
              intro a' w' hE hO hall
              have hA := act_of_outer (ds := [106, 107, 108, 109, 110, 111, 112, 113, 114, 115, 116, 117, 118, 119, 120, 121, 122, 123, 124, 125, 126]) rfl hO (by kernel_rfl)
              have e106 : (fun u _ => u = (.pointer (some ⟨vb, 7, none⟩))) (a'.eval (.tmp 106)) w' := hall.1 _ rfl
              have e107 : (fun u _ => u = (.int .u32 (wI z8.h))) (a'.eval (.tmp 107)) w' := hall.2.1 _ rfl
              have e108 : (fun u _ => u = (.int .u32 (wI K))) (a'.eval (.tmp 108)) w' := hall.2.2.1 _ rfl
              have e109 : (fun u _ => u = (.int .u32 (wI (z8.h + K)))) (a'.eval (.tmp 109)) w' := hall.2.2.2.1 _ rfl
              have e110 : (fun u _ => u = (.int .i64 t)) (a'.eval (.tmp 110)) w' := hall.2.2.2.2.1 _ rfl
              have e111 : (fun u _ => u = (.pointer (some ⟨wb, t, none⟩))) (a'.eval (.tmp 111)) w' := hall.2.2.2.2.2.1 _ rfl
              have e112 : (fun u _ => u = (.int .u32 (wI X))) (a'.eval (.tmp 112)) w' := hall.2.2.2.2.2.2.1 _ rfl
              have e113 : (fun u _ => u = (.int .u32 (wI (z8.h + K + X)))) (a'.eval (.tmp 113)) w' := hall.2.2.2.2.2.2.2.1 _ rfl
              have e114 : (fun u _ => u = (.func (.func 272) #[] #[])) (a'.eval (.tmp 114)) w' := hall.2.2.2.2.2.2.2.2.1 _ rfl
              have e115 : (fun u _ => u = (.int .u32 (wI z8.e))) (a'.eval (.tmp 115)) w' := hall.2.2.2.2.2.2.2.2.2.1 _ rfl
              have e116 : (fun uu w' => ∃ c, uu = .slice (some ⟨c, 0, none⟩) 3 3 ∧ w'.heap[c]? = some (.cells #[.int .i64 6, .int .i64 11, .int .i64 25] 3 (0, 0))) (a'.eval (.tmp 116)) w' := hall.2.2.2.2.2.2.2.2.2.2.1 _ rfl
              have e117 : (fun u _ => u = (.int .u32 (wI (t1W z8.e)))) (a'.eval (.tmp 117)) w' := hall.2.2.2.2.2.2.2.2.2.2.2.1 _ rfl
              have e118 : (fun u _ => u = (.int .u32 (wI (z8.h + K + X + t1W z8.e)))) (a'.eval (.tmp 118)) w' := hall.2.2.2.2.2.2.2.2.2.2.2.2.1 _ rfl
              have e119 : (fun u _ => u = (.int .u32 (wI z8.g))) (a'.eval (.tmp 119)) w' := hall.2.2.2.2.2.2.2.2.2.2.2.2.2.1 _ rfl
              have e120 : (fun u _ => u = (.int .u32 (wI z8.e))) (a'.eval (.tmp 120)) w' := hall.2.2.2.2.2.2.2.2.2.2.2.2.2.2.1 _ rfl
              have e121 : (fun u _ => u = (.int .u32 (wI z8.f))) (a'.eval (.tmp 121)) w' := hall.2.2.2.2.2.2.2.2.2.2.2.2.2.2.2.1 _ rfl
              have e122 : (fun u _ => u = (.int .u32 (wI z8.g))) (a'.eval (.tmp 122)) w' := hall.2.2.2.2.2.2.2.2.2.2.2.2.2.2.2.2.1 _ rfl
              have e123 : (fun u _ => u = (.int .u32 (wI (z8.f ^^^ z8.g)))) (a'.eval (.tmp 123)) w' := hall.2.2.2.2.2.2.2.2.2.2.2.2.2.2.2.2.2.1 _ rfl
              have e124 : (fun u _ => u = (.int .u32 (wI (z8.e &&& (z8.f ^^^ z8.g))))) (a'.eval (.tmp 124)) w' := hall.2.2.2.2.2.2.2.2.2.2.2.2.2.2.2.2.2.2.1 _ rfl
              have e125 : (fun u _ => u = (.int .u32 (wI (z8.g ^^^ (z8.e &&& (z8.f ^^^ z8.g)))))) (a'.eval (.tmp 125)) w' := hall.2.2.2.2.2.2.2.2.2.2.2.2.2.2.2.2.2.2.2.1 _ rfl
              have e126 : (fun u _ => u = (.int .u32 (wI (z8.h + K + X + t1W z8.e + (z8.g ^^^ (z8.e &&& (z8.f ^^^ z8.g))))))) (a'.eval (.tmp 126)) w' := hall.2.2.2.2.2.2.2.2.2.2.2.2.2.2.2.2.2.2.2.2.1 _ rfl
              obtain ⟨v116, hv116⟩ : ∃ v, a'.eval (.tmp 116) = v := ⟨_, rfl⟩
              rw [hv116] at e116
              simp only [List.foldl_cons, List.foldl_nil, Act.put, List.setIfInBounds_toArray, List.set_cons_succ, List.set_cons_zero, e106, e107, e108, e109, e110, e111, e112, e113, e114, e115, hv116, e117, e118, e119, e120, e121, e122, e123, e124, e125, e126] at hA
              clear hO hall e106 e107 e108 e109 e110 e111 e112 e113 e114 e115 hv116 e117 e118 e119 e120 e121 e122 e123 e124 e125 e126
              subst hA
              have hX9 := of_drew hE
              have HV := Lib.hid ((hX9.block _ (lt_of_block HV.out)).trans HV.out)
              have HW := Lib.hid ((hX9.block _ (lt_of_block HW.out)).trans HW.out)
              have H := Lib.hid ((hX9.block _ (lt_of_block H.out)).trans H.out)
              have HX := Lib.hid (ExtB_trans _ _ _ _ HX.out (extB_of_below hX9))
              have HST : Hid (roundsW kW ws v (t + 1) = stepW z8 K X) := Lib.hid (by rw [roundsW, hu, HK.out, hX])
              rw [ch_alt]
              clear hE hX9 x7 zt e116 hk bt hu hX
              obtain ⟨P, hP⟩ : ∃ P, z8.h + K + X + t1W z8.e + chW z8.e z8.f z8.g = P := ⟨_, rfl⟩
              rw [hP]
              have HPX : Hid (xW z8 K X = P) := Lib.hid hP
              clear hP
              obtain ⟨W, hW⟩ : ∃ W, w' = W := ⟨_, rfl⟩
              rw [hW] at HV HW HX H ⊢
              clear hW
              go_wp2_with fail
              refine (turn_any z8.a [2, 13, 22] W.heap.size 3 (W.alloc (.cells #[.int .i64 2, .int .i64 13, .int .i64 22] 3)) (by simp [len]) (by intro i hi; match i, hi with | 0, _ | 1, _ | 2, _ => simp [nat0]) (by intro i hi; rw [block_cell (heap_alloc_new _ _)]; match i, hi with | 0, _ | 1, _ | 2, _ => rfl)).mono ?_
              rintro e W3 ⟨rfl, hw3⟩
              rw [turnW_t0]
              have hX9 : Below W.heap.size W W3 := by rw [hw3]; exact balloc (Below.refl _ _) _
              have HV := Lib.hid ((hX9.block _ (lt_of_block HV.out)).trans HV.out)
              have HW := Lib.hid ((hX9.block _ (lt_of_block HW.out)).trans HW.out)
              have H := Lib.hid ((hX9.block _ (lt_of_block H.out)).trans H.out)
              have HX := Lib.hid (ExtB_trans _ _ _ _ HX.out (extB_of_below hX9))
              clear hX9 hw3
              have x0 : W3.cell? ⟨vb, 0, none⟩ = some (.int .u32 (wI z8.a)) := (block_cell HV.out 0).trans (wsC_at (stL z8) 0 (show 0 < 8 by decide))
              have x1 : W3.cell? ⟨vb, 1, none⟩ = some (.int .u32 (wI z8.b)) := (block_cell HV.out 1).trans (wsC_at (stL z8) 1 (show 1 < 8 by decide))
              have x2 : W3.cell? ⟨vb, 2, none⟩ = some (.int .u32 (wI z8.c)) := (block_cell HV.out 2).trans (wsC_at (stL z8) 2 (show 2 < 8 by decide))
              have x3 : W3.cell? ⟨vb, 3, none⟩ = some (.int .u32 (wI z8.d)) := (block_cell HV.out 3).trans (wsC_at (stL z8) 3 (show 3 < 8 by decide))
              have x4 : W3.cell? ⟨vb, 4, none⟩ = some (.int .u32 (wI z8.e)) := (block_cell HV.out 4).trans (wsC_at (stL z8) 4 (show 4 < 8 by decide))
              have x5 : W3.cell? ⟨vb, 5, none⟩ = some (.int .u32 (wI z8.f)) := (block_cell HV.out 5).trans (wsC_at (stL z8) 5 (show 5 < 8 by decide))
              have x6 : W3.cell? ⟨vb, 6, none⟩ = some (.int .u32 (wI z8.g)) := (block_cell HV.out 6).trans (wsC_at (stL z8) 6 (show 6 < 8 by decide))
              have x7 : W3.cell? ⟨vb, 7, none⟩ = some (.int .u32 (wI z8.h)) := (block_cell HV.out 7).trans (wsC_at (stL z8) 7 (show 7 < 8 by decide))
              have xf : ∀ o, W3.frozen? ⟨vb, o, none⟩ = false := block_free HV.out
              have xl : vb < W3.heap.size := lt_of_block HV.out
              go_upto_region 20 with fail
              rw [maj_alt]
              have HPY : Hid (yW z8 = t0W z8.a + majW z8.a z8.b z8.c) := Lib.hid rfl
              go_upto_region 21 with fail
              obtain ⟨U, hU⟩ : ∃ U, (((((((W3.setCell ⟨vb, 0, none⟩ (.int .u32 (wI (P + (t0W z8.a + majW z8.a z8.b z8.c))))).setCell ⟨vb, 1, none⟩ (.int .u32 (wI z8.a))).setCell ⟨vb, 2, none⟩ (.int .u32 (wI z8.b))).setCell ⟨vb, 3, none⟩ (.int .u32 (wI z8.c))).setCell ⟨vb, 4, none⟩ (.int .u32 (wI (z8.d + P)))).setCell ⟨vb, 5, none⟩ (.int .u32 (wI z8.e))).setCell ⟨vb, 6, none⟩ (.int .u32 (wI z8.f))).setCell ⟨vb, 7, none⟩ (.int .u32 (wI z8.g)) = U := ⟨_, rfl⟩
              rw [hU]
              have hwv : w.heap.size ≤ vb := by have := HVB.out; omega
              have HV2 : Hid (U.heap[vb]? = some (.cells (wsC (stL (stepW z8 K X))) 246 (0, 0))) := Lib.hid (by
                rw [← hU]
                have h9 := block_setCell (block_setCell (block_setCell (block_setCell (block_setCell (block_setCell (block_setCell (block_setCell HV.out (o := 0) (wV (P + (t0W z8.a + majW z8.a z8.b z8.c)))) (o := 1) (wV z8.a)) (o := 2) (wV z8.b)) (o := 3) (wV z8.c)) (o := 4) (wV (z8.d + P))) (o := 5) (wV z8.e)) (o := 6) (wV z8.f)) (o := 7) (wV z8.g)
                simp only [wsC_set] at h9
                have e9 : stL (stepW z8 K X) = [P + (t0W z8.a + majW z8.a z8.b z8.c), z8.a, z8.b, z8.c, z8.d + P, z8.e, z8.f, z8.g] := by unfold stepW stL yW; rw [HPX.out]
                rw [e9]
                exact h9)
              have hne1 : wb ≠ vb := by have := HVB.out; omega
              have hne2 : hb ≠ vb := by have := HVB.out; omega
              have HW2 : Hid (U.heap[wb]? = some (.cells (wsC ws) 294 (0, 0))) := Lib.hid (by rw [← hU]; exact block_setCell_ne (block_setCell_ne (block_setCell_ne (block_setCell_ne (block_setCell_ne (block_setCell_ne (block_setCell_ne (block_setCell_ne HW.out hne1 _) hne1 _) hne1 _) hne1 _) hne1 _) hne1 _) hne1 _) hne1 _)
              have H2 : Hid (U.heap[hb]? = some (.cells (hshC v r n) 250 (0, 0))) := Lib.hid (by rw [← hU]; exact block_setCell_ne (block_setCell_ne (block_setCell_ne (block_setCell_ne (block_setCell_ne (block_setCell_ne (block_setCell_ne (block_setCell_ne H.out hne2 _) hne2 _) hne2 _) hne2 _) hne2 _) hne2 _) hne2 _) hne2 _)
              have HX2 : Hid (ExtB (some hb) w U) := Lib.hid (by rw [← hU]; exact extB_newset (extB_newset (extB_newset (extB_newset (extB_newset (extB_newset (extB_newset (extB_newset HX.out hwv _ _) hwv _ _) hwv _ _) hwv _ _) hwv _ _) hwv _ _) hwv _ _) hwv _ _)
              clear hU x0 x1 x2 x3 x4 x5 x6 x7 xf xl hne1 hne2
              go_wp2
              go_roundg (64 - (t + 1))
              case rel => exact ⟨t + 1, by omega, by go_num, Lib.hid (by rw [HST.out]; exact HV2.out), HW2.out, HX2.out, H2.out⟩
              case measure => omega
            · obtain rfl : t = 64 := by omega
              have i3 : ¬ ((64 : Nat) : Int) < 64 := by decide
              go_upto_region 22 with fail
              have HPR : Hid (pressW v r = plusW v (roundsW kW ws v 64)) := Lib.hid (by unfold pressW; rw [HWS.out])
              obtain ⟨z8, hz8⟩ : ∃ u, roundsW kW ws v 64 = u := ⟨_, rfl⟩
              rw [hz8] at HV HPR
              clear hz8 ht
              go_wp2
              go_loopg [158, 21] 8 (fun g i _ wr => ∃ t : Nat, g + t = 8 ∧ i = .int .i64 (t : Nat) ∧ Hid (wr.heap[vb]? = some (.cells (wsC (stL z8)) 246 (0, 0))) ∧ Hid (ExtB (some hb) w wr) ∧ Hid (wr.heap[hb]? = some (.cells (hshLC (sumL v z8 t) r n) 250 (0, 0))))
              case atStart => exact ⟨0, rfl, rfl, HV.out, HX.out, H.out⟩
              case round =>
                clear HV HW HX H
                obtain ⟨i, hi, rfl, HV, HX, H⟩ := hrel
                by_cases hlt : i < 8
                · have i4 : ((i : Nat) : Int) < 8 := by omega
                  have bi : ¬ (8 : Int) ≤ (i : Int) := by omega
                  obtain ⟨W, hW⟩ : ∃ W, wr = W := ⟨_, rfl⟩
                  rw [hW] at HV HX H ⊢
                  clear hW
                  go_upto_region 25 with fail
                  obtain ⟨A, hA⟩ : ∃ A, wth (stL v) i = A := ⟨_, rfl⟩
                  obtain ⟨B, hB⟩ : ∃ B, wth (stL z8) i = B := ⟨_, rfl⟩
                  have hnx := sumL_next v z8 i hlt
                  rw [hA, hB] at hnx
                  have a0 : W.cell? ⟨hb, i, none⟩ = some (.int .u32 (wI A)) := by rw [block_cell H.out, hshLC_word _ _ _ _ (by rw [sumL_len]; exact hlt), hnx.1]
                  have b0 : W.cell? ⟨vb, i, none⟩ = some (.int .u32 (wI B)) := by rw [block_cell HV.out, wsC_at _ _ (show i < 8 from hlt), hB]
                  have HNX := Lib.hid hnx.2
                  clear hA hB hnx
                  refine wp_region_tail 11 1000 (none) (phis [fun u _ => u = (.pointer (some ⟨hb, 0, none⟩)), fun u _ => u = (.int .i64 i), fun u _ => u = (.pointer (some ⟨hb, 0, none⟩)), fun u _ => u = (.pointer (some ⟨hb, i, none⟩)), fun u _ => u = (.int .u32 (wI A)), fun u _ => u = (.int .i64 i), fun u _ => u = (.pointer (some ⟨vb, i, none⟩)), fun u _ => u = (.int .u32 (wI B)), fun u _ => u = (.int .u32 (wI (A + B))), fun u _ => u = (.pointer (some ⟨hb, 0, none⟩)), fun u _ => u = (.pointer (some ⟨hb, i, none⟩))]) rfl (by kernel_rfl) (by kernel_rfl) (mono_of ⟨mono_eq, mono_eq, mono_eq, mono_eq, mono_eq, mono_eq, mono_eq, mono_eq, mono_eq, mono_eq, mono_eq, trivial⟩) (steps_of 11 ⟨?s0, ?s1, ?s2, ?s3, ?s4, ?s5, ?s6, ?s7, ?s8, ?s9, ?s10, trivial⟩) ?_
                  case s0 =>
                    refine step_val (v := (.pointer (some ⟨hb, 0, none⟩))) (fun av wv hE hS hO hD => ?_) (fun _ => rfl)
                    have h0 : av.eval (.tmp 0) = (.pointer (some ⟨hb, 0, none⟩)) := hO.2.2 0 rfl
                    have f0 := (ev_form av 0).symm.trans h0
                    refine ⟨rfl, ?_⟩
                    simp [go_sem, f0, bv_add, bv_addm, bi]
                  case s1 =>
                    refine step_val (v := (.int .i64 i)) (fun av wv hE hS hO hD => ?_) (fun _ => rfl)
                    have h21 : av.eval (.tmp 21) = (.int .i64 i) := hO.2.2 21 rfl
                    have f21 := (ev_form av 21).symm.trans h21
                    refine ⟨rfl, ?_⟩
                    simp [go_sem, f21, bv_add, bv_addm, bi]
                  case s2 =>
                    refine step_val (v := (.pointer (some ⟨hb, 0, none⟩))) (fun av wv hE hS hO hD => ?_) (fun _ => rfl)
                    have d161 : av.eval (.tmp 161) = (.pointer (some ⟨hb, 0, none⟩)) := hD.1 rfl _ rfl
                    have f161 := (ev_form av 161).symm.trans d161
                    refine ⟨rfl, ?_⟩
                    simp [go_sem, f161, bv_add, bv_addm, bi]
                  case s3 =>
                    refine step_val (v := (.pointer (some ⟨hb, i, none⟩))) (fun av wv hE hS hO hD => ?_) (fun _ => rfl)
                    have d163 : av.eval (.tmp 163) = (.pointer (some ⟨hb, 0, none⟩)) := hD.1 rfl _ rfl
                    have f163 := (ev_form av 163).symm.trans d163
                    have d162 : av.eval (.tmp 162) = (.int .i64 i) := hD.2.1 rfl _ rfl
                    have f162 := (ev_form av 162).symm.trans d162
                    refine ⟨rfl, ?_⟩
                    simp [go_sem, f163, f162, bv_add, bv_addm, bi]
                  case s4 =>
                    refine step_val (v := (.int .u32 (wI A))) (fun av wv hE hS hO hD => ?_) (fun _ => rfl)
                    have d164 : av.eval (.tmp 164) = (.pointer (some ⟨hb, i, none⟩)) := hD.1 rfl _ rfl
                    have f164 := (ev_form av 164).symm.trans d164
                    have a0 := extB_cell hE (by simp) a0
                    have b0 := extB_cell hE (by simp) b0
                    refine ⟨rfl, ?_⟩
                    simp [go_sem, f164, a0, b0, bv_add, bv_addm, bi]
                  case s5 =>
                    refine step_val (v := (.int .i64 i)) (fun av wv hE hS hO hD => ?_) (fun _ => rfl)
                    have h21 : av.eval (.tmp 21) = (.int .i64 i) := hO.2.2 21 rfl
                    have f21 := (ev_form av 21).symm.trans h21
                    refine ⟨rfl, ?_⟩
                    simp [go_sem, f21, bv_add, bv_addm, bi]
                  case s6 =>
                    refine step_val (v := (.pointer (some ⟨vb, i, none⟩))) (fun av wv hE hS hO hD => ?_) (fun _ => rfl)
                    have h10 : av.eval (.tmp 10) = (.pointer (some ⟨vb, 0, none⟩)) := hO.2.2 10 rfl
                    have f10 := (ev_form av 10).symm.trans h10
                    have d166 : av.eval (.tmp 166) = (.int .i64 i) := hD.1 rfl _ rfl
                    have f166 := (ev_form av 166).symm.trans d166
                    refine ⟨rfl, ?_⟩
                    simp [go_sem, f10, f166, bv_add, bv_addm, bi]
                  case s7 =>
                    refine step_val (v := (.int .u32 (wI B))) (fun av wv hE hS hO hD => ?_) (fun _ => rfl)
                    have d167 : av.eval (.tmp 167) = (.pointer (some ⟨vb, i, none⟩)) := hD.1 rfl _ rfl
                    have f167 := (ev_form av 167).symm.trans d167
                    have a0 := extB_cell hE (by simp) a0
                    have b0 := extB_cell hE (by simp) b0
                    refine ⟨rfl, ?_⟩
                    simp [go_sem, f167, a0, b0, bv_add, bv_addm, bi]
                  case s8 =>
                    refine step_val (v := (.int .u32 (wI (A + B)))) (fun av wv hE hS hO hD => ?_) (fun _ => rfl)
                    have d165 : av.eval (.tmp 165) = (.int .u32 (wI A)) := hD.1 rfl _ rfl
                    have f165 := (ev_form av 165).symm.trans d165
                    have d168 : av.eval (.tmp 168) = (.int .u32 (wI B)) := hD.2.1 rfl _ rfl
                    have f168 := (ev_form av 168).symm.trans d168
                    refine ⟨rfl, ?_⟩
                    simp [go_sem, f165, f168, bv_add, bv_addm, bi]
                  case s9 =>
                    refine step_val (v := (.pointer (some ⟨hb, 0, none⟩))) (fun av wv hE hS hO hD => ?_) (fun _ => rfl)
                    have d161 : av.eval (.tmp 161) = (.pointer (some ⟨hb, 0, none⟩)) := hD.1 rfl _ rfl
                    have f161 := (ev_form av 161).symm.trans d161
                    refine ⟨rfl, ?_⟩
                    simp [go_sem, f161, bv_add, bv_addm, bi]
                  case s10 =>
                    refine step_val (v := (.pointer (some ⟨hb, i, none⟩))) (fun av wv hE hS hO hD => ?_) (fun _ => rfl)
                    have d170 : av.eval (.tmp 170) = (.pointer (some ⟨hb, 0, none⟩)) := hD.1 rfl _ rfl
                    have f170 := (ev_form av 170).symm.trans d170
                    have d162 : av.eval (.tmp 162) = (.int .i64 i) := hD.2.1 rfl _ rfl
                    have f162 := (ev_form av 162).symm.trans d162
                    refine ⟨rfl, ?_⟩
                    simp [go_sem, f170, f162, bv_add, bv_addm, bi]
                  intro a' w' hE hO hall
                  have hA := act_of_outer (ds := [161, 162, 163, 164, 165, 166, 167, 168, 169, 170, 171]) rfl hO (by kernel_rfl)
                  have e161 : (fun u _ => u = (.pointer (some ⟨hb, 0, none⟩))) (a'.eval (.tmp 161)) w' := hall.1 _ rfl
                  have e162 : (fun u _ => u = (.int .i64 i)) (a'.eval (.tmp 162)) w' := hall.2.1 _ rfl
                  have e163 : (fun u _ => u = (.pointer (some ⟨hb, 0, none⟩))) (a'.eval (.tmp 163)) w' := hall.2.2.1 _ rfl
                  have e164 : (fun u _ => u = (.pointer (some ⟨hb, i, none⟩))) (a'.eval (.tmp 164)) w' := hall.2.2.2.1 _ rfl
                  have e165 : (fun u _ => u = (.int .u32 (wI A))) (a'.eval (.tmp 165)) w' := hall.2.2.2.2.1 _ rfl
                  have e166 : (fun u _ => u = (.int .i64 i)) (a'.eval (.tmp 166)) w' := hall.2.2.2.2.2.1 _ rfl
                  have e167 : (fun u _ => u = (.pointer (some ⟨vb, i, none⟩))) (a'.eval (.tmp 167)) w' := hall.2.2.2.2.2.2.1 _ rfl
                  have e168 : (fun u _ => u = (.int .u32 (wI B))) (a'.eval (.tmp 168)) w' := hall.2.2.2.2.2.2.2.1 _ rfl
                  have e169 : (fun u _ => u = (.int .u32 (wI (A + B)))) (a'.eval (.tmp 169)) w' := hall.2.2.2.2.2.2.2.2.1 _ rfl
                  have e170 : (fun u _ => u = (.pointer (some ⟨hb, 0, none⟩))) (a'.eval (.tmp 170)) w' := hall.2.2.2.2.2.2.2.2.2.1 _ rfl
                  have e171 : (fun u _ => u = (.pointer (some ⟨hb, i, none⟩))) (a'.eval (.tmp 171)) w' := hall.2.2.2.2.2.2.2.2.2.2.1 _ rfl
                  simp only [List.foldl_cons, List.foldl_nil, Act.put, List.setIfInBounds_toArray, List.set_cons_succ, List.set_cons_zero, e161, e162, e163, e164, e165, e166, e167, e168, e169, e170, e171] at hA
                  clear hO hall e161 e162 e163 e164 e165 e166 e167 e168 e169 e170 e171
                  subst hA
                  have hX9 := of_drew hE
                  have HV := Lib.hid ((hX9.block _ (lt_of_block HV.out)).trans HV.out)
                  have hH := (hX9.block _ (lt_of_block H.out)).trans H.out
                  have HH := Lib.hid hH
                  have HX := Lib.hid (ExtB_trans _ _ _ _ HX.out (extB_of_below hX9))
                  have a0 : w'.cell? ⟨hb, i, none⟩ = some (.int .u32 (wI A)) := (World.cell?_of_block (w := W) (hX9.block _ (lt_of_block H.out))).trans a0
                  have af : w'.frozen? ⟨hb, i, none⟩ = false := block_free hH i
                  have al : hb < w'.heap.size := lt_of_block hH
                  clear hE hX9 hH b0 bi
                  go_wp2
                  go_roundg (8 - (i + 1))
                  case rel => exact ⟨i + 1, by omega, by go_num, block_setCell_ne HV.out (show vb ≠ hb by have := HVB.out; omega) _, Lib.hid (extB_setI2 HX.out _ _), Lib.hid (by have h9 := block_setCell HH.out (o := i) (wV (A + B)); rw [hshLC_set _ _ _ _ _ (by rw [sumL_len]; exact hlt), HNX.out] at h9; exact h9)⟩
                  case measure => omega
                · obtain rfl : i = 8 := by omega
                  have i4 : ¬ ((8 : Nat) : Int) < 8 := by decide
                  have e8 : sumL v z8 8 = stL (plusW v z8) := by unfold sumL; rfl
                  go_wp2
                  go_end0
                  refine ⟨rfl, HX.out, ?_⟩
                  rw [HPR.out]
                  have := H.out
                  rw [e8] at this
                  exact this
end Go.Proofs.YtpobhbdomldecaaGreatDoor
namespace Go.Proofs.YtpobhbdomldecaaGreatDoor
open Go.RowKit
set_option linter.unusedSimpArgs false
set_option linter.unusedVariables false
def byV (b : UInt8) : Value := .int .u8 (b.toNat : Int)
theorem run_copy_str {P : Program} (w : World) (dT sT ty elem : TypeId) (g o dLen dCap : Nat) (s : ByteArray) (cur : Array Value) (t : TypeId)
    (hu : P.underlying dT = some (.slice elem)) (hs : (P.info? elem).map (·.size) = some 1) (hg : w.heap[g]? = some (.cells cur t (0, 0))) (hfit : o + Nat.min s.size dLen ≤ cur.size) :
    (Builtin.copy_ #[dT, sT] ty #[.slice (some ⟨g, o, none⟩) dLen dCap, .string s]).run P w =
      .ok (goInt (Nat.min s.size dLen)) (w.setRow g (cur.toList.take o ++ (s.data.toList.take (Nat.min s.size dLen)).map byV ++ cur.toList.drop (o + Nat.min s.size dLen)).toArray) := by
  have hn : ((s.data.toList.take (Nat.min s.size dLen)).map byV).length = Nat.min s.size dLen := by
    rw [List.length_map, List.length_take]
    have : s.data.toList.length = s.size := by rw [Array.length_toList]; rfl
    rw [this]
    exact Nat.min_eq_left (Nat.min_le_left _ _)
  have hst := run_storeCells_at P g o t ((s.data.toList.take (Nat.min s.size dLen)).map byV) 0 cur w hg (by rw [hn]; simpa using hfit) (by
    intro v hv
    obtain ⟨b, _, rfl⟩ := List.mem_map.1 hv
    rfl)
  rw [hn] at hst
  cases hq : P.info? elem with
  | none => simp [hq] at hs
  | some i =>
    have hi : i.size = 1 := by simpa [hq] using hs
    simp only [Nat.add_zero] at hst
    simp [Builtin.copy_, run_underlying hu, Builtin.lenOf, Builtin.firstCells, sizeOf, typeInfo, hq, hi]
    have e9 : List.take (s.size.min dLen) (List.map (fun b : UInt8 => Value.int IntKind.u8 (b.toNat : Int)) s.data.toList) = (s.data.toList.take (s.size.min dLen)).map byV := by rw [← List.map_take]; rfl
    rw [e9, hst]
    simp
theorem wpList_copy_str {P : Program} {w : World} {ops : Array Oper} {rest : List Oper} {o : Oper} {a : Act} {Q : Exit → Act → World → Prop} (hgd : o.guard = none) (d s : Operand) (dT sT : TypeId)
    (ho : o.op = .call { callee := .builtin .copy, args := #[d, s], argTypes := #[dT, sT] }) (elem : TypeId) (hu : P.underlying dT = some (.slice elem)) (hsz : (P.info? elem).map (·.size) = some 1)
    (g off dLen dCap : Nat) (x : ByteArray) (hd : a.eval d = .slice (some ⟨g, off, none⟩) dLen dCap) (hs : a.eval s = .string x)
    (cur : Array Value) (t : TypeId) (hg : w.heap[g]? = some (.cells cur t (0, 0))) (k : Nat) (hk : Nat.min x.size dLen = k) (hfit : off + k ≤ cur.size)
    (h : wpList P ops Q rest (a.put o.dst (goInt k)) (w.setRow g (cur.toList.take off ++ (x.data.toList.take k).map byV ++ cur.toList.drop (off + k)).toArray)) : wpList P ops Q (o :: rest) a w := by
  refine wpList_plain hgd fun K hK => ?_
  subst hk
  have hrun := run_copy_str (P := P) w dT sT o.type elem g off dLen dCap x cur t hu hsz hg hfit
  unfold Oper.wp
  simp [execOp, ho, resolve, invoke, builtin, hd, hs, hrun, Result.andThen]
  exact hK _ _ (by simpa using h)
theorem wp_of_callV {P : Program} {o : Oper} {a : Act} {w : World} {f : FuncId} {args : Array Value} {R : Value → World → Prop} {K : Act → World → Prop} {Q : Exit → Act → World → Prop} (h : (execOp a.eval o).run P w = .ok (.enter f args) w)
    (hc : Calls P f args w (fun e w' => ∃ v, e = .returned v ∧ R v w')) (hK : ∀ v w', R v w' → K (a.put o.dst v) w') : o.wp P a w K Q := by
  unfold Oper.wp; rw [h]
  exact hc.mono fun e w' ⟨v, he, hR⟩ => by subst he; exact hK v w' hR
end Go.Proofs.YtpobhbdomldecaaGreatDoor
namespace Go.Proofs.YtpobhbdomldecaaGreatDoor
open Go.RowKit
set_option linter.unusedSimpArgs false
set_option linter.unusedVariables false
theorem byV_eq (b : UInt8) : byV b = bV b := by
  unfold byV
  rw [← wI_bW]
theorem hshC_n (v : St8) (r : List UInt8) (n : Int) (h : r.length = 64) : (hshC v r n)[72]? = some (.int .u64 n) := by
  unfold hshC
  rw [List.getElem?_toArray, List.getElem?_append_right (by simp [stL, h])]
  simp [stL, h]
theorem hshC_setN (v : St8) (r : List UInt8) (n m : Int) (h : r.length = 64) : (hshC v r n).setIfInBounds 72 (.int .u64 m) = hshC v r m := by
  unfold hshC
  rw [List.setIfInBounds_toArray]
  congr 1
  rw [List.set_append_right _ _ (by simp [stL, h])]
  simp [stL, h]
theorem hshC_size (v : St8) (r : List UInt8) (n : Int) (h : r.length = 64) : (hshC v r n).size = 73 := by
  unfold hshC
  simp [stL, h]
theorem hshC_copy (v : St8) (r : List UInt8) (n : Int) (p k : Nat) (K : List UInt8) (hK : K.length = k) (hp : p + k ≤ 64) (h : r.length = 64) :
    ((hshC v r n).toList.take (8 + p) ++ K.map byV ++ (hshC v r n).toList.drop (8 + p + k)).toArray = hshC v (putR r p K) n := by
  have hw : ((stL v).map wV).length = 8 := rfl
  have e : (hshC v r n).toList = (stL v).map wV ++ (r.map bV ++ [Value.int .u64 n]) := by unfold hshC; simp
  have e1 : (hshC v r n).toList.take (8 + p) = (stL v).map wV ++ (r.take p).map bV := by
    rw [e, List.take_append, hw, List.take_of_length_le (by rw [hw]; omega), show 8 + p - 8 = p by omega, List.take_append_of_le_length (by rw [List.length_map]; omega), List.map_take]
  have e2 : (hshC v r n).toList.drop (8 + p + k) = (r.drop (p + k)).map bV ++ [Value.int .u64 n] := by
    rw [e, List.drop_append, hw, List.drop_eq_nil_of_le (by rw [hw]; omega), List.nil_append, show 8 + p + k - 8 = p + k by omega, List.drop_append_of_le_length (by rw [List.length_map]; omega), List.map_drop]
  have e3 : K.map byV = K.map bV := List.map_congr_left fun b _ => byV_eq b
  rw [e1, e2, e3]
  unfold hshC putR
  rw [hK]
  simp only [List.map_append, List.append_assoc]
def HshIs (b : Nat) (L : List UInt8) (w : World) : Prop := ∃ v r, HoldsT v r L ∧ w.heap[b]? = some (.cells (hshC v r (len L : Nat)) 250 (0, 0))
theorem HshIs.keep {b : Nat} {L : List UInt8} {w w' : World} (h : HshIs b L w) (hb : Below w.heap.size w w') : HshIs b L w' := by
  obtain ⟨v, r, h1, h2⟩ := h
  exact ⟨v, r, h1, (hb.block _ (lt_of_block h2)).trans h2⟩
theorem HshIs.lt {b : Nat} {L : List UInt8} {w : World} (h : HshIs b L w) : b < w.heap.size := by
  obtain ⟨v, r, h1, h2⟩ := h
  exact lt_of_block h2
theorem below_row (w : World) (g : Nat) (cs : Array Value) : ExtB (some g) w (w.setRow g cs) :=
  ⟨rfl, rfl, rfl, by simp [World.setRow], fun k hk hn => setRow_other w g k cs (fun e => hn (by rw [e]))⟩
theorem wpList_copy_hsh {w : World} {ops : Array Oper} {rest : List Oper} {o : Oper} {a : Act} {Q : Exit → Act → World → Prop} (hgd : o.guard = none) (d s : Operand)
    (ho : o.op = .call { callee := .builtin .copy, args := #[d, s], argTypes := #[41, 9] }) (hb p dCap : Nat) (X : ByteArray) (v : St8) (r : List UInt8) (n : Int) (hd : a.eval d = .slice (some ⟨hb, 8 + p, none⟩) (64 - p) dCap) (hs : a.eval s = .string X)
    (hg : w.heap[hb]? = some (.cells (hshC v r n) 250 (0, 0))) (hr : r.length = 64) (hp : p < 64) (k : Nat) (hk : min X.size (64 - p) = k)
    (h : ∀ U : World, Hid (U.heap[hb]? = some (.cells (hshC v (putR r p (X.data.toList.take k)) n) 250 (0, 0))) → Hid (ExtB (some hb) w U) → U.cell? ⟨hb, 72, none⟩ = some (.int .u64 n) → U.frozen? ⟨hb, 72, none⟩ = false → hb < U.heap.size → wpList Tryz.prog ops Q rest (a.put o.dst (.int .i64 (k : Nat))) U) : wpList Tryz.prog ops Q (o :: rest) a w := by
  have hkl : (X.data.toList.take k).length = k := by
    rw [List.length_take, Array.length_toList]
    have : X.data.size = X.size := rfl
    rw [this]
    omega
  have hkp : p + k ≤ 64 := by omega
  refine wpList_copy_str hgd d s 41 9 ho 5 Tryz.underlying41 (by kernel_rfl) hb (8 + p) (64 - p) dCap X hd hs (hshC v r n) _ hg k hk (by rw [hshC_size _ _ _ hr]; omega) ?_
  rw [hshC_copy v r n p k _ hkl hkp hr]
  have hb2 : (w.setRow hb (hshC v (putR r p (X.data.toList.take k)) n)).heap[hb]? = some (.cells (hshC v (putR r p (X.data.toList.take k)) n) 250 (0, 0)) := setRow_heap w hb _ _ _ _ hg
  exact h _ (Lib.hid hb2) (Lib.hid (below_row _ _ _)) (by rw [block_cell hb2, hshC_n _ _ _ (by rw [putR_len _ _ _ (by rw [hkl, hr]; exact hkp)]; exact hr)]) (block_free hb2 72) (lt_of_block hb2)
theorem HshIs.intro {b : Nat} {L : List UInt8} {w : World} {v : St8} {r : List UInt8} (h : HoldsT v r L) {n : Int} (hn : n = (len L : Nat)) (hc : w.heap[b]? = some (.cells (hshC v r n) 250 (0, 0))) : HshIs b L w := ⟨v, r, h, by rw [← hn]; exact hc⟩
set_option maxRecDepth 100000 in
set_option maxHeartbeats 4000000 in
theorem write_any (hb : Nat) (L : List UInt8) (s : ByteArray) (w : World) (h : HshIs hb L w) (hl : len L + s.size ≤ 4611686018427387904) :
    Calls Tryz.prog 159 #[.pointer (some ⟨hb, 0, none⟩), .string s] w fun e w' => e = .returned (.tuple #[]) ∧ ExtB (some hb) w w' ∧ HshIs hb (L ++ s.data.toList) w' := by
  have H := Lib.hid h
  have HL := Lib.hid hl
  clear h hl
  go_enter Tryz.func159, Tryz.ntmps159
  go_wp2
  go_loopg [1, 4, 5] s.size (fun g x _ _ wr => ∃ (X : ByteArray) (D : List UInt8), x = .string X ∧ X.size = g ∧ Hid (s.data.toList = D ++ X.data.toList) ∧ Hid (HshIs hb (L ++ D) wr) ∧ Hid (ExtB (some hb) w wr))
  case atStart => exact ⟨s, [], rfl, rfl, Lib.hid rfl, Lib.hid (by rw [List.append_nil]; exact H.out), Lib.hid (ExtB_refl _ _)⟩
  case round =>
    obtain ⟨X, D, rfl, hX, HS, HH, HE⟩ := hrel
    by_cases hx : X.size = 0
    · have i1 : ¬ (0 : Int) < (X.size : Int) := by omega
      have HD : Hid (s.data.toList = D) := Lib.hid (by rw [HS.out, show X.data.toList = [] from List.eq_nil_of_length_eq_zero (by rw [Array.length_toList]; exact hx), List.append_nil])
      clear hX hx
      go_wp2
      go_end0
      exact ⟨rfl, HE.out, by rw [HD.out]; exact HH.out⟩
    · have i1 : (0 : Int) < (X.size : Int) := by omega
      obtain ⟨v, r, hT, hc⟩ := HH.out
      have HT := Lib.hid hT
      obtain ⟨n, hn⟩ : ∃ n, len (L ++ D) = n := ⟨_, rfl⟩
      have HN := Lib.hid hn
      rw [hn] at hc
      have HNB : Hid (n + X.size ≤ 4611686018427387904) := Lib.hid (by
        have h1 := HL.out
        have h2 : s.size = D.length + X.size := by
          have := congrArg List.length HS.out
          rw [List.length_append, Array.length_toList, Array.length_toList] at this
          exact this
        rw [← hn, len_eq, List.length_append]
        rw [len_eq] at h1
        omega)
      have HX0 := Lib.hid hx
      have HXG := Lib.hid hX
      obtain ⟨W, hW⟩ : ∃ W, wr = W := ⟨_, rfl⟩
      rw [hW] at hc HH HE ⊢
      have HC := Lib.hid hc
      have c72 : W.cell? ⟨hb, 72, none⟩ = some (.int .u64 n) := by rw [block_cell hc, hshC_n _ _ _ hT.rest]
      clear hW hn hX hc hx hT
      go_upto_region 3 with fail
      obtain ⟨p, hp⟩ : ∃ p : Nat, n % 64 = p := ⟨_, rfl⟩
      have hp6 : p < 64 := by omega
      rw [show ((n : Int) % 64) = ((p : Nat) : Int) by omega]
      obtain ⟨k, hk⟩ : ∃ k : Nat, min X.size (64 - p) = k := ⟨_, rfl⟩
      have HP := Lib.hid hp
      have HK := Lib.hid hk
      have p1 : ¬ (64 : Int) ≤ (p : Int) := by omega
      have p2 : ¬ (64 : Int) < (p : Int) := by omega
      have p3 : ¬ 64 = p := by omega
      have k1 : ¬ (X.size : Int) < (k : Int) := by omega
      clear hp hk c72
      go_upto_region 4 with (refine wpList_copy_hsh (o := ⟨some 22, _, _, _, _, _⟩) ?_ (.tmp 20) (.tmp 21) ?_ hb p (64 - p) X v r n ?_ ?_ HC.out HT.out.rest hp6 k HK.out ?_; rfl; rfl; rotate_left 2; intro U HU HEU cU fU lU)
      rotate_left 1
      · rfl
      · rfl
      have hnb := HNB.out
      have hx0 := HX0.out
      have hkk := HK.out
      have wk : IntKind.u64.wrap (k : Int) = (k : Int) := IntWalk.u64_in _ (by omega)
      have wn : IntKind.u64.wrap ((n : Int) + (k : Int)) = (n : Int) + (k : Int) := IntWalk.u64_in _ (by omega)
      clear hnb hx0 hkk
      go_upto_region 6 with fail
      obtain ⟨m, hm⟩ : ∃ m : Nat, n + k = m := ⟨_, rfl⟩
      rw [show (n : Int) + (k : Int) = ((m : Nat) : Int) by omega]
      obtain ⟨V, hV⟩ : ∃ V, U.setCell ⟨hb, 72, none⟩ (.int .u64 (m : Nat)) = V := ⟨_, rfl⟩
      rw [hV]
      obtain ⟨r2, hr2⟩ : ∃ r2, putR r p (X.data.toList.take k) = r2 := ⟨_, rfl⟩
      rw [hr2] at HU
      have hkl : (X.data.toList.take k).length = k := by
        rw [List.length_take, Array.length_toList]
        have h1 : X.data.size = X.size := rfl
        have h2 := HK.out
        rw [h1]
        omega
      have hr2l : r2.length = 64 := by
        rw [← hr2, putR_len _ _ _ (by have := HT.out.rest; have := HK.out; omega)]
        exact HT.out.rest
      have HVB : Hid (V.heap[hb]? = some (.cells (hshC v r2 (m : Nat)) 250 (0, 0))) := Lib.hid (by
        rw [← hV]
        have := block_setCell HU.out (o := 72) (.int .u64 (m : Nat))
        rw [hshC_setN _ _ _ _ hr2l] at this
        exact this)
      have HVE : Hid (ExtB (some hb) w V) := Lib.hid (by rw [← hV]; exact extB_setI2 (ExtB_trans _ _ _ _ HE.out HEU.out) _ _)
      have c72 : V.cell? ⟨hb, 72, none⟩ = some (.int .u64 (m : Nat)) := by rw [block_cell HVB.out, hshC_n _ _ _ hr2l]
      have lV : hb < V.heap.size := lt_of_block HVB.out
      have HKL := Lib.hid hkl
      have HM := Lib.hid hm
      have HR2 := Lib.hid hr2
      have HRL := Lib.hid hr2l
      have hk0 : 0 < k := by have := HX0.out; have := HK.out; omega
      have HK0 := Lib.hid hk0
      have HD2 : Hid (len (L ++ (D ++ X.data.toList.take k)) = m ∧ s.data.toList = (D ++ X.data.toList.take k) ++ (X.extract k X.size).data.toList ∧ (X.extract k X.size).size = X.size - k) := Lib.hid (by
        have hkx : k ≤ X.size := by have := HK.out; omega
        refine ⟨?_, ?_, by rw [ByteArray.size_extract]; omega⟩
        · rw [len_eq, ← List.append_assoc, List.length_append, hkl]
          have := HN.out
          rw [len_eq] at this
          omega
        · rw [HS.out, Lib.extract_data, List.append_assoc]
          congr 1
          have h9 : (X.data.toList.drop k).take (X.size - k) = X.data.toList.drop k := List.take_of_length_le (by rw [List.length_drop, Array.length_toList]; exact Nat.le_refl _)
          rw [h9, List.take_append_drop])
      clear wk wn hV hr2 hkl hr2l hm cU fU lU k1 p1 p2 p3 hk0
      by_cases hq : m % 64 = 0
      · have q1 : ((m : Nat) : Int) % 64 = 0 := by omega
        have HQ := Lib.hid hq
        clear hq
        go_upto_region 7 with fail
        have HIN := Lib.hid (fun (wv : World) (hb9 : Below V.heap.size V wv) => in_any hb v r2 (m : Nat) wv HRL.out ((hb9.block _ lV).trans HVB.out))
        refine wp_region_all 7 (some hb) (phis [fun u _ => u = (.pointer (some ⟨hb, 0, none⟩)), fun u _ => u = (.pointer (some ⟨hb, 0, none⟩)), fun u _ => u = (.pointer (some ⟨hb, 0, none⟩)), fun u _ => u = (.pointer (some ⟨hb, 0, none⟩)), fun u _ => u = (.pointer (some ⟨hb, 0, none⟩)), fun u _ => u = (.pointer (some ⟨hb, 8, none⟩)), fun u _ => u = (.slice (some ⟨hb, 8, none⟩) 64 64), fun u w' => u = .tuple #[] ∧ w'.heap[hb]? = some (.cells (hshC (pressW v r2) r2 (m : Nat)) 250 (0, 0))]) rfl (by kernel_rfl) (mono_of ⟨mono_eq, mono_eq, mono_eq, mono_eq, mono_eq, mono_eq, mono_eq, ?m7, trivial⟩) (steps_of 8 ⟨?s0, ?s1, ?s2, ?s3, ?s4, ?s5, ?s6, ?s7, trivial⟩) ?_
        case m7 =>
          exact ⟨fun u w1 w2 h ⟨h1, h2⟩ => ⟨h1, (h.block _ (lt_of_block h2)).trans h2⟩, fun hn => absurd rfl hn⟩
        case s0 =>
          refine step_val (v := (.pointer (some ⟨hb, 0, none⟩))) (fun av wv hE hS hO hD => ?_) (fun _ => rfl)
          have h0 : av.eval (.tmp 0) = (.pointer (some ⟨hb, 0, none⟩)) := hO.2.2 0 rfl
          have f0 := (ev_form av 0).symm.trans h0
          refine ⟨rfl, ?_⟩
          simp [go_sem, f0]
        case s1 =>
          refine step_val (v := (.pointer (some ⟨hb, 0, none⟩))) (fun av wv hE hS hO hD => ?_) (fun _ => rfl)
          have d41 : av.eval (.tmp 41) = (.pointer (some ⟨hb, 0, none⟩)) := hD.1 rfl _ rfl
          have f41 := (ev_form av 41).symm.trans d41
          refine ⟨rfl, ?_⟩
          simp [go_sem, f41]
        case s2 =>
          refine step_val (v := (.pointer (some ⟨hb, 0, none⟩))) (fun av wv hE hS hO hD => ?_) (fun _ => rfl)
          have d42 : av.eval (.tmp 42) = (.pointer (some ⟨hb, 0, none⟩)) := hD.1 rfl _ rfl
          have f42 := (ev_form av 42).symm.trans d42
          refine ⟨rfl, ?_⟩
          simp [go_sem, f42]
        case s3 =>
          refine step_val (v := (.pointer (some ⟨hb, 0, none⟩))) (fun av wv hE hS hO hD => ?_) (fun _ => rfl)
          have h0 : av.eval (.tmp 0) = (.pointer (some ⟨hb, 0, none⟩)) := hO.2.2 0 rfl
          have f0 := (ev_form av 0).symm.trans h0
          refine ⟨rfl, ?_⟩
          simp [go_sem, f0]
        case s4 =>
          refine step_val (v := (.pointer (some ⟨hb, 0, none⟩))) (fun av wv hE hS hO hD => ?_) (fun _ => rfl)
          have d44 : av.eval (.tmp 44) = (.pointer (some ⟨hb, 0, none⟩)) := hD.1 rfl _ rfl
          have f44 := (ev_form av 44).symm.trans d44
          refine ⟨rfl, ?_⟩
          simp [go_sem, f44]
        case s5 =>
          refine step_val (v := (.pointer (some ⟨hb, 8, none⟩))) (fun av wv hE hS hO hD => ?_) (fun _ => rfl)
          have d45 : av.eval (.tmp 45) = (.pointer (some ⟨hb, 0, none⟩)) := hD.1 rfl _ rfl
          have f45 := (ev_form av 45).symm.trans d45
          refine ⟨rfl, ?_⟩
          simp [go_sem, f45]
        case s6 =>
          refine step_val (v := (.slice (some ⟨hb, 8, none⟩) 64 64)) (fun av wv hE hS hO hD => ?_) (fun _ => rfl)
          have d46 : av.eval (.tmp 46) = (.pointer (some ⟨hb, 8, none⟩)) := hD.1 rfl _ rfl
          have f46 := (ev_form av 46).symm.trans d46
          refine ⟨rfl, ?_⟩
          simp [go_sem, f46]
        case s7 =>
          refine step_wp (fun av wv hE hS hO hD => ?_)
          have d43 : av.eval (.tmp 43) = (.pointer (some ⟨hb, 0, none⟩)) := hD.1 rfl _ rfl
          have f43 := (ev_form av 43).symm.trans d43
          have d47 : av.eval (.tmp 47) = (.slice (some ⟨hb, 8, none⟩) 64 64) := hD.2.1 rfl _ rfl
          have f47 := (ev_form av 47).symm.trans d47
          refine ⟨rfl, ?_⟩
          refine wp_of_callV (R := fun u w2 => u = .tuple #[] ∧ ExtB (some hb) wv w2 ∧ w2.heap[hb]? = some (.cells (hshC (pressW v r2) r2 (m : Nat)) 250 (0, 0))) (f := 220) (args := #[.pointer (some ⟨hb, 0, none⟩), .slice (some ⟨hb, 8, none⟩) 64 64]) (by simp [go_sem, f43, f47]) ((HIN.out wv (bnext (bdrew (Below.refl _ _)) (hS rfl))).mono (fun e w2 ⟨h1, h2, h3⟩ => ⟨_, h1, rfl, h2, h3⟩)) (fun u w2 ⟨h1, h2, h3⟩ => ⟨_, rfl, es_sp h2, h1, h3⟩)
        intro a' w' hE hO hall
        have hA := act_of_outer (ds := [41, 42, 43, 44, 45, 46, 47, 48]) rfl hO (by kernel_rfl)
        have e41 : (fun u _ => u = (.pointer (some ⟨hb, 0, none⟩))) (a'.eval (.tmp 41)) w' := hall.1 _ rfl
        have e42 : (fun u _ => u = (.pointer (some ⟨hb, 0, none⟩))) (a'.eval (.tmp 42)) w' := hall.2.1 _ rfl
        have e43 : (fun u _ => u = (.pointer (some ⟨hb, 0, none⟩))) (a'.eval (.tmp 43)) w' := hall.2.2.1 _ rfl
        have e44 : (fun u _ => u = (.pointer (some ⟨hb, 0, none⟩))) (a'.eval (.tmp 44)) w' := hall.2.2.2.1 _ rfl
        have e45 : (fun u _ => u = (.pointer (some ⟨hb, 0, none⟩))) (a'.eval (.tmp 45)) w' := hall.2.2.2.2.1 _ rfl
        have e46 : (fun u _ => u = (.pointer (some ⟨hb, 8, none⟩))) (a'.eval (.tmp 46)) w' := hall.2.2.2.2.2.1 _ rfl
        have e47 : (fun u _ => u = (.slice (some ⟨hb, 8, none⟩) 64 64)) (a'.eval (.tmp 47)) w' := hall.2.2.2.2.2.2.1 _ rfl
        have e48 : (fun u w' => u = .tuple #[] ∧ w'.heap[hb]? = some (.cells (hshC (pressW v r2) r2 (m : Nat)) 250 (0, 0))) (a'.eval (.tmp 48)) w' := hall.2.2.2.2.2.2.2.1 _ rfl
        obtain ⟨v48, hv48⟩ : ∃ v, a'.eval (.tmp 48) = v := ⟨_, rfl⟩
        rw [hv48] at e48
        simp only [List.foldl_cons, List.foldl_nil, Act.put, List.setIfInBounds_toArray, List.set_cons_succ, List.set_cons_zero, e41, e42, e43, e44, e45, e46, e47, hv48] at hA
        clear hO hall e41 e42 e43 e44 e45 e46 e47 hv48
        subst hA
        obtain ⟨_, h48⟩ := e48
        have HB9 := Lib.hid h48
        have HE9 : Hid (ExtB (some hb) w w') := Lib.hid (ExtB_trans _ _ _ _ HVE.out (ExtB_trans _ _ _ _ (extB_of_below (bdrew (Below.refl _ _))) hE))
        have HT2 : Hid (HoldsT (pressW v r2) r2 (L ++ (D ++ X.data.toList.take k))) := Lib.hid (by
          have hn := HN.out
          have hp := HP.out
          rw [len_eq] at hn
          have h1 := HT.out.full (k := X.data.toList.take k) (by rw [hn, hp, HKL.out]; have := HK.out; omega) (by rw [HKL.out]; exact HK0.out) (by rw [hn, HKL.out, HM.out]; exact HQ.out)
          rw [hn, hp, HR2.out, List.append_assoc] at h1
          exact h1)
        clear h48 hE
        go_wp2
        go_roundg (X.size - k)
        case rel => exact ⟨X.extract k X.size, D ++ X.data.toList.take k, rfl, HD2.out.2.2, Lib.hid HD2.out.2.1, Lib.hid (HshIs.intro HT2.out (by rw [HD2.out.1]) HB9.out), HE9⟩
        case measure => have := HX0.out; have := HK0.out; have := HXG.out; omega
      · have q1 : ¬ ((m : Nat) : Int) % 64 = 0 := by omega
        have HQ := Lib.hid hq
        have HT2 : Hid (HoldsT v r2 (L ++ (D ++ X.data.toList.take k))) := Lib.hid (by
          have hn := HN.out
          have hp := HP.out
          rw [len_eq] at hn
          have h1 := HT.out.more (k := X.data.toList.take k) (by rw [hn, hp, HKL.out]; have := HK.out; omega) (by rw [HKL.out]; exact HK0.out) (by rw [hn, HKL.out, HM.out]; exact HQ.out)
          rw [hn, hp, HR2.out, List.append_assoc] at h1
          exact h1)
        clear hq
        go_wp2
        go_roundg (X.size - k)
        case rel => exact ⟨X.extract k X.size, D ++ X.data.toList.take k, rfl, HD2.out.2.2, Lib.hid HD2.out.2.1, Lib.hid (HshIs.intro HT2.out (by rw [HD2.out.1]) HVB.out), HVE⟩
        case measure => have := HX0.out; have := HK0.out; have := HXG.out; omega
end Go.Proofs.YtpobhbdomldecaaGreatDoor
namespace Go.Proofs.YtpobhbdomldecaaGreatDoor
open Go.RowKit
set_option linter.unusedSimpArgs false
set_option linter.unusedVariables false
theorem nums_str (L : List UInt8) : strOfNums (L.map fun b => (b.toNat : Int)) = ⟨L.toArray⟩ := by
  have h : (strOfNums (L.map fun b => (b.toNat : Int))).data.toList = L := by
    rw [strOfNums_data, List.map_map]
    conv => rhs; rw [← List.map_id L]
    refine List.map_congr_left fun x _ => ?_
    simp
  exact ByteArray.ext (Array.ext' (by rw [h]))
theorem conv_block (w : World) (g off cap n : Nat) (L : List UInt8) (hn : L.length = n) (hc : ∀ i, i < n → w.cell? ⟨g, off + i, none⟩ = some (byV (L.getD i 0))) :
    (convert 41 9 (.slice (some ⟨g, off, none⟩) n cap)).run Tryz.prog w = .ok (.string ⟨L.toArray⟩) w := by
  have h := run_convert_bytes_arg (P := Tryz.prog) (w := w) 41 5 Tryz.underlying41 Tryz.underlying5 g off n cap (L.map fun b => (b.toNat : Int)) (by rw [List.length_map, hn]) (fun i hi => by
    rw [hc i hi]
    have hi2 : i < L.length := by omega
    unfold byV
    rw [List.getD_eq_getElem?_getD, List.getElem?_eq_getElem hi2, List.getD_eq_getElem?_getD, List.getElem?_map, List.getElem?_eq_getElem hi2]; rfl) 9 Tryz.underlying9
  rw [nums_str] at h
  exact h
theorem conv_new (w : World) (t : TypeId) (cap n : Nat) (L : List UInt8) (hn : L.length = n) : (convert 41 9 (.slice (some ⟨w.heap.size, 0, none⟩) n cap)).run Tryz.prog (w.alloc (.cells (L.map byV).toArray t)) = .ok (.string ⟨L.toArray⟩) (w.alloc (.cells (L.map byV).toArray t)) := by
  refine conv_block _ _ _ _ _ L hn fun i hi => ?_
  have hb : (w.alloc (.cells (L.map byV).toArray t)).heap[w.heap.size]? = some (.cells (L.map byV).toArray t (0, 0)) := alloc_new_at _ rfl
  have hi2 : i < L.length := by omega
  rw [block_cell hb, Nat.zero_add, List.getElem?_toArray, List.getElem?_map, List.getElem?_eq_getElem hi2, List.getD_eq_getElem?_getD, List.getElem?_eq_getElem hi2]
  rfl
theorem conv_own {w : World} {base n : Nat} {v : Value} {L : List UInt8} (h : w.ownsRow base 5 1 v n (L.map byV)) (hn : L.length = n) (h0 : 0 < n) : (convert 41 9 v).run Tryz.prog w = .ok (.string ⟨L.toArray⟩) w := by
  rcases h.2 with ⟨rfl, h1⟩ | ⟨g, cap, cur, rfl, _, _, _, _, _, _⟩
  · omega
  · refine conv_block _ _ _ _ _ L hn fun i hi => ?_
    have h2 := h.cellAt i (by omega)
    have hi2 : i < L.length := by omega
    rw [Nat.zero_add, h2, List.getElem?_map, List.getElem?_eq_getElem hi2, List.getD_eq_getElem?_getD, List.getElem?_eq_getElem hi2]
    rfl
end Go.Proofs.YtpobhbdomldecaaGreatDoor
namespace Go.Proofs.YtpobhbdomldecaaGreatDoor
open Go.RowKit
set_option linter.unusedSimpArgs false
set_option linter.unusedVariables false
def filB (K : List UInt8) (k m : Nat) : List UInt8 := K.take m ++ List.replicate (k - m) 0
def filC (K : List UInt8) (k m : Nat) : Array Value := ((filB K k m).map byV).toArray
theorem filC_at (K : List UInt8) (k m : Nat) (h : m < k) (hk : K.length = k) : (filC K k m)[m]? = some (byV 0) := by
  unfold filC filB
  rw [List.getElem?_toArray, List.getElem?_map, List.getElem?_append_right (by rw [List.length_take]; omega), List.length_take, show m - min m K.length = 0 by omega]
  rw [show k - m = (k - m - 1) + 1 by omega, List.replicate_succ]
  rfl
theorem filC_set (K : List UInt8) (k m : Nat) (h : m < k) (hk : K.length = k) : (filC K k m).setIfInBounds m (byV (K.getD m 0)) = filC K k (m + 1) := by
  unfold filC filB
  rw [List.setIfInBounds_toArray, ← List.map_set]
  congr 2
  rw [List.set_append_right _ _ (by rw [List.length_take]; omega), List.length_take, show m - min m K.length = 0 by omega]
  rw [show k - m = (k - (m + 1)) + 1 by omega, List.replicate_succ, List.set_cons_zero, List.take_succ_eq_append_getElem (by omega), List.append_assoc]
  congr 1
  rw [List.getD_eq_getElem?_getD, List.getElem?_eq_getElem (by omega)]
  rfl
theorem filC_all (K : List UInt8) (k : Nat) (hk : K.length = k) : filC K k k = (K.map byV).toArray := by
  unfold filC filB
  rw [Nat.sub_self, List.replicate_zero, List.append_nil, ← hk, List.take_length]
theorem num8_byte (N m : Nat) (h : m < 8) : Value.int .u8 ((N : Int) / 2 ^ (8 * (7 - m)) % 256) = byV ((num8 N).getD m 0) := by
  have h1 : (num8 N).getD m 0 = UInt8.ofNat (N / 256 ^ (7 - m)) := by
    rw [List.getD_eq_getElem?_getD, num8_get N m h]; rfl
  rw [h1]
  unfold byV
  congr 1
  rw [UInt8.toNat_ofNat', show (2 : Int) ^ (8 * (7 - m)) = ((256 ^ (7 - m) : Nat) : Int) by rw [Int.pow_mul]; simp]
  simp
theorem byV_block {w : World} {b : Nat} {L : List UInt8} {t : TypeId} {fr : Nat × Nat} (h : w.heap[b]? = some (.cells (L.map byV).toArray t fr)) (i : Nat) (hi : i < L.length) : w.cell? ⟨b, 0 + i, none⟩ = some (byV (L.getD i 0)) := by
  rw [block_cell h, Nat.zero_add, List.getElem?_toArray, List.getElem?_map, List.getElem?_eq_getElem hi, List.getD_eq_getElem?_getD, List.getElem?_eq_getElem hi]
  rfl
theorem word4_vals (x : W32) : [Value.int .u8 (wI x / 16777216 % 256), .int .u8 (wI x / 65536 % 256), .int .u8 (wI x / 256 % 256), .int .u8 (wI x % 256)] = (word4 x).map byV := by
  unfold word4 byV wI
  simp [UInt8.toNat_ofNat']
theorem outW_snoc (v : St8) (t : Nat) (h : t < 8) : (((stL v).take (t + 1)).map word4).flatten = (((stL v).take t).map word4).flatten ++ word4 (wth (stL v) t) := by
  rw [List.take_succ_eq_append_getElem h, List.map_append, List.flatten_append, wth_eq _ _ h]
  simp
theorem outW_eq (v : St8) : ((stL v).map word4).flatten = outW v := by
  unfold stL outW
  simp
end Go.Proofs.YtpobhbdomldecaaGreatDoor
namespace Go.Proofs.YtpobhbdomldecaaGreatDoor
open Go.RowKit
set_option linter.unusedSimpArgs false
set_option linter.unusedVariables false
def zero8 : List W32 := List.replicate 8 0
set_option maxRecDepth 100000 in
set_option maxHeartbeats 4000000 in
theorem first_any (w : World) : Calls Tryz.prog 219 #[] w fun e w' => e = .returned (.agg (wsC (stL st0))) ∧ Below w.heap.size w w' := by
  go_enter Tryz.func219, Tryz.ntmps219
  go_upto_region 1 with fail
  obtain ⟨b, hb⟩ : ∃ b, w.heap.size = b := ⟨_, rfl⟩
  show Code.wp _ _ _ _ (w.alloc (.cells (wsC zero8) 246))
  obtain ⟨V, hV⟩ : ∃ V, w.alloc (.cells (wsC zero8) 246) = V := ⟨_, rfl⟩
  have HV : Hid (V.heap[b]? = some (.cells (wsC zero8) 246 (0, 0))) := Lib.hid (by rw [← hV, ← hb]; exact heap_alloc_new _ _)
  have HS : Hid (Below w.heap.size w V) := Lib.hid (by rw [← hV]; exact balloc (Below.refl _ _) _)
  have HBW : Hid (w.heap.size ≤ b) := Lib.hid (Nat.le_of_eq hb)
  rw [hV, hb]
  clear hV hb
  apply wp_region_lit
  refine wpList_build rfl 246 _ rfl (by as_aux_lemma => kernel_rfl) ?_
  refine wpList_store_row rfl 246 _ _ rfl b (wsC (stL st0)) rfl (by as_aux_lemma => kernel_rfl) 246 (wsC zero8) HV.out (by as_aux_lemma => kernel_rfl) (by as_aux_lemma => kernel_rfl) (by as_aux_lemma => kernel_rfl) ?_
  apply wpList_nil
  obtain ⟨U, hU⟩ : ∃ U, V.setRow b (wsC (stL st0)) = U := ⟨_, rfl⟩
  have HU : Hid (U.heap[b]? = some (.cells (wsC (stL st0)) 246 (0, 0))) := Lib.hid (by rw [← hU]; exact setRow_heap V b _ _ _ _ HV.out)
  have HUB : Hid (Below w.heap.size w U) := Lib.hid (by
    rw [← hU]
    exact ⟨HS.out.os, HS.out.tape, HS.out.output, by rw [setRow_size]; exact HS.out.size, fun i hi => by rw [setRow_other _ _ _ _ (show i ≠ b by have := HBW.out; omega)]; exact HS.out.block i hi⟩)
  rw [hU]
  rename_i Q' K hK
  refine hK _ _ ?_
  apply wp_ret
  refine bodyPost_ret (v := .agg (wsC (stL st0))) ?_ rfl ?_
  · exact results_cell_row rfl _ _ b 246 (wsC (stL st0)) (0, 0) _ rfl HU.out rfl rfl (by as_aux_lemma => kernel_rfl)
  · exact ⟨rfl, HUB.out⟩
def zero64 : List UInt8 := List.replicate 64 0
set_option maxRecDepth 100000 in
theorem built_hsh : Tryz.prog.built 250 [(0, .agg (wsC (stL st0)))] = some (hshC st0 zero64 ((0 : Nat) : Int)) := by kernel_rfl
def NewIsH (w : World) (e : Ending) (w' : World) : Prop := ∃ b, e = .returned (.pointer (some ⟨b, 0, none⟩)) ∧ w.heap.size ≤ b ∧ HshIs b [] w' ∧ Below w.heap.size w w'
theorem zero64_len : zero64.length = 64 := by unfold zero64; rw [List.length_replicate]
set_option maxRecDepth 100000 in
set_option maxHeartbeats 4000000 in
theorem hnew_any (w : World) : Calls Tryz.prog 158 #[] w (NewIsH w) := by
  have HB := Lib.hid built_hsh
  have HF := Lib.hid first_any
  go_enter Tryz.func158, Tryz.ntmps158
  go_upto_region 1 with fail
  go_wp2_with fail
  refine (HF.out _).mono ?_
  rintro e w2 ⟨rfl, hb2⟩
  have HB2 := Lib.hid hb2
  clear hb2
  have hA : wsC (stL st0) = #[.int .u32 1779033703, .int .u32 3144134277, .int .u32 1013904242, .int .u32 2773480762, .int .u32 1359893119, .int .u32 2600822924, .int .u32 528734635, .int .u32 1541459225] := by kernel_rfl
  rw [hA]
  clear hA
  go_wp2
  go_ret
  refine ⟨w2.heap.size, rfl, HB2.out.size, ⟨st0, zero64, HoldsT.start _ zero64_len, (heap_alloc_new _ _).trans ?_⟩, balloc HB2.out _⟩
  kernel_rfl
theorem info_b8 : (Tryz.prog.info? 5).map (fun i => (i.zero, i.size, i.bytes)) = some (some (.int .u8 0), 1, 1) := by kernel_rfl
theorem index_8 (v : St8) (t : Nat) (h : t < 8) (w : World) : (Instr.index 246 (.agg (wsC (stL v))) (.int .i64 (t : Int))).run Tryz.prog w = .ok (.int .u32 (wI (wth (stL v) t))) w := by
  have hk : (wsC (stL v))[t]? = some (wV (wth (stL v) t)) := wsC_at (stL v) t h
  have hs : (wsC (stL v)).size = 8 := rfl
  generalize wsC (stL v) = KC at hk hs
  have b : ¬ (8 : Int) ≤ (t : Int) := by omega
  have b2 : ¬ (t : Int) < 0 := by omega
  unfold Instr.index
  simp [go_sem, hk, hs, b, b2]
  intro h9
  omega
theorem HshIs.count {b : Nat} {L : List UInt8} {w : World} (h : HshIs b L w) {n : Nat} (hn : len L = n) : w.cell? ⟨b, 72, none⟩ = some (.int .u64 (n : Nat)) := by
  obtain ⟨v, r, h1, h2⟩ := h
  rw [block_cell h2, hshC_n _ _ _ h1.rest, hn]
theorem below_own {B : Nat} {row : Nat} {w V w2 : World} (h1 : Below B w V) (hr : B ≤ row) (hB : B ≤ V.heap.size) (h2 : ExtB (some row) V w2) : Below B w w2 :=
  ⟨h2.os.trans h1.os, h2.tape.trans h1.tape, h2.output.trans h1.output, Nat.le_trans h1.size h2.size, fun i hi => (h2.block i (by omega) (by simp; omega)).trans (h1.block i hi)⟩
theorem hshC_one (v : St8) (r : List UInt8) (n : Int) : (hshC v r n).all (·.oneCell') = true := by
  unfold hshC
  rw [Array.all_eq_true]
  intro i hi
  have : ∀ x ∈ (stL v).map wV ++ r.map bV ++ [Value.int .u64 n], x.oneCell' = true := by
    intro x hx
    simp only [List.mem_append, List.mem_map, List.mem_singleton] at hx
    rcases hx with (⟨a, _, rfl⟩ | ⟨a, _, rfl⟩) | rfl <;> rfl
  exact this _ (by simp)
set_option maxRecDepth 100000 in
set_option maxHeartbeats 4000000 in
theorem hsum_any (hb : Nat) (L : List UInt8) (w : World) (h : HshIs hb L w) (hl : len L ≤ 1152921504606846976) :
    Calls Tryz.prog 160 #[.pointer (some ⟨hb, 0, none⟩)] w fun e w' => e = .returned (.string ⟨(shaL L).toArray⟩) ∧ Below w.heap.size w w' := by
  obtain ⟨v, r, hT, hc⟩ := h
  obtain ⟨n, hn⟩ : ∃ n, len L = n := ⟨_, rfl⟩
  rw [hn] at hc hl
  obtain ⟨Cc, hCc⟩ : ∃ Cc, hshC v r (n : Nat) = Cc := ⟨_, rfl⟩
  have HCC := Lib.hid hCc
  have HSZ : Hid (Cc.size = 73) := Lib.hid (by rw [← hCc, hshC_size _ _ _ hT.rest])
  have HON : Hid (Cc.all (·.oneCell') = true) := Lib.hid (by rw [← hCc]; exact hshC_one _ _ _)
  rw [hCc] at hc
  have HC := Lib.hid hc
  have HT := Lib.hid hT
  have HN := Lib.hid hn
  have HL := Lib.hid hl
  have HI : Hid ((Tryz.prog.info? 250).map (·.size) = some Cc.size) := Lib.hid (by rw [HSZ.out]; kernel_rfl)
  clear hc hT hn hl hCc
  go_enter Tryz.func160, Tryz.ntmps160
  go_upto_region 3 with fail
  go_upto_region 4 with (first | (refine wpList_load_row (o := ⟨some 14, _, _, _, _, _⟩) ?_ 250 (.tmp 13) ?_ hb ?_ 250 Cc (0, 0) _ HC.out Tryz.underlying250 ?_ HI.out ?_; rfl; rfl; rfl; rfl; skip) | (refine wpList_store_row ?_ 250 (.tmp 3) (.tmp 14) ?_ w.heap.size Cc ?_ ?_ 250 _ (heap_alloc_new _ _) HI.out ?_ HON.out ?_; rfl; rfl; rfl; rfl; (rw [HSZ.out]; kernel_rfl); skip))
  obtain ⟨cb, hcb⟩ : ∃ cb, w.heap.size = cb := ⟨_, rfl⟩
  rw [hcb]
  obtain ⟨V, hV⟩ : ∃ V, (w.alloc (.cells Tryz.zeroCells250 250)).setRow cb Cc = V := ⟨_, rfl⟩
  rw [hV]
  have HVB : Hid (V.heap[cb]? = some (.cells (hshC v r (n : Nat)) 250 (0, 0))) := Lib.hid (by rw [HCC.out, ← hV, ← hcb]; exact setRow_heap _ _ _ _ _ _ (heap_alloc_new _ _))
  have HVW : Hid (Below w.heap.size w V) := Lib.hid (by
    rw [← hV]
    have h1 : Below w.heap.size w (w.alloc (.cells Tryz.zeroCells250 250)) := balloc (Below.refl _ _) _
    exact ⟨h1.os, h1.tape, h1.output, by rw [setRow_size]; exact h1.size, fun i hi => by rw [setRow_other _ _ _ _ (show i ≠ cb by omega)]; exact h1.block i hi⟩)
  have HCB : Hid (w.heap.size ≤ cb) := Lib.hid (Nat.le_of_eq hcb)
  have HH : Hid (HshIs cb L V) := Lib.hid (HshIs.intro HT.out (by rw [HN.out]) HVB.out)
  have c72 : V.cell? ⟨cb, 72, none⟩ = some (.int .u64 n) := by rw [block_cell HVB.out, hshC_n _ _ _ HT.out.rest]
  have w8 : IntKind.u64.wrap ((n : Int) * 8) = (n : Int) * 8 := IntWalk.u64_in _ (by have := HL.out; omega)
  clear hV hcb HVB HC HI HON HSZ HCC
  go_upto_region 5 with fail
  clear c72 w8
  have cv : (convert 41 9 (.slice (some ⟨V.heap.size, 0, none⟩) 1 1)).run Tryz.prog (V.alloc (.cells #[.int .u8 128] 5)) = .ok (.string ⟨#[128]⟩) (V.alloc (.cells #[.int .u8 128] 5)) := conv_new V 5 1 1 [128] rfl
  go_wp2_with fail
  have HV1 := Lib.hid (write_any cb L ⟨#[128]⟩ (V.alloc (.cells #[.int .u8 128] 5)) (HH.out.keep (balloc (Below.refl _ _) _)) (by have h1 := HL.out; have h2 := HN.out; rw [h2]; show n + 1 ≤ _; omega))
  refine HV1.out.mono ?_
  rintro e w2 ⟨rfl, hE, hH⟩
  have HH := Lib.hid hH
  have HVW : Hid (Below w.heap.size w w2) := Lib.hid (below_own HVW.out HCB.out HVW.out.size (ExtB_trans _ _ _ _ (extB_alloc _ _ _) hE))
  have HH : Hid (HshIs cb (L ++ [128] ++ List.replicate 0 0) w2) := Lib.hid (by rw [List.replicate_zero, List.append_nil]; exact HH.out)
  clear hE hH HV1 cv
  go_upto_region 6 with fail
  go_loopg [21] (zerosW n) (fun g _ wr => ∃ m : Nat, g + m = zerosW n ∧ Hid (HshIs cb (L ++ [128] ++ List.replicate m 0) wr) ∧ Hid (Below w.heap.size w wr))
  case atStart => exact ⟨0, rfl, HH, HVW⟩
  case round =>
    clear HH HVW
    obtain ⟨m, hm, HH, HVW⟩ := hrel
    have hz := zerosW_le n
    have HLEN : Hid (len (L ++ [128] ++ List.replicate m 0) = n + 1 + m) := Lib.hid (by
      have := HN.out
      rw [len_eq] at this
      rw [len_eq, List.length_append, List.length_append, List.length_replicate, this]
      rfl)
    have c72 := HH.out.count HLEN.out
    obtain ⟨q, hq⟩ : ∃ q, n + 1 + m = q := ⟨_, rfl⟩
    rw [hq] at c72 HLEN
    have HQ : Hid (q ≤ n + 64) := Lib.hid (by omega)
    by_cases hlt : m < zerosW n
    · have q1 : ¬ ((q : Nat) : Int) % 64 = 56 := by have := zerosW_not n m hlt; omega
      clear hq
      go_wp2_with fail
      have HV1 := Lib.hid (write_any cb _ ⟨#[0]⟩ wr HH.out (by rw [HLEN.out]; have h1 := HL.out; have h2 := HQ.out; show _ + 1 ≤ _; omega))
      refine HV1.out.mono ?_
      rintro e w2 ⟨rfl, hE, hH⟩
      have HV2 : Hid (Below w.heap.size w w2) := Lib.hid (below_own HVW.out HCB.out HVW.out.size hE)
      have HH2 : Hid (HshIs cb (L ++ [128] ++ List.replicate (m + 1) 0) w2) := Lib.hid (by
        have e9 : L ++ [128] ++ List.replicate (m + 1) 0 = L ++ [128] ++ List.replicate m 0 ++ [0] := by rw [List.replicate_succ', List.append_assoc (L ++ [128])]
        rw [e9]
        exact hH)
      clear hE hH HV1
      go_wp2
      go_roundg (zerosW n - (m + 1))
      case rel => exact ⟨m + 1, by omega, HH2, HV2⟩
      case measure => omega
    · obtain rfl : m = zerosW n := by omega
      have q1 : ((q : Nat) : Int) % 64 = 56 := by have := zerosW_end n; omega
      clear hq hz hlt hm
      go_upto_region 9 with fail
      obtain ⟨N, hN⟩ : ∃ N : Nat, n * 8 = N := ⟨_, rfl⟩
      rw [show (n : Int) * 8 = ((N : Nat) : Int) by omega]
      have HN8 := Lib.hid hN
      obtain ⟨L1, hL1⟩ : ∃ L1, L ++ [128] ++ List.replicate (zerosW n) 0 = L1 := ⟨_, rfl⟩
      rw [hL1] at HH HLEN
      have HL1 := Lib.hid hL1
      obtain ⟨lb, hlb⟩ : ∃ lb, wr.heap.size = lb := ⟨_, rfl⟩
      obtain ⟨U, hU⟩ : ∃ U, wr.alloc (.cells (filC (num8 N) 8 0) 68) = U := ⟨_, rfl⟩
      have HUB : Hid (U.heap[lb]? = some (.cells (filC (num8 N) 8 0) 68 (0, 0))) := Lib.hid (by rw [← hU]; exact alloc_new_at _ hlb)
      have HUH : Hid (HshIs cb L1 U) := Lib.hid (by rw [← hU]; exact HH.out.keep (balloc (Below.refl _ _) _))
      have HUW : Hid (Below w.heap.size w U) := Lib.hid (by rw [← hU]; exact balloc HVW.out _)
      have HLB : Hid (w.heap.size ≤ lb ∧ cb < lb) := Lib.hid ⟨by rw [← hlb]; exact HVW.out.size, by rw [← hlb]; exact HH.out.lt⟩
      rw [hlb]
      change Code.wp _ _ _ _ (wr.alloc (.cells (filC (num8 N) 8 0) 68))
      rw [hU]
      clear hU hlb hL1 hN c72 q1 HH HVW
      go_wp2
      go_loopg [26, 6] 8 (fun g i _ wr => ∃ m : Nat, g + m = 8 ∧ i = .int .i64 m ∧ Hid (wr.heap[lb]? = some (.cells (filC (num8 N) 8 m) 68 (0, 0))) ∧ Hid (HshIs cb L1 wr) ∧ Hid (Below w.heap.size w wr))
      case atStart => exact ⟨0, rfl, rfl, HUB, HUH, HUW⟩
      case round =>
        clear HUB HUH HUW
        obtain ⟨m, hm, rfl, HUB, HUH, HUW⟩ := hrel
        by_cases hlt : m < 8
        · have i1 : (m : Int) < 8 := by omega
          have i2 : IntKind.i64.wrap (7 - (m : Int)) = 7 - (m : Int) := IntWalk.i64_in _ (by omega)
          have i3 : IntKind.i64.wrap (8 * (7 - (m : Int))) = 8 * (7 - (m : Int)) := IntWalk.i64_in _ (by omega)
          have i4 : ¬ 8 * (7 - (m : Int)) < 0 := by omega
          have i5 : ¬ (8 : Int) ≤ (m : Int) := by omega
          obtain ⟨W, hW⟩ : ∃ W, wr = W := ⟨_, rfl⟩
          rw [hW] at HUB HUH HUW ⊢
          have c0 : W.cell? ⟨lb, m, none⟩ = some (byV 0) := by rw [block_cell HUB.out, filC_at _ _ _ hlt (num8_len N)]
          have c1 : W.frozen? ⟨lb, m, none⟩ = false := block_free HUB.out m
          have c2 : lb < W.heap.size := lt_of_block HUB.out
          clear hW
          go_upto_region 13 with fail
          rw [num8_byte N m hlt]
          clear c0 c1 c2 i2 i3 i4 i5
          have HU2 : Hid ((W.setCell ⟨lb, m, none⟩ (byV ((num8 N).getD m 0))).heap[lb]? = some (.cells (filC (num8 N) 8 (m + 1)) 68 (0, 0))) := Lib.hid (by
            have := block_setCell HUB.out (o := m) (byV ((num8 N).getD m 0))
            rw [filC_set _ _ _ hlt (num8_len N)] at this
            exact this)
          have HU3 : Hid (HshIs cb L1 (W.setCell ⟨lb, m, none⟩ (byV ((num8 N).getD m 0)))) := Lib.hid (by
            obtain ⟨v9, r9, h1, h2⟩ := HUH.out
            exact ⟨v9, r9, h1, block_setCell_ne h2 (show cb ≠ lb by have := HLB.out.2; omega) _⟩)
          have HU4 : Hid (Below w.heap.size w (W.setCell ⟨lb, m, none⟩ (byV ((num8 N).getD m 0)))) := Lib.hid (bset HUW.out HLB.out.1 _)
          go_wp2
          go_roundg (8 - (m + 1))
          case rel => exact ⟨m + 1, by omega, by go_num, HU2, HU3, HU4⟩
          case measure => omega
        · obtain rfl : m = 8 := by omega
          have i1 : ¬ ((8 : Nat) : Int) < 8 := by decide
          have HUB := Lib.hid (by have h := HUB.out; rw [filC_all _ _ (num8_len N)] at h; exact h)
          have cv : (convert 41 9 (.slice (some ⟨lb, 0, none⟩) 8 8)).run Tryz.prog wr = .ok (.string ⟨(num8 N).toArray⟩) wr := conv_block wr lb 0 8 8 (num8 N) (num8_len N) (fun i hi => byV_block HUB.out i (by rw [num8_len]; exact hi))
          go_wp2_with fail
          have HV1 := Lib.hid (write_any cb L1 ⟨(num8 N).toArray⟩ wr HUH.out (by rw [HLEN.out]; have h1 := HL.out; have h2 := HQ.out; show _ + (num8 N).length ≤ _; rw [num8_len]; omega))
          refine HV1.out.mono ?_
          rintro e w3 ⟨rfl, hE, hH⟩
          have HW3 : Hid (Below w.heap.size w w3) := Lib.hid (below_own HUW.out HCB.out HUW.out.size hE)
          have HH3 : Hid (HshIs cb (padW L) w3) := Lib.hid (by
            have h1 := HN.out
            rw [len_eq] at h1
            have h2 : padW L = L1 ++ num8 N := by
              rw [padW_parts, ← HL1.out, h1, ← HN8.out, Nat.mod_eq_of_lt (by have := HL.out; omega), Nat.mul_comm]
            rw [h2]
            exact hH)
          clear hE hH HV1 cv HUB HUH HUW i1
          obtain ⟨z, r9, hz, hzb⟩ := HH3.out
          have HZ := Lib.hid hz
          have x0 : w3.cell? ⟨cb, 0, none⟩ = some (.int .u32 (wI z.a)) := by rw [block_cell hzb, hshC_word _ _ _ 0 (by decide)]; rfl
          have x1 : w3.cell? ⟨cb, 1, none⟩ = some (.int .u32 (wI z.b)) := by rw [block_cell hzb, hshC_word _ _ _ 1 (by decide)]; rfl
          have x2 : w3.cell? ⟨cb, 2, none⟩ = some (.int .u32 (wI z.c)) := by rw [block_cell hzb, hshC_word _ _ _ 2 (by decide)]; rfl
          have x3 : w3.cell? ⟨cb, 3, none⟩ = some (.int .u32 (wI z.d)) := by rw [block_cell hzb, hshC_word _ _ _ 3 (by decide)]; rfl
          have x4 : w3.cell? ⟨cb, 4, none⟩ = some (.int .u32 (wI z.e)) := by rw [block_cell hzb, hshC_word _ _ _ 4 (by decide)]; rfl
          have x5 : w3.cell? ⟨cb, 5, none⟩ = some (.int .u32 (wI z.f)) := by rw [block_cell hzb, hshC_word _ _ _ 5 (by decide)]; rfl
          have x6 : w3.cell? ⟨cb, 6, none⟩ = some (.int .u32 (wI z.g)) := by rw [block_cell hzb, hshC_word _ _ _ 6 (by decide)]; rfl
          have x7 : w3.cell? ⟨cb, 7, none⟩ = some (.int .u32 (wI z.h)) := by rw [block_cell hzb, hshC_word _ _ _ 7 (by decide)]; rfl
          clear hz hzb
          go_upto_region 17 with fail
          rw [show (#[.int .u32 (wI z.a), .int .u32 (wI z.b), .int .u32 (wI z.c), .int .u32 (wI z.d), .int .u32 (wI z.e), .int .u32 (wI z.f), .int .u32 (wI z.g), .int .u32 (wI z.h)] : Array Value) = wsC (stL z) from rfl]
          obtain ⟨ZC, hZC⟩ : ∃ ZC, wsC (stL z) = ZC := ⟨_, rfl⟩
          rw [hZC]
          have HZC := Lib.hid hZC
          clear hZC x0 x1 x2 x3 x4 x5 x6 x7
          obtain ⟨i0, hi, hz0, hz1, hz2⟩ := info_parts info_b8
          have HZ0 := Lib.hid hz0
          clear hz0
          go_loopg [43, 7, 9] 8 (fun g i o _ wr => ∃ m : Nat, g + m = 8 ∧ i = .int .i64 m ∧ Hid (wr.ownsRow w.heap.size 5 1 o (4 * m) ((((stL z).take m).map word4).flatten.map byV)) ∧ Hid (Below w.heap.size w wr))
          case atStart => exact ⟨0, rfl, rfl, Lib.hid (World.ownsRow_nil _ _ _ _), HW3⟩
          case round =>
            clear HW3 HH3
            obtain ⟨m, hm, rfl, HO, HW3⟩ := hrel
            by_cases hlt : m < 8
            · have i1 : (m : Int) < 8 := by omega
              obtain ⟨X, hX⟩ : ∃ X, wth (stL z) m = X := ⟨_, rfl⟩
              have hk : ∀ w', (Instr.index 246 (.agg ZC) (.int .i64 (m : Int))).run Tryz.prog w' = .ok (.int .u32 (wI X)) w' := fun w' => by rw [← HZC.out, index_8 z m hlt, hX]
              have HX := Lib.hid hX
              obtain ⟨W, hW⟩ : ∃ W, wr = W := ⟨_, rfl⟩
              rw [hW] at HO HW3 ⊢
              clear hX hW
              go_upto_region 19 with fail
              have hmm : 4 * m ≤ 32 := by omega
              go_upto_region 20 with (at_builtin; refine wpList_append_own _ rfl _ _ 41 rfl w.heap.size 5 i0 (.int .u8 0) 1 1 Tryz.underlying41 hi HZ0.out hz1 hz2 rfl (by decide) _ _ _ rfl (HO.out.alloc _) ⟨W.heap.size, 0, none⟩ 4 4 [.int .u8 (wI X / 16777216 % 256), .int .u8 (wI X / 65536 % 256), .int .u8 (wI X / 256 % 256), .int .u8 (wI X % 256)] rfl rfl (World.news_of_block (heap_alloc_new _ _)) (by intro u hu; simp at hu; rcases hu with rfl | rfl | rfl | rfl <;> rfl) (by unfold maxLen; omega) (by omega) (by have := HW3.out.size; simp; omega) ?_; intro v2 w4 hown2 hgrow2 _)
              have HO2 : Hid (w4.ownsRow w.heap.size 5 1 v2 (4 * (m + 1)) ((((stL z).take (m + 1)).map word4).flatten.map byV)) := Lib.hid (by
                rw [outW_snoc z m hlt, HX.out, List.map_append, ← word4_vals]
                exact hown2)
              have HW4 : Hid (Below w.heap.size w w4) := Lib.hid (grownBy_below (balloc HW3.out _) hgrow2 (fun k hk' => (HO.out.lt k hk').1))
              clear hown2 hgrow2 hk
              go_wp2
              go_roundg (8 - (m + 1))
              case rel => exact ⟨m + 1, by omega, by go_num, HO2, HW4⟩
              case measure => omega
            · obtain rfl : m = 8 := by omega
              have i1 : ¬ ((8 : Nat) : Int) < 8 := by decide
              have HO2 : Hid (wr.ownsRow w.heap.size 5 1 u7 32 ((shaL L).map byV)) := Lib.hid (by
                have h1 := HO.out
                rw [show (stL z).take 8 = stL z from rfl, outW_eq, HZ.out.sum] at h1
                exact h1)
              have cv := conv_own HO2.out (shaL_len L) (by decide)
              go_wp2
              go_ret
              exact ⟨rfl, HW3.out⟩
set_option maxRecDepth 100000 in
set_option maxHeartbeats 4000000 in
theorem sha_any (s : ByteArray) (w : World) (hl : s.size ≤ 1152921504606846976) : Calls Tryz.prog 97 #[.string s] w fun e w' => e = .returned (.string (shaP s)) ∧ Below w.heap.size w w' := by
  have HL := Lib.hid hl
  clear hl
  go_enter Tryz.func97, Tryz.ntmps97
  go_wp2_with fail
  refine (hnew_any _).mono ?_
  rintro e w1 ⟨b, rfl, hb0, hh, hw1⟩
  have HH := Lib.hid hh
  have HW1 := Lib.hid hw1
  have HB0 := Lib.hid hb0
  clear hh hw1 hb0
  go_wp2_with fail
  refine (write_any b [] s w1 HH.out (by have := HL.out; show 0 + s.size ≤ _; omega)).mono ?_
  rintro e w2 ⟨rfl, hE, hH⟩
  have HW2 : Hid (Below w.heap.size w w2) := Lib.hid (below_own HW1.out HB0.out HW1.out.size hE)
  have HH2 := Lib.hid hH
  clear hE hH
  go_wp2_with fail
  refine (hsum_any b s.data.toList w2 HH2.out (by rw [len_eq, Array.length_toList]; exact HL.out)).mono ?_
  rintro e w3 ⟨rfl, hE⟩
  have HW3 : Hid (Below w.heap.size w w3) := Lib.hid (bnext HW2.out hE)
  clear hE
  go_wp2
  go_ret
  exact ⟨rfl, HW3.out⟩
end Go.Proofs.YtpobhbdomldecaaGreatDoor
namespace Go.Proofs.YtpobhbdomldecaaGreatDoor
open Go.RowKit
set_option linter.unusedSimpArgs false
set_option linter.unusedVariables false
def num8S (n : Nat) : ByteArray := ⟨(num8 n).toArray⟩
theorem num8S_size (n : Nat) : (num8S n).size = 8 := by
  show (num8 n).toArray.size = 8
  rw [List.size_toArray, num8_len]
set_option maxRecDepth 100000 in
set_option maxHeartbeats 4000000 in
theorem dnum_any (N : Nat) (w : World) (hN : N < 18446744073709551616) : Calls Tryz.prog 157 #[.int .u64 (N : Nat)] w fun e w' => e = .returned (.string (num8S N)) ∧ Below w.heap.size w w' := by
  have HNN := Lib.hid hN
  clear hN
  go_enter Tryz.func157, Tryz.ntmps157
  go_upto_region 2 with fail
  obtain ⟨lb, hlb⟩ : ∃ lb, w.heap.size = lb := ⟨_, rfl⟩
  obtain ⟨U, hU⟩ : ∃ U, w.alloc (.cells (filC (num8 N) 8 0) 68) = U := ⟨_, rfl⟩
  have HUB : Hid (U.heap[lb]? = some (.cells (filC (num8 N) 8 0) 68 (0, 0))) := Lib.hid (by rw [← hU]; exact alloc_new_at _ hlb)
  have HUW : Hid (Below w.heap.size w U) := Lib.hid (by rw [← hU]; exact balloc (Below.refl _ _) _)
  have HLB : Hid (w.heap.size ≤ lb) := Lib.hid (Nat.le_of_eq hlb)
  rw [hlb]
  change Code.wp _ _ _ _ (w.alloc (.cells (filC (num8 N) 8 0) 68))
  rw [hU]
  clear hU hlb
  go_wp2
  go_loopg [5, 4] 8 (fun g i _ wr => ∃ m : Nat, g + m = 8 ∧ i = .int .i64 m ∧ Hid (wr.heap[lb]? = some (.cells (filC (num8 N) 8 m) 68 (0, 0))) ∧ Hid (Below w.heap.size w wr))
  case atStart => exact ⟨0, rfl, rfl, HUB, HUW⟩
  case round =>
    clear HUB HUW
    obtain ⟨m, hm, rfl, HUB, HUW⟩ := hrel
    by_cases hlt : m < 8
    · have i1 : (m : Int) < 8 := by omega
      have i2 : IntKind.i64.wrap (7 - (m : Int)) = 7 - (m : Int) := IntWalk.i64_in _ (by omega)
      have i3 : IntKind.i64.wrap (8 * (7 - (m : Int))) = 8 * (7 - (m : Int)) := IntWalk.i64_in _ (by omega)
      have i4 : ¬ 8 * (7 - (m : Int)) < 0 := by omega
      have i5 : ¬ (8 : Int) ≤ (m : Int) := by omega
      obtain ⟨W, hW⟩ : ∃ W, wr = W := ⟨_, rfl⟩
      rw [hW] at HUB HUW ⊢
      have c0 : W.cell? ⟨lb, m, none⟩ = some (byV 0) := by rw [block_cell HUB.out, filC_at _ _ _ hlt (num8_len N)]
      have c1 : W.frozen? ⟨lb, m, none⟩ = false := block_free HUB.out m
      have c2 : lb < W.heap.size := lt_of_block HUB.out
      clear hW
      go_upto_region 6 with fail
      rw [num8_byte N m hlt]
      clear c0 c1 c2 i2 i3 i4 i5
      have HU2 : Hid ((W.setCell ⟨lb, m, none⟩ (byV ((num8 N).getD m 0))).heap[lb]? = some (.cells (filC (num8 N) 8 (m + 1)) 68 (0, 0))) := Lib.hid (by
        have := block_setCell HUB.out (o := m) (byV ((num8 N).getD m 0))
        rw [filC_set _ _ _ hlt (num8_len N)] at this
        exact this)
      have HU4 : Hid (Below w.heap.size w (W.setCell ⟨lb, m, none⟩ (byV ((num8 N).getD m 0)))) := Lib.hid (bset HUW.out HLB.out _)
      go_wp2
      go_roundg (8 - (m + 1))
      case rel => exact ⟨m + 1, by omega, by go_num, HU2, HU4⟩
      case measure => omega
    · obtain rfl : m = 8 := by omega
      have i1 : ¬ ((8 : Nat) : Int) < 8 := by decide
      have HUB := Lib.hid (by have h := HUB.out; rw [filC_all _ _ (num8_len N)] at h; exact h)
      have cv : (convert 41 9 (.slice (some ⟨lb, 0, none⟩) 8 8)).run Tryz.prog wr = .ok (.string (num8S N)) wr := conv_block wr lb 0 8 8 (num8 N) (num8_len N) (fun i hi => byV_block HUB.out i (by rw [num8_len]; exact hi))
      go_wp2
      go_ret
      exact ⟨rfl, HUW.out⟩
end Go.Proofs.YtpobhbdomldecaaGreatDoor
namespace Go.Proofs.YtpobhbdomldecaaGreatDoor
open Go.RowKit
set_option linter.unusedSimpArgs false
set_option linter.unusedVariables false
theorem bld_size : (Tryz.prog.info? 172).map (·.size) = some 2 := by kernel_rfl
theorem bld_lies : liesAt Tryz.prog Tryz.prog.depth 172 (2 / Tryz.prog.cellsOf 172) 0 172 1 = true := by kernel_rfl
theorem bld_b8 : (Tryz.prog.info? 5).map (fun i => (i.zero, i.size, i.bytes)) = some (some (.int .u8 0), 1, 1) := by kernel_rfl
set_option maxHeartbeats 1000000 in
set_option maxRecDepth 100000 in
theorem bcheck_used (b : Nat) (w : World) (h0 : w.cell? ⟨b, 0, none⟩ = some (.pointer (some ⟨b, 0, none⟩))) :
    Calls Tryz.prog 193 #[.pointer (some ⟨b, 0, none⟩)] w fun e w' => e = .returned (.tuple #[]) ∧ w' = w := by
  obtain ⟨j, hj, _⟩ := Option.map_eq_some_iff.1 bld_size
  go_enter Tryz.func193, Tryz.ntmps193
  go_wp2
  rw [Lib.run_neq_ptr_same w _ Tryz.underlying170 hj]
  go_wp2
  go_end0
  exact ⟨rfl, rfl⟩
set_option maxHeartbeats 1000000 in
set_option maxRecDepth 100000 in
theorem bcheck_fresh (b : Nat) (w : World) (h0 : w.cell? ⟨b, 0, none⟩ = some (.pointer none)) (hsh : w.shape? b = some (172, 2)) (hfz : w.frozen? ⟨b, 0, none⟩ = false) :
    Calls Tryz.prog 193 #[.pointer (some ⟨b, 0, none⟩)] w fun e w' => e = .returned (.tuple #[]) ∧ w' = w.setCell ⟨b, 0, none⟩ (.pointer (some ⟨b, 0, none⟩)) := by
  obtain ⟨j, hj, hjs⟩ := Option.map_eq_some_iff.1 bld_size
  go_enter Tryz.func193, Tryz.ntmps193
  go_wp2
  rw [Lib.run_to_unsafe w ⟨b, 0, none⟩ Tryz.underlying170 Tryz.underlying297 hj (by rw [hjs]; decide) hsh (Nat.zero_lt_succ 1)]
  simp only [Result.andThen]
  rw [Oper.upon_value]
  go_wp2
  rw [run_callFunc_extern Tryz.func259 (by kernel_rfl) (by kernel_rfl) (by kernel_rfl) (e := Extern.AbiNoEscape.same) (by kernel_rfl)]
  rw [Lib.run_noEscape]
  simp only [Result.andThen]
  rw [Oper.upon_value]
  go_wp2
  rw [Lib.run_from_unsafe w ⟨b, 0, none⟩ Tryz.underlying297 Tryz.underlying170 hj hsh bld_lies]
  simp only [Result.andThen]
  rw [Oper.upon_value]
  go_wp2
  go_end0
  exact ⟨rfl, rfl⟩
theorem bcheck_any (B b : Nat) (bs : List Value) (w : World) (h : Lib.IsBuilder 172 5 B b bs w) :
    Calls Tryz.prog 193 #[.pointer (some ⟨b, 0, none⟩)] w fun e w' => e = .returned (.tuple #[]) ∧ (Lib.BuilderAt 172 5 B b (.pointer (some ⟨b, 0, none⟩)) bs w' ∧ Below B w w') := by
  rcases h with h | h
  · refine (bcheck_fresh b w h.cell0 h.shape h.frozen0).mono ?_
    rintro e w' ⟨rfl, rfl⟩
    exact ⟨rfl, h.used _, (Below.refl B w).setCell (p := ⟨b, 0, none⟩) h.1 _⟩
  · refine (bcheck_used b w h.cell0).mono ?_
    rintro e w' ⟨rfl, rfl⟩
    exact ⟨rfl, h, Below.refl B _⟩
set_option maxHeartbeats 2000000 in
set_option maxRecDepth 100000 in
theorem bbyte_any (B b : Nat) (bs : List Value) (c : Int) (w : World) (h : Lib.IsBuilder 172 5 B b bs w) (hlen : bs.length + 1 ≤ 140737488355328) (hBw : B ≤ w.heap.size) :
    Calls Tryz.prog 155 #[.pointer (some ⟨b, 0, none⟩), .int .u8 c] w fun e w' => e = .returned .nilIface ∧ (Lib.BuilderAt 172 5 B b (.pointer (some ⟨b, 0, none⟩)) (bs ++ [.int .u8 c]) w' ∧ Below B w w') := by
  obtain ⟨i0, hi, hz0, hz1, hz2⟩ := info_parts bld_b8
  go_enter Tryz.func155, Tryz.ntmps155
  go_wp2_with fail
  refine (bcheck_any B b bs _ h).mono ?_
  rintro e w1 ⟨rfl, h1, hb1⟩
  obtain ⟨hB, v, hbk, hown, hne⟩ := h1
  have c0 : w1.cell? ⟨b, 0, none⟩ = some (.pointer (some ⟨b, 0, none⟩)) := by rw [Lib.cell_of_heap hbk]; rfl
  have c1 : w1.cell? ⟨b, 1, none⟩ = some v := by rw [Lib.cell_of_heap hbk]; rfl
  go_wp2_with (at_builtin; refine wpList_append_own _ rfl _ _ 41 rfl B 5 i0 (.int .u8 0) 1 1 Tryz.underlying41 hi hz0 hz1 hz2 rfl (by decide) _ _ _ rfl (hown.alloc _) ⟨w1.heap.size, 0, none⟩ 1 1 [.int .u8 c] rfl rfl ?c1 ?c2 ?c3 ?c4 ?c5 ?_)
  case c1 =>
    intro j u hj
    match j, hj with
    | 0, hj => simp at hj; subst hj; simp [Addr.add]
  case c2 => intro u hu; simp at hu; subst hu; rfl
  case c3 => unfold maxLen; omega
  case c4 => omega
  case c5 => have := hb1.size; simp; omega
  intro v' w2 hown' hgrow _
  have hlt : b < w1.heap.size := lt_of_block hbk
  have hb2 : w2.heap[b]? = some (.cells #[.pointer (some ⟨b, 0, none⟩), v] 172 (0, 0)) := by
    rw [hgrow.block b (by simp; omega) (fun e => hne e.symm), Lib.alloc_old w1 _ b hlt]
    exact hbk
  have d0 : w2.cell? ⟨b, 0, none⟩ = some (.pointer (some ⟨b, 0, none⟩)) := by rw [Lib.cell_of_heap hb2]; rfl
  have d1 : w2.cell? ⟨b, 1, none⟩ = some v := by rw [Lib.cell_of_heap hb2]; rfl
  have f1 : w2.frozen? ⟨b, 1, none⟩ = false := Lib.frozen_of_heap hb2 1
  obtain ⟨g, cap, rfl⟩ : ∃ g cap, v' = .slice (some ⟨g, 0, none⟩) (bs.length + 1) cap := by
    rcases hown'.2 with ⟨_, h0⟩ | ⟨g, cap, cur, hv, _⟩
    · omega
    · exact ⟨g, cap, hv⟩
  go_wp2
  go_ret
  refine ⟨rfl, ?_, ?_⟩
  · exact Lib.BuilderAt.put (T := 172) (e := 5) hB hb2 (bs' := bs ++ [.int .u8 c]) (by simpa using hown') (by decide)
  · exact ((hb1.alloc (by have := hb1.size; omega) _).grown hgrow (by have := hb1.size; simp; omega) (fun k hk => (hown.lt k hk).1)).setCell (p := ⟨b, 1, none⟩) hB _
set_option maxHeartbeats 2000000 in
set_option maxRecDepth 100000 in
theorem bstr_any (B b : Nat) (bs : List Value) (s : ByteArray) (w : World) (h : Lib.IsBuilder 172 5 B b bs w) (hlen : bs.length + s.size ≤ 140737488355328) (hBw : B ≤ w.heap.size) :
    Calls Tryz.prog 144 #[.pointer (some ⟨b, 0, none⟩), .string s] w fun e w' => e = .returned (.tuple #[.int .i64 s.size, .nilIface]) ∧ (Lib.BuilderAt 172 5 B b (.pointer (some ⟨b, 0, none⟩)) (bs ++ Lib.strCells s) w' ∧ Below B w w') := by
  obtain ⟨i0, hi, hz0, hz1, hz2⟩ := info_parts bld_b8
  go_enter Tryz.func144, Tryz.ntmps144
  go_wp2_with fail
  refine (bcheck_any B b bs _ h).mono ?_
  rintro e w1 ⟨rfl, h1, hb1⟩
  obtain ⟨hB, v, hbk, hown, hne⟩ := h1
  have c0 : w1.cell? ⟨b, 0, none⟩ = some (.pointer (some ⟨b, 0, none⟩)) := by rw [Lib.cell_of_heap hbk]; rfl
  have c1 : w1.cell? ⟨b, 1, none⟩ = some v := by rw [Lib.cell_of_heap hbk]; rfl
  go_wp2_with (at_builtin; refine Lib.wpList_append_own_string _ rfl _ _ 41 9 rfl B 5 i0 Tryz.underlying41 Tryz.underlying9 hi hz0 hz1 hz2 _ _ _ rfl hown s rfl ?c3 ?c4 ?c5 ?_)
  case c3 => unfold maxLen; omega
  case c4 => omega
  case c5 => have := hb1.size; omega
  intro v' w2 hown' hgrow _
  have hlt : b < w1.heap.size := lt_of_block hbk
  have hb2 : w2.heap[b]? = some (.cells #[.pointer (some ⟨b, 0, none⟩), v] 172 (0, 0)) := by
    rw [hgrow.block b hlt (fun e => hne e.symm)]
    exact hbk
  have d0 : w2.cell? ⟨b, 0, none⟩ = some (.pointer (some ⟨b, 0, none⟩)) := by rw [Lib.cell_of_heap hb2]; rfl
  have d1 : w2.cell? ⟨b, 1, none⟩ = some v := by rw [Lib.cell_of_heap hb2]; rfl
  have f1 : w2.frozen? ⟨b, 1, none⟩ = false := Lib.frozen_of_heap hb2 1
  obtain ⟨ao, n', cap, rfl⟩ : ∃ ao n' cap, v' = .slice ao n' cap := by
    rcases hown'.2 with ⟨hv, _⟩ | ⟨g, cap, cur, hv, _⟩
    · exact ⟨_, _, _, hv⟩
    · exact ⟨_, _, _, hv⟩
  go_wp2
  go_ret2
  refine ⟨rfl, ?_, ?_⟩
  · exact Lib.BuilderAt.put (T := 172) (e := 5) hB hb2 (bs' := bs ++ Lib.strCells s) (by simpa [Lib.strCells_length] using hown') (by decide)
  · exact (hb1.grown hgrow (by have := hb1.size; omega) (fun k hk => (hown.lt k hk).1)).setCell (p := ⟨b, 1, none⟩) hB _
end Go.Proofs.YtpobhbdomldecaaGreatDoor
namespace Go.Proofs.YtpobhbdomldecaaGreatDoor
open Go.RowKit
set_option linter.unusedSimpArgs false
set_option linter.unusedVariables false
abbrev BlAt (B b : Nat) (L : List UInt8) (w : World) : Prop := Lib.BuilderAt 172 5 B b (.pointer (some ⟨b, 0, none⟩)) (Lib.byteCells L) w
theorem bc_app (L M : List UInt8) : Lib.byteCells (L ++ M) = Lib.byteCells L ++ Lib.byteCells M := by unfold Lib.byteCells; rw [List.map_append]
theorem bc_len (L : List UInt8) : (Lib.byteCells L).length = L.length := by unfold Lib.byteCells; rw [List.length_map]
def LayIs (B b : Nat) (L : List UInt8) (w : World) (e : Ending) (w' : World) : Prop := e = .returned (.tuple #[]) ∧ BlAt B b L w' ∧ Below B w w'
set_option maxRecDepth 100000 in
set_option maxHeartbeats 4000000 in
theorem lay_part (B b : Nat) (L : List UInt8) (p : ByteArray) (w : World) (h : BlAt B b L w) (hl : L.length + (8 + p.size) ≤ 140737488355328) (hB : B ≤ w.heap.size) :
    Calls Tryz.prog 156 #[.string p, .pointer (some ⟨b, 0, none⟩)] w (LayIs B b (L ++ partL p) w) := by
  have H := Lib.hid h
  have HL := Lib.hid hl
  have HB := Lib.hid hB
  clear h hl hB
  have i1 : IntKind.u64.wrap ((p.size : Nat) : Int) = ((p.size : Nat) : Int) := IntWalk.u64_in _ (by have := HL.out; omega)
  go_enter Tryz.func156, Tryz.ntmps156
  go_wp2_with fail
  refine (dnum_any p.size w (by have := HL.out; omega)).mono ?_
  rintro e w1 ⟨rfl, hb1⟩
  have HB1 := Lib.hid hb1
  have H1 : Hid (BlAt B b L w1) := Lib.hid (by
    obtain ⟨h1, v, h2, h3, h4⟩ := H.out
    exact ⟨h1, v, (hb1.block _ (lt_of_block h2)).trans h2, own_below h3 hb1, h4⟩)
  clear hb1
  go_wp2_with fail
  refine (bstr_any B b _ (num8S p.size) w1 (Or.inr H1.out) (by rw [bc_len, num8S_size]; have := HL.out; omega) (Nat.le_trans HB.out HB1.out.size)).mono ?_
  rintro e w2 ⟨rfl, h2, hb2⟩
  have H2 : Hid (BlAt B b (L ++ num8 p.size) w2) := Lib.hid (by show Lib.BuilderAt _ _ _ _ _ (Lib.byteCells _) _; rw [bc_app]; exact h2)
  have HB2 : Hid (Below B w w2) := Lib.hid ((HB1.out.mono HB.out).trans hb2)
  have HBS : Hid (B ≤ w2.heap.size) := Lib.hid (Nat.le_trans HB.out HB2.out.size)
  clear h2 hb2
  go_wp2_with fail
  refine (bstr_any B b _ p w2 (Or.inr H2.out) (by rw [bc_len, List.length_append, num8_len]; have := HL.out; omega) HBS.out).mono ?_
  rintro e w3 ⟨rfl, h3, hb3⟩
  have H3 : Hid (BlAt B b (L ++ partL p) w3) := Lib.hid (by show Lib.BuilderAt _ _ _ _ _ (Lib.byteCells _) _; unfold partL; rw [← List.append_assoc, bc_app]; exact h3)
  have HB3 : Hid (Below B w w3) := Lib.hid (HB2.out.trans hb3)
  clear h3 hb3
  go_wp2
  go_end0
  exact ⟨rfl, H3.out, HB3.out⟩
theorem fullT {t : ByteArray} (h : t.size ≠ 0) : t.toList.isEmpty = false := by
  rw [ByteArray.toList_eq]; cases t with | mk d => simp_all [ByteArray.size]
theorem headL_cells (tag : ByteArray) (h : tag.size ≤ 16) : Lib.byteCells (headL tag) = [.int .u8 ((tag.size : Nat) : Int)] ++ Lib.strCells tag := by
  unfold headL Lib.strCells Lib.byteCells
  rw [List.map_cons]
  congr 1
  rw [UInt8.toNat_ofNat', Nat.mod_eq_of_lt (by omega)]
set_option maxRecDepth 100000 in
set_option maxHeartbeats 4000000 in
theorem frame_any (tag : ByteArray) (parts : List ByteArray) (a : Option Addr) (cap : Nat) (w : World) (h1 : 1 ≤ tag.size) (h2 : tag.size ≤ 16) (hp : Txts w a parts) (hs : (partsL parts).length ≤ 140737488355300) :
    Calls Tryz.prog 96 #[.string tag, .slice a (len parts) cap] w fun e w' => e = .returned (.string (frameS tag parts)) ∧ Below w.heap.size w w' := by
  have HP := Lib.hid hp
  have HS := Lib.hid hs
  have HT2 := Lib.hid h2
  have HT1 := Lib.hid h1
  have HPL : Hid (len parts ≤ 140737488355300) := Lib.hid (by have := partsL_ge parts; rw [len_eq]; omega)
  have t1 : tag.toList.isEmpty = false := fullT (by omega)
  have t2 : ¬ (16 : Int) < (tag.size : Int) := by omega
  have t3 : IntKind.u8.wrap ((tag.size : Nat) : Int) = ((tag.size : Nat) : Int) := IntWalk.u8_in _ (by omega)
  clear hp hs h1 h2
  go_enter Tryz.func96, Tryz.ntmps96
  go_upto_region 4 with fail
  obtain ⟨b, hb⟩ : ∃ b, w.heap.size = b := ⟨_, rfl⟩
  rw [hb]
  obtain ⟨V, hV⟩ : ∃ V, w.alloc (.cells #[.pointer none, .slice none 0 0] 172) = V := ⟨_, rfl⟩
  rw [hV]
  have HBW : Hid (w.heap.size ≤ b) := Lib.hid (Nat.le_of_eq hb)
  have HI : Hid (Lib.IsBuilder 172 5 b b [] V) := Lib.hid (Or.inl ⟨Nat.le_refl _, _, by rw [← hV]; exact alloc_new_at _ hb, World.ownsRow_nil _ _ _ _, by simp [Value.ownBlock]⟩)
  have HVW : Hid (Below w.heap.size w V) := Lib.hid (by rw [← hV]; exact balloc (Below.refl _ _) _)
  have HVS : Hid (b ≤ V.heap.size) := Lib.hid (by rw [← hb]; exact HVW.out.size)
  clear hV hb
  go_wp2_with fail
  refine (bbyte_any b b [] _ V HI.out (by decide) HVS.out).mono ?_
  rintro e w1 ⟨rfl, hb1, hB1⟩
  have H1 := Lib.hid hb1
  have HS1 : Hid (b ≤ w1.heap.size) := Lib.hid (Nat.le_trans HVS.out hB1.size)
  have HW1 : Hid (Below w.heap.size w w1) := Lib.hid (HVW.out.trans (hB1.mono HBW.out))
  clear hb1 hB1 t1 t2 t3
  go_wp2_with fail
  refine (bstr_any b b _ tag w1 (Or.inr H1.out) (by have := HT2.out; show 1 + tag.size ≤ _; omega) HS1.out).mono ?_
  rintro e w2 ⟨rfl, hb2, hB2⟩
  have H2 : Hid (BlAt b b (headL tag ++ partsL (parts.take 0)) w2) := Lib.hid (by
    show Lib.BuilderAt _ _ _ _ _ (Lib.byteCells _) _
    rw [List.take_zero, show partsL [] = [] from rfl, List.append_nil, headL_cells tag HT2.out]
    exact hb2)
  have HS2 : Hid (b ≤ w2.heap.size) := Lib.hid (Nat.le_trans HS1.out hB2.size)
  have HW2 : Hid (Below w.heap.size w w2) := Lib.hid (HW1.out.trans (hB2.mono HBW.out))
  clear hb2 hB2
  go_wp2
  go_loopg [25, 8] (len parts) (fun g i _ wr => ∃ m : Nat, g + m = len parts ∧ i = .int .i64 m ∧ Hid (BlAt b b (headL tag ++ partsL (parts.take m)) wr) ∧ Hid (b ≤ wr.heap.size) ∧ Hid (Below w.heap.size w wr))
  case atStart => exact ⟨0, rfl, rfl, H2, HS2, HW2⟩
  case round =>
    clear H2 HS2 HW2
    obtain ⟨m, hm, rfl, H2, HS2, HW2⟩ := hrel
    have HPB := HPL.out
    by_cases hlt : m < len parts
    · have i1 : (m : Int) < (len parts : Nat) := by omega
      obtain ⟨pb, po, rfl, hpc⟩ := (HP.out.below HW2.out) m hlt
      obtain ⟨x, hx⟩ : ∃ x, tth parts m = x := ⟨_, rfl⟩
      rw [hx] at hpc
      have HX := Lib.hid hx
      clear hx
      go_wp2_with fail
      refine (lay_part b b _ x wr H2.out (by
        have h1 := HS.out
        have h2 := partsL_le parts (m + 1)
        have h3 := HT2.out
        rw [partsL_snoc _ _ hlt, List.length_append, HX.out, partL_len] at h2
        rw [List.length_append, headL_len]
        omega) HS2.out).mono ?_
      rintro e w3 ⟨rfl, h3, hb3⟩
      have H3 : Hid (BlAt b b (headL tag ++ partsL (parts.take (m + 1))) w3) := Lib.hid (by rw [partsL_snoc _ _ hlt, HX.out, ← List.append_assoc]; exact h3)
      have HS3 : Hid (b ≤ w3.heap.size) := Lib.hid (Nat.le_trans HS2.out hb3.size)
      have HW3 : Hid (Below w.heap.size w w3) := Lib.hid (HW2.out.trans (hb3.mono HBW.out))
      clear h3 hb3 hpc
      go_wp2
      go_roundg (len parts - (m + 1))
      case rel => exact ⟨m + 1, by omega, by go_num, H3, HS3, HW3⟩
      case measure => omega
    · obtain rfl : m = len parts := by omega
      have i1 : ¬ ((len parts : Nat) : Int) < (len parts : Nat) := by omega
      have H4 : Hid (BlAt b b (framL tag parts) wr) := Lib.hid (by have h := H2.out; rw [take_len] at h; exact h)
      clear H2 hm hlt
      go_wp2_with fail
      refine (Tryz.Builder_String_any b b _ wr (Or.inr H4.out) HS2.out).mono ?_
      rintro e w4 ⟨rfl, hB4⟩
      have HW4 : Hid (Below w.heap.size w w4) := Lib.hid (HW2.out.trans (hB4.mono HBW.out))
      clear hB4
      go_wp2
      go_ret
      exact ⟨rfl, HW4.out⟩
set_option maxRecDepth 100000 in
set_option maxHeartbeats 4000000 in
theorem hash_any (tag : ByteArray) (parts : List ByteArray) (a : Option Addr) (cap : Nat) (w : World) (h1 : 1 ≤ tag.size) (h2 : tag.size ≤ 16) (hp : Txts w a parts) (hs : (partsL parts).length ≤ 140737488355300) :
    Calls Tryz.prog 45 #[.string tag, .slice a (len parts) cap] w fun e w' => e = .returned (.string (hashP tag parts)) ∧ Below w.heap.size w w' := by
  have HF := Lib.hid (frame_any tag parts a cap w h1 h2 hp hs)
  have HS : Hid (1 ≤ (frameS tag parts).size ∧ (frameS tag parts).size ≤ 140737488355328) := Lib.hid (by rw [frameS_size]; omega)
  clear h1 h2 hp hs
  go_enter Tryz.func45, Tryz.ntmps45
  go_wp2_with fail
  refine HF.out.mono ?_
  rintro e w1 ⟨rfl, hb1⟩
  have HB1 := Lib.hid hb1
  have t1 : (frameS tag parts).toList.isEmpty = false := fullT (by have := HS.out; omega)
  clear hb1
  go_wp2_with fail
  refine (sha_any (frameS tag parts) w1 (by have := HS.out; omega)).mono ?_
  rintro e w2 ⟨rfl, hb2⟩
  have HB2 : Hid (Below w.heap.size w w2) := Lib.hid (bnext HB1.out hb2)
  clear hb2
  go_wp2
  go_ret
  exact ⟨rfl, HB2.out⟩
end Go.Proofs.YtpobhbdomldecaaGreatDoor
namespace Go.Proofs.YtpobhbdomldecaaGreatDoor
open Go.RowKit
set_option linter.unusedSimpArgs false
set_option linter.unusedVariables false
def NodeAt (b : Nat) (d : ByteArray) (k0 k1 : Option Addr) (w : World) : Prop := w.heap[b]? = some (.cells #[.string d, .pointer k0, .pointer k1] 118 (0, 0))
theorem NodeAt.below {b : Nat} {d : ByteArray} {k0 k1 : Option Addr} {w w' : World} (h : NodeAt b d k0 k1 w) (hb : Below w.heap.size w w') : NodeAt b d k0 k1 w' := (hb.block _ (lt_of_block h)).trans h
theorem NodeAt.digest {b : Nat} {d : ByteArray} {k0 k1 : Option Addr} {w : World} (h : NodeAt b d k0 k1 w) : w.cell? ⟨b, 0, none⟩ = some (.string d) := by rw [block_cell h]; rfl
def LeafIs (d : ByteArray) (w : World) (e : Ending) (w' : World) : Prop := ∃ b, e = .returned (.pointer (some ⟨b, 0, none⟩)) ∧ w.heap.size ≤ b ∧ NodeAt b d none none w' ∧ Below w.heap.size w w'
theorem txts_cells {w : World} {g : Nat} {cs : Array Value} {t : TypeId} {fr : Nat × Nat} (h : w.heap[g]? = some (.cells cs t fr)) (l : List ByteArray) (hl : ∀ i, i < len l → cs[i]? = some (.string (tth l i))) : Txts w (some ⟨g, 0, none⟩) l := fun i hi => ⟨g, 0, rfl, by rw [block_cell h, Nat.zero_add]; exact hl i hi⟩
set_option maxRecDepth 100000 in
set_option maxHeartbeats 4000000 in
theorem leaf_node (s : ByteArray) (w : World) (hs : s.size ≤ 140737488355200) : Calls Tryz.prog 94 #[.string s] w (LeafIs (hashP leafT [s]) w) := by
  have HS := Lib.hid hs
  clear hs
  go_enter Tryz.func94, Tryz.ntmps94
  go_wp2_with fail
  have hw1 : Txts (w.alloc (.cells #[.string s] 9)) (some ⟨w.heap.size, 0, none⟩) [s] := txts_cells (heap_alloc_new _ _) [s] (fun i hi => by
    have : i = 0 := by have : i < 1 := hi; omega
    subst this; rfl)
  refine (hash_any leafT [s] (some ⟨w.heap.size, 0, none⟩) 1 _ (by decide) (by decide) hw1 (by have := HS.out; show ((partL s) ++ []).length ≤ _; rw [List.append_nil, partL_len]; omega)).mono ?_
  rintro e w2 ⟨rfl, hb2⟩
  have HB2 : Hid (Below w.heap.size w w2) := Lib.hid (bnext (balloc (Below.refl _ _) _) hb2)
  clear hb2 hw1
  obtain ⟨H, hH⟩ : ∃ H, hashP leafT [s] = H := ⟨_, rfl⟩
  rw [hH]
  go_wp2
  go_ret
  exact ⟨w2.heap.size, rfl, HB2.out.size, by rw [hH]; exact heap_alloc_new _ _, balloc HB2.out _⟩
def OverIs (d : ByteArray) (b0 b1 : Nat) (w : World) (e : Ending) (w' : World) : Prop := ∃ b, e = .returned (.pointer (some ⟨b, 0, none⟩)) ∧ w.heap.size ≤ b ∧ NodeAt b d (some ⟨b0, 0, none⟩) (some ⟨b1, 0, none⟩) w' ∧ Below w.heap.size w w'
set_option maxRecDepth 100000 in
set_option maxHeartbeats 4000000 in
theorem over_any (b0 b1 : Nat) (d0 d1 : ByteArray) (w : World) (h0 : w.cell? ⟨b0, 0, none⟩ = some (.string d0)) (h1 : w.cell? ⟨b1, 0, none⟩ = some (.string d1)) (hs : d0.size ≤ 70000000000000 ∧ d1.size ≤ 70000000000000) :
    Calls Tryz.prog 92 #[.pointer (some ⟨b0, 0, none⟩), .pointer (some ⟨b1, 0, none⟩)] w (OverIs (hashP nodeT [d0, d1]) b0 b1 w) := by
  obtain ⟨H, hH⟩ : ∃ H, hashP nodeT [d0, d1] = H := ⟨_, rfl⟩
  rw [hH]
  have HH : Hid (∀ (g : Nat) (wv : World), wv.heap[g]? = some (.cells #[.string d0, .string d1] 9 (0, 0)) → Calls Tryz.prog 45 #[.string ⟨#[110, 111, 100, 101]⟩, .slice (some ⟨g, 0, none⟩) 2 2] wv fun e w' => e = .returned (.string H) ∧ Below wv.heap.size wv w') := Lib.hid (fun g wv hg => by
    rw [← hH]
    refine hash_any nodeT [d0, d1] (some ⟨g, 0, none⟩) 2 wv (by decide) (by decide) (txts_cells hg [d0, d1] (fun i hi => by
      have : i = 0 ∨ i = 1 := by have : i < 2 := hi; omega
      rcases this with rfl | rfl <;> rfl)) ?_
    show ((partL d0) ++ ((partL d1) ++ [])).length ≤ _
    rw [List.append_nil, List.length_append, partL_len, partL_len]
    omega)
  have c0 := h0
  have c1 := h1
  clear hH h0 h1 hs
  go_enter Tryz.func92, Tryz.ntmps92
  go_upto_region 1 with fail
  refine wp_region_tail 15 1000 (none) (phis [fun u _ => u = (.pointer (some ⟨b0, 0, none⟩)), fun u _ => u = (.pointer (some ⟨b0, 0, none⟩)), fun u _ => u = (.pointer (some ⟨b0, 0, none⟩)), fun u _ => u = (.string d0), fun u _ => u = (.pointer (some ⟨b1, 0, none⟩)), fun u _ => u = (.pointer (some ⟨b1, 0, none⟩)), fun u _ => u = (.pointer (some ⟨b1, 0, none⟩)), fun u _ => u = (.string d1), fun u w' => ∃ g, u = .slice (some ⟨g, 0, none⟩) 2 2 ∧ w'.heap[g]? = some (.cells #[.string d0, .string d1] 9 (0, 0)), fun u _ => u = (.string H), fun u _ => u = (.pointer (some ⟨b0, 0, none⟩)), fun u _ => u = (.pointer (some ⟨b1, 0, none⟩)), fun u _ => u = (.agg #[.pointer (some ⟨b0, 0, none⟩), .pointer (some ⟨b1, 0, none⟩)]), fun u _ => u = (.agg #[.string H, .pointer (some ⟨b0, 0, none⟩), .pointer (some ⟨b1, 0, none⟩)]), fun u w' => ∃ g, u = .pointer (some ⟨g, 0, none⟩) ∧ w.heap.size ≤ g ∧ NodeAt g H (some ⟨b0, 0, none⟩) (some ⟨b1, 0, none⟩) w']) rfl (by kernel_rfl) (by kernel_rfl) (mono_of ⟨mono_eq, mono_eq, mono_eq, mono_eq, mono_eq, mono_eq, mono_eq, mono_eq, ?m8, mono_eq, mono_eq, mono_eq, mono_eq, mono_eq, ?m14, trivial⟩) (steps_of 15 ⟨?s0, ?s1, ?s2, ?s3, ?s4, ?s5, ?s6, ?s7, ?s8, ?s9, ?s10, ?s11, ?s12, ?s13, ?s14, trivial⟩) ?_
  case m8 =>
    exact ⟨fun u w1 w' h ⟨b, h1, hb⟩ => ⟨b, h1, ext_block h hb⟩, fun _ u w1 w' h ⟨b, h1, hb⟩ => ⟨b, h1, extB_block h (by simp) hb⟩⟩
  case m14 =>
    exact ⟨fun u w1 w' h ⟨b, h1, h2, hb⟩ => ⟨b, h1, h2, ext_block h hb⟩, fun _ u w1 w' h ⟨b, h1, h2, hb⟩ => ⟨b, h1, h2, extB_block h (by simp) hb⟩⟩
  case s0 =>
    refine step_val (v := (.pointer (some ⟨b0, 0, none⟩))) (fun av wv hE hS hO hD => ?_) (fun _ => rfl)
    have h0 : av.eval (.tmp 0) = (.pointer (some ⟨b0, 0, none⟩)) := hO.2.2 0 rfl
    have f0 := (ev_form av 0).symm.trans h0
    refine ⟨rfl, ?_⟩
    simp [go_sem, f0]
  case s1 =>
    refine step_val (v := (.pointer (some ⟨b0, 0, none⟩))) (fun av wv hE hS hO hD => ?_) (fun _ => rfl)
    have d5 : av.eval (.tmp 5) = (.pointer (some ⟨b0, 0, none⟩)) := hD.1 rfl _ rfl
    have f5 := (ev_form av 5).symm.trans d5
    refine ⟨rfl, ?_⟩
    simp [go_sem, f5]
  case s2 =>
    refine step_val (v := (.pointer (some ⟨b0, 0, none⟩))) (fun av wv hE hS hO hD => ?_) (fun _ => rfl)
    have d6 : av.eval (.tmp 6) = (.pointer (some ⟨b0, 0, none⟩)) := hD.1 rfl _ rfl
    have f6 := (ev_form av 6).symm.trans d6
    refine ⟨rfl, ?_⟩
    simp [go_sem, f6]
  case s3 =>
    refine step_val (v := (.string d0)) (fun av wv hE hS hO hD => ?_) (fun _ => rfl)
    have d7 : av.eval (.tmp 7) = (.pointer (some ⟨b0, 0, none⟩)) := hD.1 rfl _ rfl
    have f7 := (ev_form av 7).symm.trans d7
    have c0 := extB_cell hE (by simp) c0
    have c1 := extB_cell hE (by simp) c1
    refine ⟨rfl, ?_⟩
    simp [go_sem, f7, c0, c1]
  case s4 =>
    refine step_val (v := (.pointer (some ⟨b1, 0, none⟩))) (fun av wv hE hS hO hD => ?_) (fun _ => rfl)
    have h1 : av.eval (.tmp 1) = (.pointer (some ⟨b1, 0, none⟩)) := hO.2.2 1 rfl
    have f1 := (ev_form av 1).symm.trans h1
    refine ⟨rfl, ?_⟩
    simp [go_sem, f1]
  case s5 =>
    refine step_val (v := (.pointer (some ⟨b1, 0, none⟩))) (fun av wv hE hS hO hD => ?_) (fun _ => rfl)
    have d9 : av.eval (.tmp 9) = (.pointer (some ⟨b1, 0, none⟩)) := hD.1 rfl _ rfl
    have f9 := (ev_form av 9).symm.trans d9
    refine ⟨rfl, ?_⟩
    simp [go_sem, f9]
  case s6 =>
    refine step_val (v := (.pointer (some ⟨b1, 0, none⟩))) (fun av wv hE hS hO hD => ?_) (fun _ => rfl)
    have d10 : av.eval (.tmp 10) = (.pointer (some ⟨b1, 0, none⟩)) := hD.1 rfl _ rfl
    have f10 := (ev_form av 10).symm.trans d10
    refine ⟨rfl, ?_⟩
    simp [go_sem, f10]
  case s7 =>
    refine step_val (v := (.string d1)) (fun av wv hE hS hO hD => ?_) (fun _ => rfl)
    have d11 : av.eval (.tmp 11) = (.pointer (some ⟨b1, 0, none⟩)) := hD.1 rfl _ rfl
    have f11 := (ev_form av 11).symm.trans d11
    have c0 := extB_cell hE (by simp) c0
    have c1 := extB_cell hE (by simp) c1
    refine ⟨rfl, ?_⟩
    simp [go_sem, f11, c0, c1]
  case s8 =>
    refine step_wp (fun av wv hE hS hO hD => ?_)
    have d8 : av.eval (.tmp 8) = (.string d0) := hD.1 rfl _ rfl
    have f8 := (ev_form av 8).symm.trans d8
    have d12 : av.eval (.tmp 12) = (.string d1) := hD.2.1 rfl _ rfl
    have f12 := (ev_form av 12).symm.trans d12
    refine ⟨rfl, ?_⟩
    refine wp_of_run (v := .slice (some ⟨wv.heap.size, 0, none⟩) 2 2) (w' := wv.alloc (.cells #[.string d0, .string d1] 9)) (by simp [go_sem, f8, f12]) ⟨_, rfl, es_of_ext (balloc (Ext_refl _) _), wv.heap.size, rfl, heap_alloc_new _ _⟩
  case s9 =>
    refine step_wp (fun av wv hE hS hO hD => ?_)
    have d13 : (fun u w' => ∃ g, u = .slice (some ⟨g, 0, none⟩) 2 2 ∧ w'.heap[g]? = some (.cells #[.string d0, .string d1] 9 (0, 0))) (av.eval (.tmp 13)) wv := hD.1 rfl _ rfl
    refine ⟨rfl, ?_⟩
    obtain ⟨g, h13, hg⟩ := d13
    have f13 := (ev_form av 13).symm.trans h13
    refine wp_of_call (v := .string H) (by simp [go_sem, f13]) (HH.out g wv hg) (fun w2 hb => ⟨_, rfl, es_of_ext hb, rfl⟩)
  case s10 =>
    refine step_val (v := (.pointer (some ⟨b0, 0, none⟩))) (fun av wv hE hS hO hD => ?_) (fun _ => rfl)
    have h0 : av.eval (.tmp 0) = (.pointer (some ⟨b0, 0, none⟩)) := hO.2.2 0 rfl
    have f0 := (ev_form av 0).symm.trans h0
    refine ⟨rfl, ?_⟩
    simp [go_sem, f0]
  case s11 =>
    refine step_val (v := (.pointer (some ⟨b1, 0, none⟩))) (fun av wv hE hS hO hD => ?_) (fun _ => rfl)
    have h1 : av.eval (.tmp 1) = (.pointer (some ⟨b1, 0, none⟩)) := hO.2.2 1 rfl
    have f1 := (ev_form av 1).symm.trans h1
    refine ⟨rfl, ?_⟩
    simp [go_sem, f1]
  case s12 =>
    refine step_val (v := (.agg #[.pointer (some ⟨b0, 0, none⟩), .pointer (some ⟨b1, 0, none⟩)])) (fun av wv hE hS hO hD => ?_) (fun _ => rfl)
    have d15 : av.eval (.tmp 15) = (.pointer (some ⟨b0, 0, none⟩)) := hD.1 rfl _ rfl
    have f15 := (ev_form av 15).symm.trans d15
    have d16 : av.eval (.tmp 16) = (.pointer (some ⟨b1, 0, none⟩)) := hD.2.1 rfl _ rfl
    have f16 := (ev_form av 16).symm.trans d16
    refine ⟨rfl, ?_⟩
    simp [go_sem, f15, f16]
  case s13 =>
    refine step_val (v := (.agg #[.string H, .pointer (some ⟨b0, 0, none⟩), .pointer (some ⟨b1, 0, none⟩)])) (fun av wv hE hS hO hD => ?_) (fun _ => rfl)
    have d14 : av.eval (.tmp 14) = (.string H) := hD.1 rfl _ rfl
    have f14 := (ev_form av 14).symm.trans d14
    have d17 : av.eval (.tmp 17) = (.agg #[.pointer (some ⟨b0, 0, none⟩), .pointer (some ⟨b1, 0, none⟩)]) := hD.2.1 rfl _ rfl
    have f17 := (ev_form av 17).symm.trans d17
    refine ⟨rfl, ?_⟩
    simp [go_sem, f14, f17]
  case s14 =>
    refine step_wp (fun av wv hE hS hO hD => ?_)
    have d18 : av.eval (.tmp 18) = (.agg #[.string H, .pointer (some ⟨b0, 0, none⟩), .pointer (some ⟨b1, 0, none⟩)]) := hD.1 rfl _ rfl
    have f18 := (ev_form av 18).symm.trans d18
    refine ⟨rfl, ?_⟩
    refine wp_of_run (v := .pointer (some ⟨wv.heap.size, 0, none⟩)) (w' := wv.alloc (.cells #[.string H, .pointer (some ⟨b0, 0, none⟩), .pointer (some ⟨b1, 0, none⟩)] 118)) (by simp [go_sem, f18]) ⟨_, rfl, es_of_ext (balloc (Ext_refl _) _), wv.heap.size, rfl, (by have := hE.size; simp at this; omega), heap_alloc_new _ _⟩
  intro a' w' hE hO hall
  have hA := act_of_outer (ds := [5, 6, 7, 8, 9, 10, 11, 12, 13, 14, 15, 16, 17, 18, 19]) rfl hO (by kernel_rfl)
  have e5 : (fun u _ => u = (.pointer (some ⟨b0, 0, none⟩))) (a'.eval (.tmp 5)) w' := hall.1 _ rfl
  have e6 : (fun u _ => u = (.pointer (some ⟨b0, 0, none⟩))) (a'.eval (.tmp 6)) w' := hall.2.1 _ rfl
  have e7 : (fun u _ => u = (.pointer (some ⟨b0, 0, none⟩))) (a'.eval (.tmp 7)) w' := hall.2.2.1 _ rfl
  have e8 : (fun u _ => u = (.string d0)) (a'.eval (.tmp 8)) w' := hall.2.2.2.1 _ rfl
  have e9 : (fun u _ => u = (.pointer (some ⟨b1, 0, none⟩))) (a'.eval (.tmp 9)) w' := hall.2.2.2.2.1 _ rfl
  have e10 : (fun u _ => u = (.pointer (some ⟨b1, 0, none⟩))) (a'.eval (.tmp 10)) w' := hall.2.2.2.2.2.1 _ rfl
  have e11 : (fun u _ => u = (.pointer (some ⟨b1, 0, none⟩))) (a'.eval (.tmp 11)) w' := hall.2.2.2.2.2.2.1 _ rfl
  have e12 : (fun u _ => u = (.string d1)) (a'.eval (.tmp 12)) w' := hall.2.2.2.2.2.2.2.1 _ rfl
  have e13 : (fun u w' => ∃ g, u = .slice (some ⟨g, 0, none⟩) 2 2 ∧ w'.heap[g]? = some (.cells #[.string d0, .string d1] 9 (0, 0))) (a'.eval (.tmp 13)) w' := hall.2.2.2.2.2.2.2.2.1 _ rfl
  have e14 : (fun u _ => u = (.string H)) (a'.eval (.tmp 14)) w' := hall.2.2.2.2.2.2.2.2.2.1 _ rfl
  have e15 : (fun u _ => u = (.pointer (some ⟨b0, 0, none⟩))) (a'.eval (.tmp 15)) w' := hall.2.2.2.2.2.2.2.2.2.2.1 _ rfl
  have e16 : (fun u _ => u = (.pointer (some ⟨b1, 0, none⟩))) (a'.eval (.tmp 16)) w' := hall.2.2.2.2.2.2.2.2.2.2.2.1 _ rfl
  have e17 : (fun u _ => u = (.agg #[.pointer (some ⟨b0, 0, none⟩), .pointer (some ⟨b1, 0, none⟩)])) (a'.eval (.tmp 17)) w' := hall.2.2.2.2.2.2.2.2.2.2.2.2.1 _ rfl
  have e18 : (fun u _ => u = (.agg #[.string H, .pointer (some ⟨b0, 0, none⟩), .pointer (some ⟨b1, 0, none⟩)])) (a'.eval (.tmp 18)) w' := hall.2.2.2.2.2.2.2.2.2.2.2.2.2.1 _ rfl
  have e19 : (fun u w' => ∃ g, u = .pointer (some ⟨g, 0, none⟩) ∧ w.heap.size ≤ g ∧ NodeAt g H (some ⟨b0, 0, none⟩) (some ⟨b1, 0, none⟩) w') (a'.eval (.tmp 19)) w' := hall.2.2.2.2.2.2.2.2.2.2.2.2.2.2.1 _ rfl
  obtain ⟨v13, hv13⟩ : ∃ v, a'.eval (.tmp 13) = v := ⟨_, rfl⟩
  rw [hv13] at e13
  obtain ⟨v19, hv19⟩ : ∃ v, a'.eval (.tmp 19) = v := ⟨_, rfl⟩
  rw [hv19] at e19
  simp only [List.foldl_cons, List.foldl_nil, Act.put, List.setIfInBounds_toArray, List.set_cons_succ, List.set_cons_zero, e5, e6, e7, e8, e9, e10, e11, e12, hv13, e14, e15, e16, e17, e18, hv19] at hA
  clear hO hall e5 e6 e7 e8 e9 e10 e11 e12 hv13 e14 e15 e16 e17 e18 hv19
  subst hA
  obtain ⟨g, rfl, hg, hn⟩ := e19
  have HN := Lib.hid hn
  have HG := Lib.hid hg
  have HW : Hid (Below w.heap.size w w') := Lib.hid (of_drew hE)
  clear hn hg hE
  go_wp2
  go_ret
  exact ⟨g, rfl, HG.out, HN.out, HW.out⟩
end Go.Proofs.YtpobhbdomldecaaGreatDoor
namespace Go.Proofs.YtpobhbdomldecaaGreatDoor
open Go.RowKit
set_option linter.unusedSimpArgs false
set_option linter.unusedVariables false
def PlaceIs (els : List ByteArray) (d : Nat) : Nat → Nat → Nat → World → Prop
  | 0, k, b, w => NodeAt b (plD els d 0 k) none none w
  | l + 1, k, b, w => ∃ b0 b1, NodeAt b (plD els d (l + 1) k) (some ⟨b0, 0, none⟩) (some ⟨b1, 0, none⟩) w ∧ PlaceIs els d l (2 * k) b0 w ∧ PlaceIs els d l (2 * k + 1) b1 w
theorem PlaceIs.below {els : List ByteArray} {d : Nat} : ∀ {l k b : Nat} {w w' : World}, PlaceIs els d l k b w → Below w.heap.size w w' → PlaceIs els d l k b w'
  | 0, _, _, _, _, h, hb => NodeAt.below h hb
  | l + 1, _, _, _, _, ⟨b0, b1, h, h0, h1⟩, hb => ⟨b0, b1, h.below hb, h0.below hb, h1.below hb⟩
theorem PlaceIs.digest {els : List ByteArray} {d : Nat} : ∀ {l k b : Nat} {w : World}, PlaceIs els d l k b w → w.cell? ⟨b, 0, none⟩ = some (.string (plD els d l k))
  | 0, _, _, _, h => NodeAt.digest h
  | l + 1, _, _, _, ⟨b0, b1, h, _, _⟩ => h.digest
theorem PlaceIs.ext {els : List ByteArray} {d l k b : Nat} {w w' : World} (h : PlaceIs els d l k b w) (hb : Ext w w') : PlaceIs els d l k b w' := h.below hb
theorem PlaceIs.extB {els : List ByteArray} {d l k b : Nat} {w w' : World} (h : PlaceIs els d l k b w) (hb : ExtB none w w') : PlaceIs els d l k b w' := h.below (extB_none hb)
structure EnvT (els : List ByteArray) (d bF bD bE bN nb : Nat) (a : Option Addr) (cap : Nat) (w : World) : Prop where
  f : w.heap[bF]? = some (.cells #[.func (.func 91) #[] #[.pointer (some ⟨bF, 0, none⟩), .pointer (some ⟨bD, 0, none⟩), .pointer (some ⟨bE, 0, none⟩), .pointer (some ⟨bN, 0, none⟩)]] 119 (0, 0))
  d : w.heap[bD]? = some (.cells #[.int .i64 (d : Nat)] 3 (0, 0))
  e : w.heap[bE]? = some (.cells #[.slice a (len els) cap] 36 (0, 0))
  n : w.heap[bN]? = some (.cells #[.pointer (some ⟨nb, 0, none⟩)] 115 (0, 0))
  nb : NodeAt nb (hashP noneT []) none none w
  t : Txts w a els
theorem EnvT.below {els : List ByteArray} {d bF bD bE bN nb : Nat} {a : Option Addr} {cap : Nat} {w w' : World} (h : EnvT els d bF bD bE bN nb a cap w) (hb : Below w.heap.size w w') : EnvT els d bF bD bE bN nb a cap w' :=
  ⟨(hb.block _ (lt_of_block h.f)).trans h.f, (hb.block _ (lt_of_block h.d)).trans h.d, (hb.block _ (lt_of_block h.e)).trans h.e, (hb.block _ (lt_of_block h.n)).trans h.n, h.nb.below hb, h.t.below hb⟩
def AtIs (els : List ByteArray) (d l k : Nat) (w : World) (e : Ending) (w' : World) : Prop := ∃ g, e = .returned (.pointer (some ⟨g, 0, none⟩)) ∧ PlaceIs els d l k g w' ∧ Below w.heap.size w w'
theorem turned_rev {k d : Nat} (hd : d ≤ 16) (hk : k < 2 ^ d) : turnedZ (k : Nat) (d : Nat) = ((revOf k d : Nat) : Int) := by
  unfold turnedZ
  rw [if_pos]
  · simp
  · refine ⟨by omega, by omega, ?_⟩
    rw [Int.toNat_natCast, pow_cast]
    exact_mod_cast hk
theorem pow_le16 {d : Nat} (hd : d ≤ 16) : 2 ^ d ≤ 65536 := Nat.pow_le_pow_right (by decide) hd
set_option maxRecDepth 100000 in
set_option maxHeartbeats 4000000 in
theorem at_zero (els : List ByteArray) (d bF bD bE bN nb : Nat) (a : Option Addr) (cap k : Nat) (w : World) (hd : d ≤ 16) (hk : k < 2 ^ d) (hn : len els ≤ 65536) (hz : ∀ i, i < len els → (tth els i).size ≤ 140737488355200) (h : EnvT els d bF bD bE bN nb a cap w) :
    Calls Tryz.prog 91 #[.int .i64 0, .int .u64 k, .pointer (some ⟨bF, 0, none⟩), .pointer (some ⟨bD, 0, none⟩), .pointer (some ⟨bE, 0, none⟩), .pointer (some ⟨bN, 0, none⟩)] w (AtIs els d 0 k w) := by
  have H := Lib.hid h
  have HK : Hid (k < 65536) := Lib.hid (Nat.lt_of_lt_of_le hk (pow_le16 hd))
  have HN := Lib.hid hn
  have HZ := Lib.hid hz
  have HEL := Lib.hid (element_any (k : Nat) (d : Nat) w (by omega) (by have := HK.out; omega))
  rw [turned_rev hd hk] at HEL
  have cd : w.cell? ⟨bD, 0, none⟩ = some (.int .i64 (d : Nat)) := by rw [block_cell h.d]; rfl
  have ce : w.cell? ⟨bE, 0, none⟩ = some (.slice a (len els) cap) := by rw [block_cell h.e]; rfl
  have cn : w.cell? ⟨bN, 0, none⟩ = some (.pointer (some ⟨nb, 0, none⟩)) := by rw [block_cell h.n]; rfl
  have HPL : Hid (plD els d 0 k = if revOf k d < len els then hashP leafT [tth els (revOf k d)] else hashP noneT []) := Lib.hid rfl
  have HRL : Hid (revOf k d < 65536) := Lib.hid (Nat.lt_of_lt_of_le (revOf_lt k d) (pow_le16 hd))
  obtain ⟨i, hi⟩ : ∃ i, revOf k d = i := ⟨_, rfl⟩
  rw [hi] at HEL HPL HRL
  clear h hi hd hk hn hz
  go_enter Tryz.func91, Tryz.ntmps91
  go_wp2_with fail
  refine HEL.out.mono ?_
  rintro e w1 ⟨rfl, rfl⟩
  have HNB := HN.out
  have hil := HRL.out
  by_cases hlt : i < len els
  · have i1 : (i : Int) < (len els : Nat) := by omega
    have i2 : IntKind.u64.wrap ((len els : Nat) : Int) = ((len els : Nat) : Int) := IntWalk.u64_in _ (by omega)
    obtain ⟨pb, po, rfl, hpc⟩ := H.out.t i hlt
    obtain ⟨x, hx⟩ : ∃ x, tth els i = x := ⟨_, rfl⟩
    rw [hx] at hpc
    have HX := Lib.hid hx
    clear hx
    go_wp2_with fail
    refine (leaf_node x w (by rw [← HX.out]; exact HZ.out i hlt)).mono ?_
    rintro e w2 ⟨g, rfl, hg, hn2, hb2⟩
    have HE2 : Hid (PlaceIs els d 0 k g w2) := Lib.hid (by
      show NodeAt g (plD els d 0 k) none none w2
      rw [HPL.out, if_pos hlt, HX.out]; exact hn2)
    have HB2 := Lib.hid hb2
    clear hg hn2 hb2 hpc
    go_wp2
    go_ret
    exact ⟨g, rfl, HE2.out, HB2.out⟩
  · have i1 : ¬ (i : Int) < (len els : Nat) := by omega
    have i2 : IntKind.u64.wrap ((len els : Nat) : Int) = ((len els : Nat) : Int) := IntWalk.u64_in _ (by omega)
    have HE2 : Hid (PlaceIs els d 0 k nb w) := Lib.hid (by
      show NodeAt nb (plD els d 0 k) none none w
      rw [HPL.out, if_neg hlt]; exact H.out.nb)
    clear hlt
    go_wp2
    go_ret
    exact ⟨nb, rfl, HE2.out, Below.refl _ _⟩
set_option maxRecDepth 100000 in
set_option maxHeartbeats 4000000 in
theorem at_step (els : List ByteArray) (d bF bD bE bN nb : Nat) (a : Option Addr) (cap l k : Nat) (w : World) (hd : l + 1 ≤ 16) (hk : k < 65536) (h : EnvT els d bF bD bE bN nb a cap w)
    (hr : ∀ (k' : Nat) (wv : World), Below w.heap.size w wv → (k' = 2 * k ∨ k' = 2 * k + 1) → Calls Tryz.prog 91 #[.int .i64 (l : Nat), .int .u64 ((k' : Nat) : Int), .pointer (some ⟨bF, 0, none⟩), .pointer (some ⟨bD, 0, none⟩), .pointer (some ⟨bE, 0, none⟩), .pointer (some ⟨bN, 0, none⟩)] wv (AtIs els d l k' wv)) :
    Calls Tryz.prog 91 #[.int .i64 ((l + 1 : Nat) : Int), .int .u64 k, .pointer (some ⟨bF, 0, none⟩), .pointer (some ⟨bD, 0, none⟩), .pointer (some ⟨bE, 0, none⟩), .pointer (some ⟨bN, 0, none⟩)] w (AtIs els d (l + 1) k w) := by
  have HR := Lib.hid hr
  have K1 : 2 * k = 2 * k ∨ 2 * k = 2 * k + 1 := Or.inl rfl
  have K2 : 2 * k + 1 = 2 * k ∨ 2 * k + 1 = 2 * k + 1 := Or.inr rfl
  have cf : w.cell? ⟨bF, 0, none⟩ = some (.func (.func 91) #[] #[.pointer (some ⟨bF, 0, none⟩), .pointer (some ⟨bD, 0, none⟩), .pointer (some ⟨bE, 0, none⟩), .pointer (some ⟨bN, 0, none⟩)]) := by rw [block_cell h.f]; rfl
  have l1 : (0 : Int) < ((l + 1 : Nat) : Int) := by omega
  have s1 : IntKind.i64.wrap (l : Int) = (l : Int) := IntWalk.i64_in _ (by omega)
  have m1 : IntKind.u64.wrap (2 * (k : Int)) = 2 * (k : Int) := IntWalk.u64_in _ (by omega)
  have m2 : IntKind.u64.wrap (2 * (k : Int) + 1) = 2 * (k : Int) + 1 := IntWalk.u64_in _ (by omega)
  clear hr h
  go_enter Tryz.func91, Tryz.ntmps91
  go_upto_region 2 with fail
  refine wp_region_tail 14 1000 (none) (phis [fun u _ => u = (.func (.func 91) #[] #[.pointer (some ⟨bF, 0, none⟩), .pointer (some ⟨bD, 0, none⟩), .pointer (some ⟨bE, 0, none⟩), .pointer (some ⟨bN, 0, none⟩)]), fun u _ => u = (.int .i64 ((l + 1 : Nat) : Int)), fun u _ => u = (.int .i64 (l : Nat)), fun u _ => u = (.int .u64 k), fun u _ => u = (.int .u64 ((2 * k : Nat) : Int)), fun u w' => ∃ g, u = .pointer (some ⟨g, 0, none⟩) ∧ PlaceIs els d l (2 * k) g w', fun u _ => u = (.func (.func 91) #[] #[.pointer (some ⟨bF, 0, none⟩), .pointer (some ⟨bD, 0, none⟩), .pointer (some ⟨bE, 0, none⟩), .pointer (some ⟨bN, 0, none⟩)]), fun u _ => u = (.int .i64 ((l + 1 : Nat) : Int)), fun u _ => u = (.int .i64 (l : Nat)), fun u _ => u = (.int .u64 k), fun u _ => u = (.int .u64 ((2 * k : Nat) : Int)), fun u _ => u = (.int .u64 ((2 * k + 1 : Nat) : Int)), fun u w' => ∃ g, u = .pointer (some ⟨g, 0, none⟩) ∧ PlaceIs els d l (2 * k + 1) g w', fun u w' => ∃ g, u = .pointer (some ⟨g, 0, none⟩) ∧ PlaceIs els d (l + 1) k g w']) rfl (by kernel_rfl) (by kernel_rfl) (mono_of ⟨mono_eq, mono_eq, mono_eq, mono_eq, mono_eq, ?m5, mono_eq, mono_eq, mono_eq, mono_eq, mono_eq, mono_eq, ?m12, ?m13, trivial⟩) (steps_of 14 ⟨?s0, ?s1, ?s2, ?s3, ?s4, ?s5, ?s6, ?s7, ?s8, ?s9, ?s10, ?s11, ?s12, ?s13, trivial⟩) ?_
  case m5 =>
    exact ⟨fun u w1 w' h ⟨b, h1, hb⟩ => ⟨b, h1, hb.ext h⟩, fun _ u w1 w' h ⟨b, h1, hb⟩ => ⟨b, h1, hb.extB h⟩⟩
  case m12 =>
    exact ⟨fun u w1 w' h ⟨b, h1, hb⟩ => ⟨b, h1, hb.ext h⟩, fun _ u w1 w' h ⟨b, h1, hb⟩ => ⟨b, h1, hb.extB h⟩⟩
  case m13 =>
    exact ⟨fun u w1 w' h ⟨b, h1, hb⟩ => ⟨b, h1, hb.ext h⟩, fun _ u w1 w' h ⟨b, h1, hb⟩ => ⟨b, h1, hb.extB h⟩⟩
  case s0 =>
    refine step_val (v := (.func (.func 91) #[] #[.pointer (some ⟨bF, 0, none⟩), .pointer (some ⟨bD, 0, none⟩), .pointer (some ⟨bE, 0, none⟩), .pointer (some ⟨bN, 0, none⟩)])) (fun av wv hE hS hO hD => ?_) (fun _ => rfl)
    have h2 : av.eval (.tmp 2) = (.pointer (some ⟨bF, 0, none⟩)) := hO.2.2 2 rfl
    have f2 := (ev_form av 2).symm.trans h2
    have cf := extB_cell hE (by simp) cf
    refine ⟨rfl, ?_⟩
    simp [go_sem, f2, cf, s1, m1, m2]
  case s1 =>
    refine step_val (v := (.int .i64 ((l + 1 : Nat) : Int))) (fun av wv hE hS hO hD => ?_) (fun _ => rfl)
    have h0 : av.eval (.tmp 0) = (.int .i64 ((l + 1 : Nat) : Int)) := hO.2.2 0 rfl
    have f0 := (ev_form av 0).symm.trans h0
    refine ⟨rfl, ?_⟩
    simp [go_sem, f0, s1, m1, m2]
  case s2 =>
    refine step_val (v := (.int .i64 (l : Nat))) (fun av wv hE hS hO hD => ?_) (fun _ => rfl)
    have d13 : av.eval (.tmp 13) = (.int .i64 ((l + 1 : Nat) : Int)) := hD.1 rfl _ rfl
    have f13 := (ev_form av 13).symm.trans d13
    refine ⟨rfl, ?_⟩
    simp [go_sem, f13, s1, m1, m2]
  case s3 =>
    refine step_val (v := (.int .u64 k)) (fun av wv hE hS hO hD => ?_) (fun _ => rfl)
    have h1 : av.eval (.tmp 1) = (.int .u64 k) := hO.2.2 1 rfl
    have f1 := (ev_form av 1).symm.trans h1
    refine ⟨rfl, ?_⟩
    simp [go_sem, f1, s1, m1, m2]
  case s4 =>
    refine step_val (v := (.int .u64 ((2 * k : Nat) : Int))) (fun av wv hE hS hO hD => ?_) (fun _ => rfl)
    have d15 : av.eval (.tmp 15) = (.int .u64 k) := hD.1 rfl _ rfl
    have f15 := (ev_form av 15).symm.trans d15
    refine ⟨rfl, ?_⟩
    simp [go_sem, f15, s1, m1, m2]
  case s5 =>
    refine step_wp (fun av wv hE hS hO hD => ?_)
    have d12 : av.eval (.tmp 12) = (.func (.func 91) #[] #[.pointer (some ⟨bF, 0, none⟩), .pointer (some ⟨bD, 0, none⟩), .pointer (some ⟨bE, 0, none⟩), .pointer (some ⟨bN, 0, none⟩)]) := hD.1 rfl _ rfl
    have f12 := (ev_form av 12).symm.trans d12
    have d14 : av.eval (.tmp 14) = (.int .i64 (l : Nat)) := hD.2.1 rfl _ rfl
    have f14 := (ev_form av 14).symm.trans d14
    have d16 : av.eval (.tmp 16) = (.int .u64 ((2 * k : Nat) : Int)) := hD.2.2.1 rfl _ rfl
    have f16 := (ev_form av 16).symm.trans d16
    refine ⟨rfl, ?_⟩
    refine wp_of_callV (R := fun u w2 => (∃ g, u = .pointer (some ⟨g, 0, none⟩) ∧ PlaceIs els d l (2 * k) g w2) ∧ Below wv.heap.size wv w2) (f := 91) (args := #[.int .i64 (l : Nat), .int .u64 ((2 * k : Nat) : Int), .pointer (some ⟨bF, 0, none⟩), .pointer (some ⟨bD, 0, none⟩), .pointer (some ⟨bE, 0, none⟩), .pointer (some ⟨bN, 0, none⟩)]) (by simp [go_sem, f12, f14, f16]) ((HR.out (2 * k) wv (of_drew hE) K1).mono (fun e w2 ⟨g, h1, h2, h3⟩ => ⟨_, h1, ⟨g, rfl, h2⟩, h3⟩)) (fun u w2 ⟨h1, h2⟩ => ⟨_, rfl, es_of_ext h2, h1⟩)
  case s6 =>
    refine step_val (v := (.func (.func 91) #[] #[.pointer (some ⟨bF, 0, none⟩), .pointer (some ⟨bD, 0, none⟩), .pointer (some ⟨bE, 0, none⟩), .pointer (some ⟨bN, 0, none⟩)])) (fun av wv hE hS hO hD => ?_) (fun _ => rfl)
    have h2 : av.eval (.tmp 2) = (.pointer (some ⟨bF, 0, none⟩)) := hO.2.2 2 rfl
    have f2 := (ev_form av 2).symm.trans h2
    have cf := extB_cell hE (by simp) cf
    refine ⟨rfl, ?_⟩
    simp [go_sem, f2, cf, s1, m1, m2]
  case s7 =>
    refine step_val (v := (.int .i64 ((l + 1 : Nat) : Int))) (fun av wv hE hS hO hD => ?_) (fun _ => rfl)
    have h0 : av.eval (.tmp 0) = (.int .i64 ((l + 1 : Nat) : Int)) := hO.2.2 0 rfl
    have f0 := (ev_form av 0).symm.trans h0
    refine ⟨rfl, ?_⟩
    simp [go_sem, f0, s1, m1, m2]
  case s8 =>
    refine step_val (v := (.int .i64 (l : Nat))) (fun av wv hE hS hO hD => ?_) (fun _ => rfl)
    have d19 : av.eval (.tmp 19) = (.int .i64 ((l + 1 : Nat) : Int)) := hD.1 rfl _ rfl
    have f19 := (ev_form av 19).symm.trans d19
    refine ⟨rfl, ?_⟩
    simp [go_sem, f19, s1, m1, m2]
  case s9 =>
    refine step_val (v := (.int .u64 k)) (fun av wv hE hS hO hD => ?_) (fun _ => rfl)
    have h1 : av.eval (.tmp 1) = (.int .u64 k) := hO.2.2 1 rfl
    have f1 := (ev_form av 1).symm.trans h1
    refine ⟨rfl, ?_⟩
    simp [go_sem, f1, s1, m1, m2]
  case s10 =>
    refine step_val (v := (.int .u64 ((2 * k : Nat) : Int))) (fun av wv hE hS hO hD => ?_) (fun _ => rfl)
    have d21 : av.eval (.tmp 21) = (.int .u64 k) := hD.1 rfl _ rfl
    have f21 := (ev_form av 21).symm.trans d21
    refine ⟨rfl, ?_⟩
    simp [go_sem, f21, s1, m1, m2]
  case s11 =>
    refine step_val (v := (.int .u64 ((2 * k + 1 : Nat) : Int))) (fun av wv hE hS hO hD => ?_) (fun _ => rfl)
    have d22 : av.eval (.tmp 22) = (.int .u64 ((2 * k : Nat) : Int)) := hD.1 rfl _ rfl
    have f22 := (ev_form av 22).symm.trans d22
    refine ⟨rfl, ?_⟩
    simp [go_sem, f22, s1, m1, m2]
  case s12 =>
    refine step_wp (fun av wv hE hS hO hD => ?_)
    have d18 : av.eval (.tmp 18) = (.func (.func 91) #[] #[.pointer (some ⟨bF, 0, none⟩), .pointer (some ⟨bD, 0, none⟩), .pointer (some ⟨bE, 0, none⟩), .pointer (some ⟨bN, 0, none⟩)]) := hD.1 rfl _ rfl
    have f18 := (ev_form av 18).symm.trans d18
    have d20 : av.eval (.tmp 20) = (.int .i64 (l : Nat)) := hD.2.1 rfl _ rfl
    have f20 := (ev_form av 20).symm.trans d20
    have d23 : av.eval (.tmp 23) = (.int .u64 ((2 * k + 1 : Nat) : Int)) := hD.2.2.1 rfl _ rfl
    have f23 := (ev_form av 23).symm.trans d23
    refine ⟨rfl, ?_⟩
    refine wp_of_callV (R := fun u w2 => (∃ g, u = .pointer (some ⟨g, 0, none⟩) ∧ PlaceIs els d l (2 * k + 1) g w2) ∧ Below wv.heap.size wv w2) (f := 91) (args := #[.int .i64 (l : Nat), .int .u64 ((2 * k + 1 : Nat) : Int), .pointer (some ⟨bF, 0, none⟩), .pointer (some ⟨bD, 0, none⟩), .pointer (some ⟨bE, 0, none⟩), .pointer (some ⟨bN, 0, none⟩)]) (by simp [go_sem, f18, f20, f23]) ((HR.out (2 * k + 1) wv (of_drew hE) K2).mono (fun e w2 ⟨g, h1, h2, h3⟩ => ⟨_, h1, ⟨g, rfl, h2⟩, h3⟩)) (fun u w2 ⟨h1, h2⟩ => ⟨_, rfl, es_of_ext h2, h1⟩)
  case s13 =>
    refine step_wp (fun av wv hE hS hO hD => ?_)
    have d17 : (fun u w' => ∃ g, u = .pointer (some ⟨g, 0, none⟩) ∧ PlaceIs els d l (2 * k) g w') (av.eval (.tmp 17)) wv := hD.1 rfl _ rfl
    have d24 : (fun u w' => ∃ g, u = .pointer (some ⟨g, 0, none⟩) ∧ PlaceIs els d l (2 * k + 1) g w') (av.eval (.tmp 24)) wv := hD.2.1 rfl _ rfl
    refine ⟨rfl, ?_⟩
    obtain ⟨g0, h17, hg0⟩ := d17
    obtain ⟨g1, h24, hg1⟩ := d24
    have f17 := (ev_form av 17).symm.trans h17
    have f24 := (ev_form av 24).symm.trans h24
    refine wp_of_callV (R := fun u w2 => ∃ g, u = .pointer (some ⟨g, 0, none⟩) ∧ NodeAt g (plD els d (l + 1) k) (some ⟨g0, 0, none⟩) (some ⟨g1, 0, none⟩) w2 ∧ Below wv.heap.size wv w2) (f := 92) (args := #[.pointer (some ⟨g0, 0, none⟩), .pointer (some ⟨g1, 0, none⟩)]) (by simp [go_sem, f17, f24]) ((over_any g0 g1 (plD els d l (2 * k)) (plD els d l (2 * k + 1)) wv hg0.digest hg1.digest ⟨by rw [plD_size]; decide, by rw [plD_size]; decide⟩).mono (fun e w2 ⟨g, h1, _, h2, h3⟩ => ⟨_, h1, g, rfl, h2, h3⟩)) (fun u w2 ⟨g, h1, h2, h3⟩ => ⟨_, rfl, es_of_ext h3, g, h1, g0, g1, h2, hg0.below h3, hg1.below h3⟩)
  intro a' w' hE hO hall
  have hA := act_of_outer (ds := [12, 13, 14, 15, 16, 17, 18, 19, 20, 21, 22, 23, 24, 25]) rfl hO (by kernel_rfl)
  have e12 : (fun u _ => u = (.func (.func 91) #[] #[.pointer (some ⟨bF, 0, none⟩), .pointer (some ⟨bD, 0, none⟩), .pointer (some ⟨bE, 0, none⟩), .pointer (some ⟨bN, 0, none⟩)])) (a'.eval (.tmp 12)) w' := hall.1 _ rfl
  have e13 : (fun u _ => u = (.int .i64 ((l + 1 : Nat) : Int))) (a'.eval (.tmp 13)) w' := hall.2.1 _ rfl
  have e14 : (fun u _ => u = (.int .i64 (l : Nat))) (a'.eval (.tmp 14)) w' := hall.2.2.1 _ rfl
  have e15 : (fun u _ => u = (.int .u64 k)) (a'.eval (.tmp 15)) w' := hall.2.2.2.1 _ rfl
  have e16 : (fun u _ => u = (.int .u64 ((2 * k : Nat) : Int))) (a'.eval (.tmp 16)) w' := hall.2.2.2.2.1 _ rfl
  have e17 : (fun u w' => ∃ g, u = .pointer (some ⟨g, 0, none⟩) ∧ PlaceIs els d l (2 * k) g w') (a'.eval (.tmp 17)) w' := hall.2.2.2.2.2.1 _ rfl
  have e18 : (fun u _ => u = (.func (.func 91) #[] #[.pointer (some ⟨bF, 0, none⟩), .pointer (some ⟨bD, 0, none⟩), .pointer (some ⟨bE, 0, none⟩), .pointer (some ⟨bN, 0, none⟩)])) (a'.eval (.tmp 18)) w' := hall.2.2.2.2.2.2.1 _ rfl
  have e19 : (fun u _ => u = (.int .i64 ((l + 1 : Nat) : Int))) (a'.eval (.tmp 19)) w' := hall.2.2.2.2.2.2.2.1 _ rfl
  have e20 : (fun u _ => u = (.int .i64 (l : Nat))) (a'.eval (.tmp 20)) w' := hall.2.2.2.2.2.2.2.2.1 _ rfl
  have e21 : (fun u _ => u = (.int .u64 k)) (a'.eval (.tmp 21)) w' := hall.2.2.2.2.2.2.2.2.2.1 _ rfl
  have e22 : (fun u _ => u = (.int .u64 ((2 * k : Nat) : Int))) (a'.eval (.tmp 22)) w' := hall.2.2.2.2.2.2.2.2.2.2.1 _ rfl
  have e23 : (fun u _ => u = (.int .u64 ((2 * k + 1 : Nat) : Int))) (a'.eval (.tmp 23)) w' := hall.2.2.2.2.2.2.2.2.2.2.2.1 _ rfl
  have e24 : (fun u w' => ∃ g, u = .pointer (some ⟨g, 0, none⟩) ∧ PlaceIs els d l (2 * k + 1) g w') (a'.eval (.tmp 24)) w' := hall.2.2.2.2.2.2.2.2.2.2.2.2.1 _ rfl
  have e25 : (fun u w' => ∃ g, u = .pointer (some ⟨g, 0, none⟩) ∧ PlaceIs els d (l + 1) k g w') (a'.eval (.tmp 25)) w' := hall.2.2.2.2.2.2.2.2.2.2.2.2.2.1 _ rfl
  obtain ⟨v17, hv17⟩ : ∃ v, a'.eval (.tmp 17) = v := ⟨_, rfl⟩
  rw [hv17] at e17
  obtain ⟨v24, hv24⟩ : ∃ v, a'.eval (.tmp 24) = v := ⟨_, rfl⟩
  rw [hv24] at e24
  obtain ⟨v25, hv25⟩ : ∃ v, a'.eval (.tmp 25) = v := ⟨_, rfl⟩
  rw [hv25] at e25
  simp only [List.foldl_cons, List.foldl_nil, Act.put, List.setIfInBounds_toArray, List.set_cons_succ, List.set_cons_zero, e12, e13, e14, e15, e16, hv17, e18, e19, e20, e21, e22, e23, hv24, hv25] at hA
  clear hO hall e12 e13 e14 e15 e16 hv17 e18 e19 e20 e21 e22 e23 hv24 hv25
  subst hA
  obtain ⟨g, rfl, hg⟩ := e25
  have HG := Lib.hid hg
  have HW : Hid (Below w.heap.size w w') := Lib.hid (of_drew hE)
  clear hg hE e17 e24
  go_wp2
  go_ret
  exact ⟨g, rfl, HG.out, HW.out⟩
theorem at_any (els : List ByteArray) (d bF bD bE bN nb : Nat) (a : Option Addr) (cap : Nat) (hd : d ≤ 16) (hn : len els ≤ 65536) (hz : ∀ i, i < len els → (tth els i).size ≤ 140737488355200) :
    ∀ (l k : Nat) (w : World), l ≤ d → k < 2 ^ (d - l) → EnvT els d bF bD bE bN nb a cap w →
    Calls Tryz.prog 91 #[.int .i64 (l : Nat), .int .u64 k, .pointer (some ⟨bF, 0, none⟩), .pointer (some ⟨bD, 0, none⟩), .pointer (some ⟨bE, 0, none⟩), .pointer (some ⟨bN, 0, none⟩)] w (AtIs els d l k w)
  | 0, k, w, _, hk, h => at_zero els d bF bD bE bN nb a cap k w hd (by simpa using hk) hn hz h
  | l + 1, k, w, hl, hk, h => by
    have h2 : 2 ^ (d - (l + 1)) ≤ 65536 := Nat.le_trans (Nat.pow_le_pow_right (by decide) (show d - (l + 1) ≤ 16 by omega)) (by decide)
    refine at_step els d bF bD bE bN nb a cap l k w (by omega) (by omega) h fun k' wv hb hk' => ?_
    refine at_any els d bF bD bE bN nb a cap hd hn hz l k' wv (by omega) ?_ (h.below hb)
    have : 2 ^ (d - l) = 2 * 2 ^ (d - (l + 1)) := by rw [show d - l = (d - (l + 1)) + 1 by omega, Nat.pow_succ]; omega
    rcases hk' with rfl | rfl <;> omega
end Go.Proofs.YtpobhbdomldecaaGreatDoor
namespace Go.Proofs.YtpobhbdomldecaaGreatDoor
open Go.RowKit
set_option linter.unusedSimpArgs false
set_option linter.unusedVariables false
def depN (els : List ByteArray) : Nat := Lib.bitLen (len els - 1)
theorem depN_le {els : List ByteArray} (h : len els ≤ 65536) : depN els ≤ 16 := (depth_bd (len els) h).1
theorem depthZ_len {els : List ByteArray} (h : len els ≤ 65536) : depthZ (len els : Nat) = ((depN els : Nat) : Int) := by
  unfold depthZ depN
  rw [if_neg (by omega), Int.toNat_natCast]
def TreeAt (els : List ByteArray) (b : Nat) (w : World) : Prop := ∃ p, w.heap[b]? = some (.cells #[.pointer (some ⟨p, 0, none⟩), .int .i64 (depN els : Nat), .int .i64 (len els : Nat)] 124 (0, 0)) ∧ PlaceIs els (depN els) (depN els) 0 p w
theorem TreeAt.below {els : List ByteArray} {b : Nat} {w w' : World} (h : TreeAt els b w) (hb : Below w.heap.size w w') : TreeAt els b w' := by
  obtain ⟨p, h1, h2⟩ := h
  exact ⟨p, (hb.block _ (lt_of_block h1)).trans h1, h2.below hb⟩
def BuildIs (els : List ByteArray) (w : World) (e : Ending) (w' : World) : Prop := ∃ b, e = .returned (.tuple #[.pointer (some ⟨b, 0, none⟩), .int .i64 0]) ∧ w.heap.size ≤ b ∧ TreeAt els b w' ∧ Below w.heap.size w w'
set_option maxRecDepth 100000 in
set_option maxHeartbeats 4000000 in
theorem build_any (els : List ByteArray) (a : Option Addr) (cap : Nat) (w : World) (ht : Txts w a els) (hn : len els ≤ 65536) (hz : ∀ i, i < len els → (tth els i).size ≤ 140737488355200) :
    Calls Tryz.prog 42 #[.slice a (len els) cap] w (BuildIs els w) := by
  have HT := Lib.hid ht
  have HN := Lib.hid hn
  have HZ := Lib.hid hz
  obtain ⟨d, hd⟩ : ∃ d, depN els = d := ⟨_, rfl⟩
  have HDD := Lib.hid hd
  have HD16 : Hid (d ≤ 16) := Lib.hid (by rw [← hd]; exact depN_le hn)
  have HDZ : Hid (depthZ (len els : Nat) = ((d : Nat) : Int)) := Lib.hid (by rw [← hd]; exact depthZ_len hn)
  have n1 : ¬ (65536 : Int) < (len els : Nat) := by omega
  clear ht hz hd
  go_enter Tryz.func42, Tryz.ntmps42
  go_wp2_with fail
  refine (depth_any (len els : Nat) _ (by omega) (by omega)).mono ?_
  rintro e w1 ⟨rfl, rfl⟩
  rw [HDZ.out]
  clear n1 hn
  go_wp2_with fail
  obtain ⟨bE, hbE⟩ : ∃ bE, w.heap.size = bE := ⟨_, rfl⟩
  obtain ⟨bD, hbD⟩ : ∃ bD, w.heap.size + 1 = bD := ⟨_, rfl⟩
  rw [hbD, hbE]
  obtain ⟨V, hV⟩ : ∃ V, (w.alloc (.cells #[.slice a (len els) cap] 36)).alloc (.cells #[.int .i64 (d : Nat)] 3) = V := ⟨_, rfl⟩
  rw [hV]
  have HVE : Hid (V.heap[bE]? = some (.cells #[.slice a (len els) cap] 36 (0, 0))) := Lib.hid (by rw [← hV]; exact block_alloc (alloc_new_at _ hbE) _)
  have HVD : Hid (V.heap[bD]? = some (.cells #[.int .i64 (d : Nat)] 3 (0, 0))) := Lib.hid (by rw [← hV]; exact alloc_new_at _ (by rw [alloc_size _ rfl]; exact hbD))
  have HVW : Hid (Below w.heap.size w V) := Lib.hid (by rw [← hV]; exact balloc (balloc (Below.refl _ _) _) _)
  clear hV hbE hbD
  refine (hash_any noneT [] none 0 V (by decide) (by decide) (Txts.nil _ _) (by decide)).mono ?_
  rintro e w2 ⟨rfl, hb2⟩
  have H2E : Hid (w2.heap[bE]? = some (.cells #[.slice a (len els) cap] 36 (0, 0))) := Lib.hid ((hb2.block _ (lt_of_block HVE.out)).trans HVE.out)
  have H2D : Hid (w2.heap[bD]? = some (.cells #[.int .i64 (d : Nat)] 3 (0, 0))) := Lib.hid ((hb2.block _ (lt_of_block HVD.out)).trans HVD.out)
  have H2W : Hid (Below w.heap.size w w2) := Lib.hid (bnext HVW.out hb2)
  obtain ⟨Hn, hHn⟩ : ∃ Hn, hashP noneT [] = Hn := ⟨_, rfl⟩
  rw [hHn]
  have HHN := Lib.hid hHn
  clear hb2 hHn HVE HVD HVW
  go_upto_region 7 with fail
  obtain ⟨nb, hnb⟩ : ∃ nb, w2.heap.size = nb := ⟨_, rfl⟩
  obtain ⟨bN, hbN⟩ : ∃ bN, w2.heap.size + 1 = bN := ⟨_, rfl⟩
  obtain ⟨bF, hbF⟩ : ∃ bF, w2.heap.size + 1 + 1 = bF := ⟨_, rfl⟩
  rw [hbF, hbN, hnb]
  obtain ⟨U, hU⟩ : ∃ U, (((w2.alloc (.cells #[.string Hn, .pointer none, .pointer none] 118)).alloc (.cells #[.pointer (some ⟨nb, 0, none⟩)] 115)).alloc (.cells #[.func (.func 91) #[] #[.pointer (some ⟨bF, 0, none⟩), .pointer (some ⟨bD, 0, none⟩), .pointer (some ⟨bE, 0, none⟩), .pointer (some ⟨bN, 0, none⟩)]] 119)) = U := ⟨_, rfl⟩
  rw [hU]
  have HEN : Hid (EnvT els d bF bD bE bN nb a cap U) := Lib.hid (by
    have hbw : Below w.heap.size w U := by rw [← hU]; exact balloc (balloc (balloc H2W.out _) _) _
    refine ⟨?_, ?_, ?_, ?_, ?_, HT.out.below hbw⟩
    · rw [← hU]; exact alloc_new_at _ (by rw [alloc_size _ (alloc_size _ rfl)]; exact hbF)
    · rw [← hU]; exact block_alloc (block_alloc (block_alloc H2D.out _) _) _
    · rw [← hU]; exact block_alloc (block_alloc (block_alloc H2E.out _) _) _
    · rw [← hU]; exact block_alloc (alloc_new_at _ (by rw [alloc_size _ rfl]; exact hbN)) _
    · rw [← hU, HHN.out]; exact block_alloc (block_alloc (alloc_new_at _ hnb) _) _)
  have HUW : Hid (Below w.heap.size w U) := Lib.hid (by rw [← hU]; exact balloc (balloc (balloc H2W.out _) _) _)
  have HVS : Hid (w.heap.size ≤ U.heap.size) := Lib.hid HUW.out.size
  have HA : Hid (∀ wv : World, Below U.heap.size U wv → Calls Tryz.prog 91 #[.int .i64 (d : Nat), .int .u64 0, .pointer (some ⟨bF, 0, none⟩), .pointer (some ⟨bD, 0, none⟩), .pointer (some ⟨bE, 0, none⟩), .pointer (some ⟨bN, 0, none⟩)] wv (AtIs els d d 0 wv)) := Lib.hid (fun wv hb => at_any els d bF bD bE bN nb a cap HD16.out HN.out HZ.out d 0 wv (Nat.le_refl _) (Nat.two_pow_pos _) (HEN.out.below hb))
  have cf : U.cell? ⟨bF, 0, none⟩ = some (.func (.func 91) #[] #[.pointer (some ⟨bF, 0, none⟩), .pointer (some ⟨bD, 0, none⟩), .pointer (some ⟨bE, 0, none⟩), .pointer (some ⟨bN, 0, none⟩)]) := by rw [block_cell HEN.out.f]; rfl
  have cd : U.cell? ⟨bD, 0, none⟩ = some (.int .i64 (d : Nat)) := by rw [block_cell HEN.out.d]; rfl
  have ce : U.cell? ⟨bE, 0, none⟩ = some (.slice a (len els) cap) := by rw [block_cell HEN.out.e]; rfl
  clear hU hnb hbN hbF H2D H2E H2W
  refine wp_region_tail 8 1000 (none) (phis [fun u _ => u = (.func (.func 91) #[] #[.pointer (some ⟨bF, 0, none⟩), .pointer (some ⟨bD, 0, none⟩), .pointer (some ⟨bE, 0, none⟩), .pointer (some ⟨bN, 0, none⟩)]), fun u _ => u = (.int .i64 (d : Nat)), fun u w' => ∃ g, u = .pointer (some ⟨g, 0, none⟩) ∧ PlaceIs els d d 0 g w', fun u _ => u = (.int .i64 (d : Nat)), fun u _ => u = (.slice a (len els) cap), fun u _ => u = (.int .i64 (len els)), fun u w' => ∃ g, u = .agg #[.pointer (some ⟨g, 0, none⟩), .int .i64 (d : Nat), .int .i64 (len els)] ∧ PlaceIs els d d 0 g w', fun u w' => ∃ b, u = .pointer (some ⟨b, 0, none⟩) ∧ w.heap.size ≤ b ∧ TreeAt els b w']) rfl (by kernel_rfl) (by kernel_rfl) (mono_of ⟨mono_eq, mono_eq, ?m2, mono_eq, mono_eq, mono_eq, ?m6, ?m7, trivial⟩) (steps_of 8 ⟨?s0, ?s1, ?s2, ?s3, ?s4, ?s5, ?s6, ?s7, trivial⟩) ?_
  case m2 =>
    exact ⟨fun u w1 w' h ⟨b, h1, hb⟩ => ⟨b, h1, hb.ext h⟩, fun _ u w1 w' h ⟨b, h1, hb⟩ => ⟨b, h1, hb.extB h⟩⟩
  case m6 =>
    exact ⟨fun u w1 w' h ⟨b, h1, hb⟩ => ⟨b, h1, hb.ext h⟩, fun _ u w1 w' h ⟨b, h1, hb⟩ => ⟨b, h1, hb.extB h⟩⟩
  case m7 =>
    exact ⟨fun u w1 w' h ⟨b, h1, h2, hb⟩ => ⟨b, h1, h2, hb.below h⟩, fun _ u w1 w' h ⟨b, h1, h2, hb⟩ => ⟨b, h1, h2, hb.below (extB_none h)⟩⟩
  case s0 =>
    refine step_val (v := (.func (.func 91) #[] #[.pointer (some ⟨bF, 0, none⟩), .pointer (some ⟨bD, 0, none⟩), .pointer (some ⟨bE, 0, none⟩), .pointer (some ⟨bN, 0, none⟩)])) (fun av wv hE hS hO hD => ?_) (fun _ => rfl)
    have h6 : av.eval (.tmp 6) = (.pointer (some ⟨bF, 0, none⟩)) := hO.2.2 6 rfl
    have f6 := (ev_form av 6).symm.trans h6
    have cf := extB_cell hE (by simp) cf
    have cd := extB_cell hE (by simp) cd
    have ce := extB_cell hE (by simp) ce
    refine ⟨rfl, ?_⟩
    simp [go_sem, f6, cf, cd, ce]
  case s1 =>
    refine step_val (v := (.int .i64 (d : Nat))) (fun av wv hE hS hO hD => ?_) (fun _ => rfl)
    have h4 : av.eval (.tmp 4) = (.pointer (some ⟨bD, 0, none⟩)) := hO.2.2 4 rfl
    have f4 := (ev_form av 4).symm.trans h4
    have cf := extB_cell hE (by simp) cf
    have cd := extB_cell hE (by simp) cd
    have ce := extB_cell hE (by simp) ce
    refine ⟨rfl, ?_⟩
    simp [go_sem, f4, cf, cd, ce]
  case s2 =>
    refine step_wp (fun av wv hE hS hO hD => ?_)
    have d17 : av.eval (.tmp 17) = (.func (.func 91) #[] #[.pointer (some ⟨bF, 0, none⟩), .pointer (some ⟨bD, 0, none⟩), .pointer (some ⟨bE, 0, none⟩), .pointer (some ⟨bN, 0, none⟩)]) := hD.1 rfl _ rfl
    have f17 := (ev_form av 17).symm.trans d17
    have d18 : av.eval (.tmp 18) = (.int .i64 (d : Nat)) := hD.2.1 rfl _ rfl
    have f18 := (ev_form av 18).symm.trans d18
    refine ⟨rfl, ?_⟩
    refine wp_of_callV (R := fun u w2 => (∃ g, u = .pointer (some ⟨g, 0, none⟩) ∧ PlaceIs els d d 0 g w2) ∧ Below wv.heap.size wv w2) (f := 91) (args := #[.int .i64 (d : Nat), .int .u64 0, .pointer (some ⟨bF, 0, none⟩), .pointer (some ⟨bD, 0, none⟩), .pointer (some ⟨bE, 0, none⟩), .pointer (some ⟨bN, 0, none⟩)]) (by simp [go_sem, f17, f18]) ((HA.out wv (of_drew hE)).mono (fun e w2 ⟨g, h1, h2, h3⟩ => ⟨_, h1, ⟨g, rfl, h2⟩, h3⟩)) (fun u w2 ⟨h1, h2⟩ => ⟨_, rfl, es_of_ext h2, h1⟩)
  case s3 =>
    refine step_val (v := (.int .i64 (d : Nat))) (fun av wv hE hS hO hD => ?_) (fun _ => rfl)
    have h4 : av.eval (.tmp 4) = (.pointer (some ⟨bD, 0, none⟩)) := hO.2.2 4 rfl
    have f4 := (ev_form av 4).symm.trans h4
    have cf := extB_cell hE (by simp) cf
    have cd := extB_cell hE (by simp) cd
    have ce := extB_cell hE (by simp) ce
    refine ⟨rfl, ?_⟩
    simp [go_sem, f4, cf, cd, ce]
  case s4 =>
    refine step_val (v := (.slice a (len els) cap)) (fun av wv hE hS hO hD => ?_) (fun _ => rfl)
    have h1 : av.eval (.tmp 1) = (.pointer (some ⟨bE, 0, none⟩)) := hO.2.2 1 rfl
    have f1 := (ev_form av 1).symm.trans h1
    have cf := extB_cell hE (by simp) cf
    have cd := extB_cell hE (by simp) cd
    have ce := extB_cell hE (by simp) ce
    refine ⟨rfl, ?_⟩
    simp [go_sem, f1, cf, cd, ce]
  case s5 =>
    refine step_val (v := (.int .i64 (len els))) (fun av wv hE hS hO hD => ?_) (fun _ => rfl)
    have d21 : av.eval (.tmp 21) = (.slice a (len els) cap) := hD.1 rfl _ rfl
    have f21 := (ev_form av 21).symm.trans d21
    refine ⟨rfl, ?_⟩
    simp [go_sem, f21]
  case s6 =>
    refine step_wp (fun av wv hE hS hO hD => ?_)
    have d19 : (fun u w' => ∃ g, u = .pointer (some ⟨g, 0, none⟩) ∧ PlaceIs els d d 0 g w') (av.eval (.tmp 19)) wv := hD.1 rfl _ rfl
    have d20 : av.eval (.tmp 20) = (.int .i64 (d : Nat)) := hD.2.1 rfl _ rfl
    have f20 := (ev_form av 20).symm.trans d20
    have d22 : av.eval (.tmp 22) = (.int .i64 (len els)) := hD.2.2.1 rfl _ rfl
    have f22 := (ev_form av 22).symm.trans d22
    refine ⟨rfl, ?_⟩
    obtain ⟨g, h19, hg⟩ := d19
    have f19 := (ev_form av 19).symm.trans h19
    exact wp_of_run (v := .agg #[.pointer (some ⟨g, 0, none⟩), .int .i64 (d : Nat), .int .i64 (len els)]) (by simp [go_sem, f19, f20, f22]) ⟨_, rfl, es_of_ext (Ext_refl _), g, rfl, hg⟩
  case s7 =>
    refine step_wp (fun av wv hE hS hO hD => ?_)
    have d23 : (fun u w' => ∃ g, u = .agg #[.pointer (some ⟨g, 0, none⟩), .int .i64 (d : Nat), .int .i64 (len els)] ∧ PlaceIs els d d 0 g w') (av.eval (.tmp 23)) wv := hD.1 rfl _ rfl
    refine ⟨rfl, ?_⟩
    obtain ⟨g, h23, hg⟩ := d23
    have f23 := (ev_form av 23).symm.trans h23
    refine wp_of_run (v := .pointer (some ⟨wv.heap.size, 0, none⟩)) (w' := wv.alloc (.cells #[.pointer (some ⟨g, 0, none⟩), .int .i64 (d : Nat), .int .i64 (len els)] 124)) (by simp [go_sem, f23]) ⟨_, rfl, es_of_ext (balloc (Ext_refl _) _), wv.heap.size, rfl, (by have := hE.size; have := HVS.out; simp at *; omega), g, ?_, ?_⟩
    · rw [HDD.out]; exact heap_alloc_new _ _
    · rw [HDD.out]; exact hg.below (balloc (Below.refl _ _) _)
  intro a' w' hE hO hall
  have hA := act_of_outer (ds := [17, 18, 19, 20, 21, 22, 23, 24]) rfl hO (by kernel_rfl)
  have e17 : (fun u _ => u = (.func (.func 91) #[] #[.pointer (some ⟨bF, 0, none⟩), .pointer (some ⟨bD, 0, none⟩), .pointer (some ⟨bE, 0, none⟩), .pointer (some ⟨bN, 0, none⟩)])) (a'.eval (.tmp 17)) w' := hall.1 _ rfl
  have e18 : (fun u _ => u = (.int .i64 (d : Nat))) (a'.eval (.tmp 18)) w' := hall.2.1 _ rfl
  have e19 : (fun u w' => ∃ g, u = .pointer (some ⟨g, 0, none⟩) ∧ PlaceIs els d d 0 g w') (a'.eval (.tmp 19)) w' := hall.2.2.1 _ rfl
  have e20 : (fun u _ => u = (.int .i64 (d : Nat))) (a'.eval (.tmp 20)) w' := hall.2.2.2.1 _ rfl
  have e21 : (fun u _ => u = (.slice a (len els) cap)) (a'.eval (.tmp 21)) w' := hall.2.2.2.2.1 _ rfl
  have e22 : (fun u _ => u = (.int .i64 (len els))) (a'.eval (.tmp 22)) w' := hall.2.2.2.2.2.1 _ rfl
  have e23 : (fun u w' => ∃ g, u = .agg #[.pointer (some ⟨g, 0, none⟩), .int .i64 (d : Nat), .int .i64 (len els)] ∧ PlaceIs els d d 0 g w') (a'.eval (.tmp 23)) w' := hall.2.2.2.2.2.2.1 _ rfl
  have e24 : (fun u w' => ∃ b, u = .pointer (some ⟨b, 0, none⟩) ∧ w.heap.size ≤ b ∧ TreeAt els b w') (a'.eval (.tmp 24)) w' := hall.2.2.2.2.2.2.2.1 _ rfl
  obtain ⟨v19, hv19⟩ : ∃ v, a'.eval (.tmp 19) = v := ⟨_, rfl⟩
  rw [hv19] at e19
  obtain ⟨v23, hv23⟩ : ∃ v, a'.eval (.tmp 23) = v := ⟨_, rfl⟩
  rw [hv23] at e23
  obtain ⟨v24, hv24⟩ : ∃ v, a'.eval (.tmp 24) = v := ⟨_, rfl⟩
  rw [hv24] at e24
  simp only [List.foldl_cons, List.foldl_nil, Act.put, List.setIfInBounds_toArray, List.set_cons_succ, List.set_cons_zero, e17, e18, hv19, e20, e21, e22, hv23, hv24] at hA
  clear hO hall e17 e18 hv19 e20 e21 e22 hv23 hv24
  subst hA
  obtain ⟨g, rfl, hg, ht⟩ := e24
  have HG : Hid (w.heap.size ≤ g) := Lib.hid hg
  have HT2 := Lib.hid ht
  have HW : Hid (Below w.heap.size w w') := Lib.hid (bnext HUW.out (of_drew hE))
  clear hg ht hE e19 e23
  go_wp2
  go_ret2
  exact ⟨g, rfl, HG.out, HT2.out, HW.out⟩
theorem root_any (els : List ByteArray) (b : Nat) (w : World) (h : TreeAt els b w) : Calls Tryz.prog 43 #[.pointer (some ⟨b, 0, none⟩)] w fun e w' => e = .returned (.string (plD els (depN els) (depN els) 0)) ∧ w = w' := by
  obtain ⟨p, h1, h2⟩ := h
  have c0 : w.cell? ⟨b, 0, none⟩ = some (.pointer (some ⟨p, 0, none⟩)) := by rw [block_cell h1]; rfl
  have c1 := h2.digest
  clear h1 h2
  go_enter Tryz.func43, Tryz.ntmps43
  go_wp2
  go_ret
  exact ⟨rfl, rfl⟩
theorem tdepth_any (els : List ByteArray) (b : Nat) (w : World) (h : TreeAt els b w) : Calls Tryz.prog 66 #[.pointer (some ⟨b, 0, none⟩)] w fun e w' => e = .returned (.int .i64 (depN els : Nat)) ∧ w = w' := by
  obtain ⟨p, h1, h2⟩ := h
  have c0 : w.cell? ⟨b, 1, none⟩ = some (.int .i64 (depN els : Nat)) := by rw [block_cell h1]; rfl
  clear h1 h2
  go_enter Tryz.func66, Tryz.ntmps66
  go_wp2
  go_ret
  exact ⟨rfl, rfl⟩
theorem tlen_any (els : List ByteArray) (b : Nat) (w : World) (h : TreeAt els b w) : Calls Tryz.prog 99 #[.pointer (some ⟨b, 0, none⟩)] w fun e w' => e = .returned (.int .i64 (len els : Nat)) ∧ w = w' := by
  obtain ⟨p, h1, h2⟩ := h
  have c0 : w.cell? ⟨b, 2, none⟩ = some (.int .i64 (len els : Nat)) := by rw [block_cell h1]; rfl
  clear h1 h2
  go_enter Tryz.func99, Tryz.ntmps99
  go_wp2
  go_ret
  exact ⟨rfl, rfl⟩
end Go.Proofs.YtpobhbdomldecaaGreatDoor
namespace Go.Proofs.YtpobhbdomldecaaGreatDoor
open Go.RowKit
set_option linter.unusedSimpArgs false
set_option linter.unusedVariables false
theorem mem_flatFrom : ∀ (s : Nat) (rs : List (List Int)) (x : Int × Int), x ∈ flatFrom s rs → ∃ j, j < rs.length ∧ ∃ k ∈ rnth rs j, x = (((s + j : Nat) : Int), k)
  | _, [], x, h => by simp [flatFrom] at h
  | s, r :: rs, x, h => by
    rw [flatFrom, List.mem_append] at h
    rcases h with h | h
    · obtain ⟨k, hk, rfl⟩ := List.mem_map.1 h
      exact ⟨0, by simp, k, by simpa [rnth] using hk, rfl⟩
    · obtain ⟨j, hj, k, hk, rfl⟩ := mem_flatFrom (s + 1) rs x h
      refine ⟨j + 1, by simp; omega, k, by simpa [rnth] using hk, ?_⟩
      rw [show s + 1 + j = s + (j + 1) by omega]
theorem sib_bd {k : Int} {e : Nat} (h0 : 0 ≤ k) (h1 : k < 2 ^ (e + 1)) : 0 ≤ sib k ∧ sib k < 2 ^ (e + 1) := by
  have h2 : (2 : Int) ^ (e + 1) = 2 * 2 ^ e := by rw [Int.pow_succ]; omega
  rw [h2] at h1 ⊢
  generalize (2 : Int) ^ e = p at h1 ⊢
  unfold sib
  split <;> omega
theorem half_bd {y : Int} {d i : Nat} (h0 : 0 ≤ y) (h1 : y < 2 ^ d) (hi : i ≤ d) : 0 ≤ y / 2 ^ i ∧ y / 2 ^ i < 2 ^ (d - i) := by
  obtain ⟨n, rfl⟩ := Int.eq_ofNat_of_zero_le h0
  rw [pow_cast] at h1
  have h3 : n < 2 ^ d := by exact_mod_cast h1
  have h4 : n / 2 ^ i < 2 ^ (d - i) := by
    apply Nat.div_lt_of_lt_mul
    rw [← Nat.pow_add, show i + (d - i) = d by omega]
    exact h3
  rw [pow_cast, pow_cast]
  constructor
  · exact Int.ediv_nonneg h0 (Int.natCast_nonneg _)
  · exact_mod_cast h4
theorem plc_bd {leaves : List Int} {d : Nat} (hd : d ≤ 16) (h : ∀ y ∈ leaves, 0 ≤ y ∧ y < 2 ^ d) : ∀ x ∈ flatLv (needsL leaves (d : Nat)), ∃ i k : Nat, x = ((i : Int), (k : Int)) ∧ i < d ∧ k < 2 ^ (d - i) := by
  intro x hx
  obtain ⟨i, hi, k, hk, rfl⟩ := mem_flatFrom 0 _ x hx
  unfold needsL at hi hk
  split at hi
  · rename_i hc
    rw [if_pos hc, Int.toNat_natCast] at hk
    rw [Int.toNat_natCast] at hi
    unfold rowsOf at hi hk
    rw [List.length_map, List.length_range] at hi
    rw [rnth_eq _ i (by simpa using hi)] at hk
    simp only [List.getElem_map, List.getElem_range] at hk
    unfold rowK at hk
    rw [srt_mem, needK_mem] at hk
    obtain ⟨⟨j, hj, rfl⟩, _⟩ := hk
    rw [(insAll_all _).2.1, List.mem_map] at hj
    obtain ⟨y, hy, rfl⟩ := hj
    have h1 := half_bd (h y hy).1 (h y hy).2 (Nat.le_of_lt hi)
    obtain ⟨e, he⟩ : ∃ e, d - i = e + 1 := ⟨d - i - 1, by omega⟩
    rw [he] at h1
    have h2 := sib_bd h1.1 h1.2
    refine ⟨i, (sib (y / 2 ^ i)).toNat, ?_, hi, ?_⟩
    · rw [Int.toNat_of_nonneg h2.1, Nat.zero_add]
    · rw [he]
      have h3 := h2.2
      rw [pow_cast] at h3
      exact (Int.toNat_lt h2.1).2 h3
  · simp at hi
theorem leaves_in {l : List Int} {d : Nat} (hd : d ≤ 16) : ∀ y ∈ leavesL l (d : Nat), 0 ≤ y ∧ y < 2 ^ d := by
  intro y hy
  obtain ⟨k, _, rfl⟩ := List.mem_map.1 hy
  unfold turnedZ
  split
  · have := revOf_lt k.toNat ((d : Nat) : Int).toNat
    rw [Int.toNat_natCast] at this ⊢
    rw [pow_cast]
    omega
  · rw [pow_cast]
    have := Nat.two_pow_pos d
    omega
def dgsL (els : List ByteArray) (L : List (Int × Int)) : List ByteArray := L.map fun x => plD els (depN els) x.1.toNat x.2.toNat
theorem dgsL_snoc (els : List ByteArray) (L : List (Int × Int)) (x : Int × Int) : dgsL els (L ++ [x]) = dgsL els L ++ [plD els (depN els) x.1.toNat x.2.toNat] := by unfold dgsL; rw [List.map_append]; rfl
end Go.Proofs.YtpobhbdomldecaaGreatDoor
namespace Go.Proofs.YtpobhbdomldecaaGreatDoor
open Go.RowKit
set_option linter.unusedSimpArgs false
set_option linter.unusedVariables false
set_option maxRecDepth 100000 in
set_option maxHeartbeats 4000000 in
theorem tat_any (els : List ByteArray) (b l k : Nat) (w : World) (h : TreeAt els b w) (hn : len els ≤ 65536) (hl : l ≤ depN els) (hk : k < 2 ^ (depN els - l)) :
    Calls Tryz.prog 100 #[.pointer (some ⟨b, 0, none⟩), .int .i64 (l : Nat), .int .u64 (k : Nat)] w fun e w' => e = .returned (.tuple #[.string (plD els (depN els) l k), .bool true]) ∧ Below w.heap.size w w' := by
  obtain ⟨p0, h1, h2⟩ := h
  have hd16 := depN_le hn
  obtain ⟨d, hd⟩ : ∃ d, depN els = d := ⟨_, rfl⟩
  rw [hd] at h1 h2 hl hk hd16 ⊢
  have c0 : w.cell? ⟨b, 0, none⟩ = some (.pointer (some ⟨p0, 0, none⟩)) := by rw [block_cell h1]; rfl
  have c1 : w.cell? ⟨b, 1, none⟩ = some (.int .i64 (d : Nat)) := by rw [block_cell h1]; rfl
  have HP : Hid (PlaceIs els d (l + (d - l)) (k / 2 ^ (d - l)) p0 w) := Lib.hid (by rw [Nat.div_eq_of_lt hk, show l + (d - l) = d by omega]; exact h2)
  have HK : Hid (k < 65536) := Lib.hid (Nat.lt_of_lt_of_le hk (pow_le16 (by omega)))
  have a2 : ¬ ((d : Nat) : Int) < ((l : Nat) : Int) := by omega
  obtain ⟨e, he⟩ : ∃ e, d - l = e := ⟨_, rfl⟩
  rw [he] at HP hk
  have a3 : IntKind.i64.wrap ((d : Int) - (l : Int)) = ((e : Nat) : Int) := by rw [IntWalk.i64_in _ (by omega)]; omega
  have a5 : ¬ (e : Int) < 0 := by omega
  have a4 : ((k : Nat) : Int) / 2 ^ e = 0 := by
    rw [pow_cast]
    have : k / 2 ^ e = 0 := Nat.div_eq_of_lt hk
    exact_mod_cast this
  have a6 : IntKind.i64.wrap ((e : Int) - 1) = (e : Int) - 1 := IntWalk.i64_in _ (by omega)
  have a1 : ¬ ((l : Nat) : Int) < 0 := by omega
  have a7 : min e 64 = e := by omega
  have HE : Hid (e ≤ 16) := Lib.hid (by omega)
  clear h1 h2 hd hk he hl hd16
  go_enter Tryz.func100, Tryz.ntmps100
  go_upto_region 5 with fail
  clear c0 c1 a1 a2 a3 a4 a5 a6 a7
  go_loopg [9, 8] e (fun g i p wr => ∃ (t q : Nat), g = t ∧ i = .int .i64 ((t : Int) - 1) ∧ p = .pointer (some ⟨q, 0, none⟩) ∧ t ≤ 16 ∧ Hid (PlaceIs els d (l + t) (k / 2 ^ t) q wr) ∧ Hid (Below w.heap.size w wr))
  case atStart => exact ⟨e, p0, rfl, rfl, rfl, HE.out, HP, Lib.hid (Below.refl _ _)⟩
  case round =>
    clear HP
    obtain ⟨t, q, hgt, rfl, rfl, ht, HP, HW⟩ := hrel
    have HGT := Lib.hid hgt
    clear hgt
    cases t with
    | zero =>
      have i1 : ¬ (0 : Int) ≤ ((0 : Nat) : Int) - 1 := by decide
      have cq : wr.cell? ⟨q, 0, none⟩ = some (.string (plD els d l k)) := by
        have := HP.out.digest
        rwa [Nat.add_zero, Nat.pow_zero, Nat.div_one] at this
      go_wp2
      go_ret2
      exact ⟨rfl, HW.out⟩
    | succ t =>
      rw [show ((t + 1 : Nat) : Int) - 1 = ((t : Nat) : Int) by omega]
      have i1 : (0 : Int) ≤ ((t : Nat) : Int) := by omega
      obtain ⟨W, hW⟩ : ∃ W, wr = W := ⟨_, rfl⟩
      rw [hW] at HP HW ⊢
      clear hW
      obtain ⟨b0, b1, hn9, h0, h1⟩ := HP.out
      obtain ⟨x, hx⟩ : ∃ x, k / 2 ^ t = x := ⟨_, rfl⟩
      obtain ⟨y, hy⟩ : ∃ y, x % 2 = y := ⟨_, rfl⟩
      have hxx : k / 2 ^ (t + 1) = x / 2 := by rw [← hx, Nat.div_div_eq_div_mul, Nat.pow_succ]
      have hx6 : x < 65536 := by rw [← hx]; exact Nat.lt_of_le_of_lt (Nat.div_le_self _ _) HK.out
      rw [hxx] at h0 h1
      obtain ⟨q2, hq2⟩ : ∃ q2, (if y = 0 then b0 else b1) = q2 := ⟨_, rfl⟩
      have cq : W.cell? ⟨q, 1 + y, none⟩ = some (.pointer (some ⟨q2, 0, none⟩)) := by
        rw [block_cell hn9, ← hq2]
        by_cases hy0 : y = 0
        · rw [if_pos hy0, hy0]; rfl
        · rw [if_neg hy0, show y = 1 by omega]; rfl
      have HP2 : Hid (PlaceIs els d (l + t) (k / 2 ^ t) q2 W) := Lib.hid (by
        rw [hx, ← hq2]
        by_cases hy0 : y = 0
        · rw [if_pos hy0, show x = 2 * (x / 2) by omega]; exact h0
        · rw [if_neg hy0, show x = 2 * (x / 2) + 1 by omega]; exact h1)
      have s1 : min t 64 = t := by omega
      have s2 : ((k : Nat) : Int) / 2 ^ t = ((x : Nat) : Int) := by rw [pow_cast, ← hx]; rfl
      have s3 : bits .and .u64 ((x : Nat) : Int) 1 = ((y : Nat) : Int) := by
        rw [show (1 : Int) = ((1 : Nat) : Int) from rfl, u64_and_nat _ _ (by omega) (by omega), Nat.and_one_is_mod, hy]
      have s4 : ¬ (2 : Int) ≤ ((y : Nat) : Int) := by omega
      have s5 : ¬ ((t : Nat) : Int) < 0 := by omega
      clear hx hy hxx hx6 hn9 h0 h1 hq2
      go_upto_region 7 with fail
      refine wp_region_tail 9 1000 (none) (phis [fun u _ => u = (.pointer (some ⟨q, 0, none⟩)), fun u _ => u = (.int .u64 (k : Nat)), fun u _ => u = (.int .i64 (t : Nat)), fun u _ => u = (.int .u64 (x : Nat)), fun u _ => u = (.int .u64 (y : Nat)), fun u _ => u = (.pointer (some ⟨q, 0, none⟩)), fun u _ => u = (.pointer (some ⟨q, 1, none⟩)), fun u _ => u = (.pointer (some ⟨q, 1 + y, none⟩)), fun u _ => u = (.pointer (some ⟨q2, 0, none⟩))]) rfl (by kernel_rfl) (by kernel_rfl) (mono_of ⟨mono_eq, mono_eq, mono_eq, mono_eq, mono_eq, mono_eq, mono_eq, mono_eq, mono_eq, trivial⟩) (steps_of 9 ⟨?s0, ?s1, ?s2, ?s3, ?s4, ?s5, ?s6, ?s7, ?s8, trivial⟩) ?_
      case s0 =>
        refine step_val (v := (.pointer (some ⟨q, 0, none⟩))) (fun av wv hE hS hO hD => ?_) (fun _ => rfl)
        have h8 : av.eval (.tmp 8) = (.pointer (some ⟨q, 0, none⟩)) := hO.2.2 8 rfl
        have f8 := (ev_form av 8).symm.trans h8
        refine ⟨rfl, ?_⟩
        simp [go_sem, f8, s1, s2, s3, s4, s5]
      case s1 =>
        refine step_val (v := (.int .u64 (k : Nat))) (fun av wv hE hS hO hD => ?_) (fun _ => rfl)
        have h2 : av.eval (.tmp 2) = (.int .u64 (k : Nat)) := hO.2.2 2 rfl
        have f2 := (ev_form av 2).symm.trans h2
        refine ⟨rfl, ?_⟩
        simp [go_sem, f2, s1, s2, s3, s4, s5]
      case s2 =>
        refine step_val (v := (.int .i64 (t : Nat))) (fun av wv hE hS hO hD => ?_) (fun _ => rfl)
        have h9 : av.eval (.tmp 9) = (.int .i64 (t : Nat)) := hO.2.2 9 rfl
        have f9 := (ev_form av 9).symm.trans h9
        refine ⟨rfl, ?_⟩
        simp [go_sem, f9, s1, s2, s3, s4, s5]
      case s3 =>
        refine step_val (v := (.int .u64 (x : Nat))) (fun av wv hE hS hO hD => ?_) (fun _ => rfl)
        have d51 : av.eval (.tmp 51) = (.int .u64 (k : Nat)) := hD.1 rfl _ rfl
        have f51 := (ev_form av 51).symm.trans d51
        have d52 : av.eval (.tmp 52) = (.int .i64 (t : Nat)) := hD.2.1 rfl _ rfl
        have f52 := (ev_form av 52).symm.trans d52
        refine ⟨rfl, ?_⟩
        simp [go_sem, f51, f52, s1, s2, s3, s4, s5]
      case s4 =>
        refine step_val (v := (.int .u64 (y : Nat))) (fun av wv hE hS hO hD => ?_) (fun _ => rfl)
        have d53 : av.eval (.tmp 53) = (.int .u64 (x : Nat)) := hD.1 rfl _ rfl
        have f53 := (ev_form av 53).symm.trans d53
        refine ⟨rfl, ?_⟩
        simp [go_sem, f53, s1, s2, s3, s4, s5]
      case s5 =>
        refine step_val (v := (.pointer (some ⟨q, 0, none⟩))) (fun av wv hE hS hO hD => ?_) (fun _ => rfl)
        have d50 : av.eval (.tmp 50) = (.pointer (some ⟨q, 0, none⟩)) := hD.1 rfl _ rfl
        have f50 := (ev_form av 50).symm.trans d50
        refine ⟨rfl, ?_⟩
        simp [go_sem, f50, s1, s2, s3, s4, s5]
      case s6 =>
        refine step_val (v := (.pointer (some ⟨q, 1, none⟩))) (fun av wv hE hS hO hD => ?_) (fun _ => rfl)
        have d55 : av.eval (.tmp 55) = (.pointer (some ⟨q, 0, none⟩)) := hD.1 rfl _ rfl
        have f55 := (ev_form av 55).symm.trans d55
        refine ⟨rfl, ?_⟩
        simp [go_sem, f55, s1, s2, s3, s4, s5]
      case s7 =>
        refine step_val (v := (.pointer (some ⟨q, 1 + y, none⟩))) (fun av wv hE hS hO hD => ?_) (fun _ => rfl)
        have d56 : av.eval (.tmp 56) = (.pointer (some ⟨q, 1, none⟩)) := hD.1 rfl _ rfl
        have f56 := (ev_form av 56).symm.trans d56
        have d54 : av.eval (.tmp 54) = (.int .u64 (y : Nat)) := hD.2.1 rfl _ rfl
        have f54 := (ev_form av 54).symm.trans d54
        refine ⟨rfl, ?_⟩
        simp [go_sem, f56, f54, s1, s2, s3, s4, s5]
      case s8 =>
        refine step_val (v := (.pointer (some ⟨q2, 0, none⟩))) (fun av wv hE hS hO hD => ?_) (fun _ => rfl)
        have d57 : av.eval (.tmp 57) = (.pointer (some ⟨q, 1 + y, none⟩)) := hD.1 rfl _ rfl
        have f57 := (ev_form av 57).symm.trans d57
        have cq := extB_cell hE (by simp) cq
        refine ⟨rfl, ?_⟩
        simp [go_sem, f57, cq, s1, s2, s3, s4, s5]
      intro a' w' hE hO hall
      have hA := act_of_outer (ds := [50, 51, 52, 53, 54, 55, 56, 57, 58]) rfl hO (by kernel_rfl)
      have e50 : (fun u _ => u = (.pointer (some ⟨q, 0, none⟩))) (a'.eval (.tmp 50)) w' := hall.1 _ rfl
      have e51 : (fun u _ => u = (.int .u64 (k : Nat))) (a'.eval (.tmp 51)) w' := hall.2.1 _ rfl
      have e52 : (fun u _ => u = (.int .i64 (t : Nat))) (a'.eval (.tmp 52)) w' := hall.2.2.1 _ rfl
      have e53 : (fun u _ => u = (.int .u64 (x : Nat))) (a'.eval (.tmp 53)) w' := hall.2.2.2.1 _ rfl
      have e54 : (fun u _ => u = (.int .u64 (y : Nat))) (a'.eval (.tmp 54)) w' := hall.2.2.2.2.1 _ rfl
      have e55 : (fun u _ => u = (.pointer (some ⟨q, 0, none⟩))) (a'.eval (.tmp 55)) w' := hall.2.2.2.2.2.1 _ rfl
      have e56 : (fun u _ => u = (.pointer (some ⟨q, 1, none⟩))) (a'.eval (.tmp 56)) w' := hall.2.2.2.2.2.2.1 _ rfl
      have e57 : (fun u _ => u = (.pointer (some ⟨q, 1 + y, none⟩))) (a'.eval (.tmp 57)) w' := hall.2.2.2.2.2.2.2.1 _ rfl
      have e58 : (fun u _ => u = (.pointer (some ⟨q2, 0, none⟩))) (a'.eval (.tmp 58)) w' := hall.2.2.2.2.2.2.2.2.1 _ rfl
      simp only [List.foldl_cons, List.foldl_nil, Act.put, List.setIfInBounds_toArray, List.set_cons_succ, List.set_cons_zero, e50, e51, e52, e53, e54, e55, e56, e57, e58] at hA
      clear hO hall e50 e51 e52 e53 e54 e55 e56 e57 e58
      subst hA
      have HW2 : Hid (Below w.heap.size w w') := Lib.hid (bnext HW.out (of_drew hE))
      have HP3 : Hid (PlaceIs els d (l + t) (k / 2 ^ t) q2 w') := Lib.hid (HP2.out.below (of_drew hE))
      have a6 : IntKind.i64.wrap (((t : Nat) : Int) - 1) = ((t : Nat) : Int) - 1 := IntWalk.i64_in _ (by omega)
      clear hE cq s1 s2 s3 s4 s5
      go_wp2
      go_roundg t
      case rel => exact ⟨t, q2, rfl, rfl, rfl, by omega, HP3, HW2⟩
      case measure => have := HGT.out; omega
end Go.Proofs.YtpobhbdomldecaaGreatDoor
namespace Go.Proofs.YtpobhbdomldecaaGreatDoor
open Go.RowKit Go.ChangeMaps
set_option linter.unusedSimpArgs false
set_option linter.unusedVariables false
attribute [local go_sem] Oper.semAt_some
theorem info_str : (Tryz.prog.info? 9).map (fun i => (i.zero, i.size, i.bytes)) = some (some (.string ⟨#[]⟩), 1, 16) := by kernel_rfl
def ProofIs (l : List ByteArray) (er : Int) (w : World) (e : Ending) (w' : World) : Prop := ∃ v, e = .returned (.tuple #[v, .int .i64 er]) ∧ w'.ownsRow w.heap.size 9 1 v (len l) (l.map Value.string) ∧ Below w.heap.size w w'
theorem exists_sub {α : Type} (P : α → Prop) : ∀ (l : List α), (∀ x ∈ l, P x) → ∃ L : List { x // P x }, L.map Subtype.val = l
  | [], _ => ⟨[], rfl⟩
  | x :: l, h => by
    obtain ⟨L, hL⟩ := exists_sub P l (fun y hy => h y (List.mem_cons_of_mem _ hy))
    exact ⟨⟨x, h x List.mem_cons_self⟩ :: L, by rw [List.map_cons, hL]⟩
abbrev PlX (d : Nat) := { x : Int × Int // ∃ i k : Nat, x = ((i : Int), (k : Int)) ∧ i < d ∧ k < 2 ^ (d - i) }
theorem kpo_append {o base k : Nat} {W w4 : World} {tmp : Obj} {v v' : Value} {xs : List Value} (hrow : W.ownsRow base 9 1 v k xs) (hg : (W.alloc tmp).grownBy w4 v.ownBlock) : KpO o W (w4.setCell ⟨o, 0, none⟩ v') := by
  have hs := hg.size
  refine ⟨by simp at hs; simp [World.setCell]; omega, fun b cs t fr hb ht hc => ?_⟩
  have hlt := lt_of_block hc
  refine (Below.heap_setCell _ _ _ _ (fun e => hb e)).trans ?_
  refine (hg.block b (by simp; omega) (fun e => ?_)).trans (block_alloc hc _)
  rcases hrow.2 with ⟨rfl, _⟩ | ⟨g, cap, cur, rfl, _, hgb, _⟩
  · simp [Value.ownBlock] at e
  · simp [Value.ownBlock] at e
    subst e
    rw [hgb] at hc
    cases hc
    exact ht rfl
set_option maxRecDepth 100000 in
set_option maxHeartbeats 4000000 in
theorem prove_ok (els : List ByteArray) (b : Nat) (l : List Int) (a : Option Addr) (cap : Nat) (w : World) (ht : TreeAt els b w) (hn : len els ≤ 65536) (h : U64s w a l) (hl : len l ≤ 100) (hu : ∀ k ∈ l, U64 k) (hb : MayOk (len els : Nat) l) :
    Calls Tryz.prog 46 #[.pointer (some ⟨b, 0, none⟩), .slice a (len l) cap] w (ProofIs (dgsL els (plcL (len els : Nat) l)) 0 w) := by
  have HT := Lib.hid ht
  have HN := Lib.hid hn
  have HM := Lib.hid (mmay_any (len els : Nat) l a cap w h (by omega) (by omega) (by omega))
  rw [decide_eq_true hb] at HM
  have HLN := Lib.hid (tlen_any els b w ht)
  have H := Lib.hid h
  have HU := Lib.hid hu
  obtain ⟨d, hd⟩ : ∃ d, depN els = d := ⟨_, rfl⟩
  have HDD := Lib.hid hd
  have HD16 : Hid (d ≤ 16) := Lib.hid (by rw [← hd]; exact depN_le hn)
  have HPL : Hid (plcL (len els : Nat) l = flatLv (needsL (leavesL l d) d)) := Lib.hid (by unfold plcL; rw [depthZ_len hn, hd])
  clear ht hn h hu hb hd
  obtain ⟨i0, hi, hz0, hz1, hz2⟩ := info_parts info_str
  have HZ := Lib.hid hz0
  clear hz0
  refine (callsIn_wide (n := 9)).1 ?_
  refine callsIn_of_wp_marks Tryz.func46 rfl trivial ?_ rfl
  simp only [Tryz.ntmps46, List.size_toArray, List.length_cons, List.length_nil, Nat.reduceAdd, Nat.reduceSub, Array.replicate_succ, Array.replicate_zero, List.push_toArray, List.append_toArray, List.nil_append, List.cons_append]
  gi_wp2_with fail
  refine ⟨trivial, (callsIn_wide.2 HLN.out).mono ?_⟩
  rintro e w1 ⟨rfl, rfl⟩
  gi_wp2_with fail
  refine ⟨trivial, (callsIn_wide.2 HM.out).mono ?_⟩
  rintro e w1 ⟨rfl, hb1⟩
  have HB1 := Lib.hid hb1
  have HT1 := Lib.hid (HT.out.below hb1)
  clear hb1 HM HLN
  obtain ⟨ab, hab⟩ : ∃ ab, w1.heap.size = ab := ⟨_, rfl⟩
  gi_wp2_with fail
  obtain ⟨o, ho⟩ : ∃ o, ab + 1 = o := ⟨_, rfl⟩
  rw [ho]
  obtain ⟨V, hV⟩ : ∃ V, ((w1.alloc (.cells #[.func (.func 100) #[.pointer (some ⟨b, 0, none⟩)] #[]] 128)).alloc (.cells #[.slice none 0 0] 36)) = V := ⟨_, rfl⟩
  rw [hV]
  have V1 : Hid (V.heap[ab]? = some (.cells #[.func (.func 100) #[.pointer (some ⟨b, 0, none⟩)] #[]] 128 (0, 0))) := Lib.hid (by rw [← hV]; exact block_alloc (alloc_new_at _ hab) _)
  have V2 : Hid (Boxed V o 36 (.slice none 0 0)) := Lib.hid (by rw [← hV]; exact alloc_new_at _ (by rw [alloc_size _ rfl]; omega))
  have VB : Hid (Below w.heap.size w V) := Lib.hid (by rw [← hV]; exact balloc (balloc HB1.out _) _)
  have VS : Hid (w.heap.size ≤ ab ∧ ab < o) := Lib.hid ⟨by rw [← hab]; exact HB1.out.size, by omega⟩
  have HDP := Lib.hid (tdepth_any els b V (HT.out.below VB.out))
  rw [HDD.out] at HDP
  clear hV hab ho HT1
  refine ⟨trivial, (callsIn_wide.2 HDP.out).mono ?_⟩
  rintro e w2 ⟨rfl, rfl⟩
  gi_wp2_with fail
  refine ⟨trivial, (callsIn_wide.2 (places_any a cap (len l) (d : Nat) _)).mono ?_⟩
  rintro e w3 ⟨rfl, hw3⟩
  obtain ⟨s1, hs1⟩ : ∃ s1, V.heap.size = s1 := ⟨_, rfl⟩
  rw [hs1]
  have Z1 : Hid (w3.heap[ab]? = some (.cells #[.func (.func 100) #[.pointer (some ⟨b, 0, none⟩)] #[]] 128 (0, 0))) := Lib.hid (by rw [hw3]; exact block_alloc (block_alloc V1.out _) _)
  have Z0 : Hid (Boxed w3 o 36 (.slice none 0 0)) := Lib.hid (by rw [hw3]; exact block_alloc (block_alloc V2.out _) _)
  have Z2 : Hid (w3.heap[s1]? = some (.cells #[.int .i64 (d : Nat)] 3 (0, 0))) := Lib.hid (by rw [hw3]; exact block_alloc (alloc_new_at _ hs1) _)
  have Z3 : Hid (w3.heap[s1 + 1]? = some (.cells #[.slice a (len l) cap] 64 (0, 0))) := Lib.hid (by rw [hw3]; exact alloc_new_at _ (by rw [alloc_size _ rfl, hs1]))
  have ZB : Hid (Below w.heap.size w w3) := Lib.hid (by rw [hw3]; exact balloc (balloc VB.out _) _)
  have ZS : Hid (o < w3.heap.size) := Lib.hid (Z0.out.lt)
  clear hw3 hs1 V1 V2 HDP
  obtain ⟨L, hL⟩ : ∃ L : List (PlX d), L.map Subtype.val = flatLv (needsL (leavesL l d) d) := exists_sub _ _ (plc_bd HD16.out (leaves_in HD16.out))
  have HLL := Lib.hid hL
  have HLB : Hid (L.length ≤ 1600) := Lib.hid (by
    have h1 := flat_bd (leavesL l d) d (by rw [leavesL_len]; exact hl)
    rw [← hL, List.length_map] at h1
    exact h1)
  gi_wp2_with fail
  refine wpIn_rangeFunc_ownF rfl (by omega) (gf := 163) (lb := #[.pointer (some ⟨s1 + 1, 0, none⟩), .pointer (some ⟨s1, 0, none⟩)]) rfl trivial (enters_of Tryz.func163 (by kernel_rfl) rfl)
    (places_seq (Subtype.val : PlX d → Int × Int) L 8 (by omega) o (s1 + 1) s1 a cap l d w3 (by rw [block_cell Z3.out]; rfl) (by rw [block_cell Z2.out]; rfl) (H.out.below ZB.out) hl HD16.out HU.out ZS.out hL)
    KpO.trans (fun W l9 x x' _ hl hx _ => KpO.putObj o W l9 x x' hl hx) (Below.refl _ _) (fun _ => rfl)
    (fun pre W => (∃ v, Boxed W o 36 v ∧ W.ownsRow w.heap.size 9 1 v (len (dgsL els (pre.map Subtype.val))) ((dgsL els (pre.map Subtype.val)).map Value.string) ∧ True) ∧ W.heap[ab]? = some (.cells #[.func (.func 100) #[.pointer (some ⟨b, 0, none⟩)] #[]] 128 (0, 0)) ∧ Below w.heap.size w W) (fun _ _ _ => False)
    (OwnFrom.and (Own.from (holdsRow_own w.heap.size o 36 9 1 (fun pre : List (PlX d) => len (dgsL els (pre.map Subtype.val))) (fun pre => (dgsL els (pre.map Subtype.val)).map Value.string) (fun _ _ => True)) _) (OwnFrom.and (own_one _ ab 128 (fun _ : List (PlX d) => .func (.func 100) #[.pointer (some ⟨b, 0, none⟩)] #[])) (ownFrom_below (Nat.le_refl _) ZB.out.size))) (fun _ _ _ _ _ h _ _ => h)
    ⟨⟨_, Z0.out, World.ownsRow_nil _ _ _ _, trivial⟩, Z1.out, ZB.out⟩ ?a1 ?assign ?body ?done ?stop
  case assign =>
    intro l9 x W K hK
    gi_wp2
    exact hK
  case body =>
    rintro l9 pre ⟨x, i, k, rfl, hi9, hk9⟩ W ⟨⟨v, hv, hrow, -⟩, hO, hB⟩ hlt
    have ca : W.cell? ⟨ab, 0, none⟩ = some (.func (.func 100) #[.pointer (some ⟨b, 0, none⟩)] #[]) := by rw [block_cell hO]; rfl
    have HV := Lib.hid hv
    have HRW := Lib.hid hrow
    have HO := Lib.hid hO
    have HB := Lib.hid hB
    have HAT := Lib.hid (tat_any els b i k W (HT.out.below hB) HN.out (by rw [HDD.out]; omega) (by rw [HDD.out]; exact hk9))
    rw [HDD.out] at HAT
    have HPB : Hid (len (dgsL els (pre.map Subtype.val)) ≤ 1600) := Lib.hid (by unfold dgsL; rw [len_eq, List.length_map, List.length_map]; have := HLB.out; omega)
    have HSN : Hid (dgsL els ((pre ++ [(⟨((i : Int), (k : Int)), i, k, rfl, hi9, hk9⟩ : PlX d)]).map Subtype.val) = dgsL els (pre.map Subtype.val) ++ [plD els d i k]) := Lib.hid (by
      rw [List.map_append]
      show dgsL els (pre.map Subtype.val ++ [((i : Int), (k : Int))]) = _
      rw [dgsL_snoc, HDD.out]
      simp)
    obtain ⟨P9, hP9⟩ : ∃ P9, dgsL els (pre.map Subtype.val) = P9 := ⟨_, rfl⟩
    rw [hP9] at HRW HPB HSN
    obtain ⟨X9, hX9⟩ : ∃ X9, plD els d i k = X9 := ⟨_, rfl⟩
    rw [hX9] at HAT HSN
    clear hv hrow hO hB hlt hP9 hX9
    dsimp only
    gi_wp2_with fail
    refine ⟨trivial, (CallsIn.inRound l9 (callsIn_wide.2 HAT.out)).mono ?_⟩
    rintro e W2 ⟨rfl, hb2⟩
    have HV2 : Hid (Boxed W2 o 36 v) := Lib.hid ((hb2.block _ HV.out.lt).trans HV.out)
    have HR2 : Hid (W2.ownsRow w.heap.size 9 1 v (len P9) (P9.map Value.string)) := Lib.hid (own_below HRW.out hb2)
    have HO2 : Hid (W2.heap[ab]? = some (.cells #[.func (.func 100) #[.pointer (some ⟨b, 0, none⟩)] #[]] 128 (0, 0))) := Lib.hid ((hb2.block _ (lt_of_block HO.out)).trans HO.out)
    have HB2 : Hid (Below w.heap.size w W2) := Lib.hid (bnext HB.out hb2)
    have HWW := Lib.hid hb2
    have hc := HV2.out.cell
    have hpb := HPB.out
    clear hb2 ca HAT
    gi_wp2_with (gi_at_builtin; refine wpListIn_append_own _ rfl _ _ 36 rfl w.heap.size 9 i0 (.string ⟨#[]⟩) 1 16 Tryz.underlying36 hi HZ.out hz1 hz2 rfl (by decide) _ _ _ rfl (HR2.out.alloc _) ⟨W2.heap.size, 0, none⟩ 1 1 [.string X9] rfl rfl (World.news_of_block (heap_alloc_new _ _)) (by intro u hu9; simp at hu9; subst hu9; rfl) (by unfold maxLen; omega) (by omega) (by have := HB2.out.size; simp; omega) ?_; intro v' w4 hown' hgrow _; obtain ⟨g', cap', rfl⟩ := ownsRow_succ hown'; obtain ⟨hv1, hv2, hr2, hk2, hb3⟩ := HV2.out.appended (by decide) HR2.out HB2.out.size (by have := VS.out; omega) hown' hgrow; have hc1 := hv1.cell; have hf1 := hv1.frozen; have HQ1 := Lib.hid hv2; have HQ2 := Lib.hid hr2; have HQ3 := Lib.hid hk2; have HQ4 := Lib.hid hb3; have HQ5 := Lib.hid (kpo_append (o := o) (v' := .slice (some ⟨g', 0, none⟩) (len P9 + 1) cap') HR2.out hgrow); clear hv2 hr2 hk2 hb3 hown' hgrow)
    have HKO : Hid (KeepsOthers W W2) := Lib.hid (KeepsOthers.of_grownBy (below_grown HWW.out) (fun j o h => by cases h))
    have HKP : Hid (KpO o W W2) := Lib.hid ⟨HWW.out.size, fun b9 cs t fr _ _ hc9 => (HWW.out.block _ (lt_of_block hc9)).trans hc9⟩
    refine ⟨HKO.out.trans HQ3.out, HKP.out.trans HQ5.out, ⟨_, HQ1.out, ?_, trivial⟩, ?_, HB2.out.trans HQ4.out⟩
    · have e9 : len (P9 ++ [X9]) = len P9 + 1 := by rw [len_eq, List.length_append]; rfl
      rw [HSN.out, List.map_append, e9]
      exact HQ2.out
    · exact HQ5.out.same _ _ _ _ (by have := VS.out; omega) (by decide) HO2.out
  case done =>
    rintro D ys W hD rfl ⟨⟨v, hv, hrow, -⟩, hO, hB⟩ hK
    have hc := hv.cell
    rw [HLL.out] at hrow
    have HR := Lib.hid (ownsRow_putObj hrow (.deferred none) hK rfl)
    have HB : Hid (Below w.heap.size w (W.putObj D (.deferred none))) := Lib.hid (hB.trans (belowK_b (w := w) (Nat.le_refl _) W D _ _ (Nat.le_trans ZB.out.size hD) hK rfl rfl))
    have HK := Lib.hid hK
    clear hO hB hrow
    gi_wp2
    refine ⟨by simp, .inl ⟨_, _, rfl, run_takeDeferred HK.out, ?_⟩⟩
    refine ⟨_, results_tmp2 rfl _ _ _, v, rfl, ?_, HB.out⟩
    rw [HPL.out]
    exact HR.out
  case stop =>
    intro D c pre W _ _ h _
    exact h.elim
end Go.Proofs.YtpobhbdomldecaaGreatDoor
namespace Go.Proofs.YtpobhbdomldecaaGreatDoor
open Go.RowKit
set_option linter.unusedSimpArgs false
set_option linter.unusedVariables false
theorem own_txts {w : World} {base n : Nat} {v : Value} {l : List ByteArray} (h : w.ownsRow base 9 1 v n (l.map Value.string)) : ∃ a cap, v = .slice a (len l) cap ∧ Txts w a l := by
  have hn : len l = n := by have := h.1; rw [len_eq]; simpa using this
  rcases h.2 with ⟨rfl, h2⟩ | ⟨g, cap, cur, rfl, hg, hh, hc1, hc2, hc3, hc4⟩
  · obtain rfl : l = [] := List.eq_nil_of_length_eq_zero (by rw [← len_eq]; omega)
    exact ⟨none, 0, rfl, Txts.nil _ _⟩
  · refine ⟨some ⟨g, 0, none⟩, cap, by rw [hn], fun i hi => ⟨g, 0, rfl, ?_⟩⟩
    have := h.cellAt i (by omega)
    have hi2 : i < l.length := hi
    rw [Nat.zero_add, this, List.getElem?_map, List.getElem?_eq_getElem hi2, tth_eq l i hi]; rfl
theorem str_beq (a b : ByteArray) : (a.toList == b.toList) = decide (a = b) := by
  rw [ByteArray.toList_eq, ByteArray.toList_eq]
  by_cases h : a = b
  · subst h; simp
  · rw [decide_eq_false h]
    rw [beq_eq_false_iff_ne]
    intro h2
    exact h (ByteArray.ext (Array.ext' h2))
theorem hash0_any (tag : ByteArray) (w : World) (h1 : 1 ≤ tag.size) (h2 : tag.size ≤ 16) : Calls Tryz.prog 45 #[.string tag, .slice none 0 0] w fun e w' => e = .returned (.string (hashP tag [])) ∧ Below w.heap.size w w' :=
  hash_any tag [] none 0 w h1 h2 (Txts.nil _ _) (by decide)
theorem hash1_any (tag s : ByteArray) (w : World) (h1 : 1 ≤ tag.size) (h2 : tag.size ≤ 16) (hs : s.size ≤ 1000000) : Calls Tryz.prog 45 #[.string tag, .slice (some ⟨w.heap.size, 0, none⟩) 1 1] (w.alloc (.cells #[.string s] 9)) fun e w' => e = .returned (.string (hashP tag [s])) ∧ Below w.heap.size w w' := by
  have hw1 : Txts (w.alloc (.cells #[.string s] 9)) (some ⟨w.heap.size, 0, none⟩) [s] := txts_cells (heap_alloc_new _ _) [s] (fun i hi => by
    have : i = 0 := by have : i < 1 := hi; omega
    subst this; rfl)
  refine (hash_any tag [s] (some ⟨w.heap.size, 0, none⟩) 1 _ h1 h2 hw1 (by show ((partL s) ++ []).length ≤ _; rw [List.append_nil, partL_len]; omega)).mono ?_
  rintro e w2 ⟨rfl, hb2⟩
  exact ⟨rfl, bnext (balloc (Below.refl _ _) _) hb2⟩
theorem hash2_any (tag s t : ByteArray) (w : World) (h1 : 1 ≤ tag.size) (h2 : tag.size ≤ 16) (hs : s.size ≤ 1000000) (ht : t.size ≤ 1000000) : Calls Tryz.prog 45 #[.string tag, .slice (some ⟨w.heap.size, 0, none⟩) 2 2] (w.alloc (.cells #[.string s, .string t] 9)) fun e w' => e = .returned (.string (hashP tag [s, t])) ∧ Below w.heap.size w w' := by
  have hw1 : Txts (w.alloc (.cells #[.string s, .string t] 9)) (some ⟨w.heap.size, 0, none⟩) [s, t] := txts_cells (heap_alloc_new _ _) [s, t] (fun i hi => by
    have : i = 0 ∨ i = 1 := by have : i < 2 := hi; omega
    rcases this with rfl | rfl <;> rfl)
  refine (hash_any tag [s, t] (some ⟨w.heap.size, 0, none⟩) 2 _ h1 h2 hw1 (by show ((partL s) ++ ((partL t) ++ [])).length ≤ _; rw [List.append_nil, List.length_append, partL_len, partL_len]; omega)).mono ?_
  rintro e w2 ⟨rfl, hb2⟩
  exact ⟨rfl, bnext (balloc (Below.refl _ _) _) hb2⟩
end Go.Proofs.YtpobhbdomldecaaGreatDoor
namespace Go.Proofs.YtpobhbdomldecaaGreatDoor
open Go.RowKit
set_option linter.unusedSimpArgs false
set_option linter.unusedVariables false
set_option maxRecDepth 100000 in
set_option maxHeartbeats 4000000 in
theorem pmay_any (n : Int) (l : List Int) (a : Option Addr) (cap : Nat) (w : World) (h : U64s w a l) (hn : len l ≤ 1000000000) (h0 : -9223372036854775808 ≤ n) (h1 : n ≤ 9223372036854775807) : Calls Tryz.prog 166 #[.int .i64 n, .slice a (len l) cap] w fun e w' => e = .returned (.bool (decide (SizeOk n l))) ∧ Below w.heap.size w w' := by
  have H := Lib.hid h
  have HN := Lib.hid hn
  by_cases c1 : n < 0
  · have E : Hid (decide (SizeOk n l) = false) := Lib.hid (decide_eq_false (fun h9 => by have := h9.1; omega))
    clear h hn h0 h1
    go_enter Tryz.func166, Tryz.ntmps166
    go_wp2
    go_ret
    exact ⟨by (rw [E.out]; try rfl), Below.refl _ _⟩
  · by_cases c2 : 65536 < n
    · have E : Hid (decide (SizeOk n l) = false) := Lib.hid (decide_eq_false (fun h9 => by have := h9.2.1; omega))
      clear h hn h0 h1
      go_enter Tryz.func166, Tryz.ntmps166
      go_wp2
      go_ret
      exact ⟨by (rw [E.out]; try rfl), Below.refl _ _⟩
    · by_cases c3 : len l = 0
      · have E : Hid (decide (SizeOk n l) = false) := Lib.hid (decide_eq_false (fun h9 => by have := h9.2.2.1; omega))
        have z1 : ((len l : Nat) : Int) = 0 := by omega
        clear h hn h0 h1 c3
        go_enter Tryz.func166, Tryz.ntmps166
        go_wp2
        go_ret
        exact ⟨by (rw [E.out]; try rfl), Below.refl _ _⟩
      · have z1 : ¬ ((len l : Nat) : Int) = 0 := by omega
        have n1 : IntKind.u64.wrap n = n := IntWalk.u64_in _ (by omega)
        have HC := Lib.hid (And.intro c1 (And.intro c2 c3))
        clear h hn h0 h1 c3
        go_enter Tryz.func166, Tryz.ntmps166
        go_upto_region 4 with fail
        clear c1 c2 z1
        go_loopg [20] (len l) (fun g i wr => ∃ m : Nat, g + m = len l ∧ i = .int .i64 m ∧ Hid (MayT n l m) ∧ Hid (Below w.heap.size w wr))
        case atStart => exact ⟨0, rfl, rfl, Lib.hid (fun i hi => by omega), Lib.hid (Below.refl _ _)⟩
        case round =>
          obtain ⟨m, hm, rfl, HR, HW⟩ := hrel
          have HNN := HN.out
          by_cases hlt : m < len l
          · have b0 : (m : Int) < len l := by omega
            obtain ⟨b, off, hra, e1⟩ := (H.out.below HW.out) m hlt
            subst hra
            have l1 := lt_of_cell e1
            cases hge : decide (n ≤ nth l m) with
            | true =>
              have HGE := Lib.hid hge
              go_wp2
              go_ret
              refine ⟨?_, HW.out⟩
              have : ¬ SizeOk n l := fun h9 => by
                have h1 := (h9.2.2.2 m hlt).1
                have h2 := of_decide_eq_true HGE.out
                omega
              rw [decide_eq_false this]; try rfl
            | false =>
              have HGE := Lib.hid hge
              cases m with
              | zero =>
                have e1 : wr.cell? ⟨b, off, none⟩ = some (.int .u64 (nth l 0)) := e1
                have hge0 : decide (n ≤ nth l 0) = false := HGE.out
                go_wp2
                go_roundg (len l - 1)
                case rel => exact ⟨1, by omega, by go_num, Lib.hid (HR.out.next (by have := of_decide_eq_false HGE.out; omega) (fun h => by omega)), HW⟩
                case measure => omega
              | succ n3 =>
                obtain ⟨b6, off6, hpa6, e2⟩ := (H.out.below HW.out) n3 (by omega)
                cases hpa6
                cases hris : decide (nth l (n3 + 1) ≤ nth l n3) with
                | true =>
                  have HRIS := Lib.hid hris
                  have i1 : IntKind.i64.wrap (n3 : Int) = n3 := (IntWalk.i64_in _ (by omega)); have i2 : 0 ≤ (n3 : Int) + 1 := (by omega); have i3 : ((n3 : Int) + 1).toNat = n3 + 1 := (by omega)
                  go_wp2
                  clear i1 i2 i3
                  go_ret
                  refine ⟨?_, HW.out⟩
                  have : ¬ SizeOk n l := fun h9 => by
                    have h1 := (h9.2.2.2 (n3 + 1) hlt).2 (by omega)
                    have h2 := of_decide_eq_true HRIS.out
                    rw [Nat.add_sub_cancel] at h1
                    omega
                  rw [decide_eq_false this]; try rfl
                | false =>
                  have HRIS := Lib.hid hris
                  have i1 : IntKind.i64.wrap (n3 : Int) = n3 := (IntWalk.i64_in _ (by omega)); have i2 : 0 ≤ (n3 : Int) + 1 := (by omega); have i3 : ((n3 : Int) + 1).toNat = n3 + 1 := (by omega)
                  go_wp2
                  clear i1 i2 i3
                  go_roundg (len l - (n3 + 1 + 1))
                  case rel => exact ⟨n3 + 1 + 1, by omega, by go_num, Lib.hid (HR.out.next (by have := of_decide_eq_false HGE.out; omega) (fun _ => by
                    have h2 := of_decide_eq_false HRIS.out
                    rw [Nat.add_sub_cancel]
                    omega)), HW⟩
                  case measure => omega
          · obtain rfl : m = len l := by omega
            have b0 : ¬ ((len l : Nat) : Int) < len l := by omega
            have E : Hid (decide (SizeOk n l) = true) := Lib.hid (decide_eq_true ⟨by have := HC.out.1; omega, by have := HC.out.2.1; omega, by have := HC.out.2.2; omega, HR.out⟩)
            go_wp2
            go_ret
            exact ⟨by (rw [E.out]; try rfl), HW.out⟩
def badB (ds : List ByteArray) : Bool := decide (∃ d ∈ ds, d.size ≠ 32)
theorem len32_any (s : ByteArray) (w : World) : Calls Tryz.prog 168 #[.string s] w fun e w' => e = .returned (.bool (!decide ((s.size : Int) = 32))) ∧ w = w' := by
  go_enter Tryz.func168, Tryz.ntmps168
  go_wp2
  go_ret
  exact ⟨by first | rfl | simp, rfl⟩
def BadIs (ds : List ByteArray) (w : World) (e : Ending) (w' : World) : Prop := ∃ j : Int, e = .returned (.int .i64 j) ∧ (0 ≤ j ↔ ∃ d ∈ ds, d.size ≠ 32) ∧ w = w'
set_option maxRecDepth 100000 in
set_option maxHeartbeats 4000000 in
theorem badidx_any (a : Option Addr) (cap : Nat) (ds : List ByteArray) (w : World) (hl : Txts w a ds) (hlen : len ds ≤ 9223372036854775807) :
    Calls Tryz.prog 227 #[.slice a (len ds) cap, .func (.func 168) #[] #[]] w (BadIs ds w) := by
  have HL := Lib.hid hl
  clear hl
  go_enter Tryz.func227, Tryz.ntmps227
  go_wp2
  go_loop [8] (fun i => ∃ m : Nat, m ≤ len ds ∧ i = .int .i64 m ∧ Hid (∀ j, j < m → (tth ds j).size = 32)) (fun i => len ds - (intOf i).toNat)
  case atStart => exact ⟨0, Nat.zero_le _, rfl, fun j hj => by omega⟩
  case round =>
    obtain ⟨m, hm, rfl, hn⟩ := hrel
    by_cases hlt : m < len ds
    · obtain ⟨b, off, rfl, hcell⟩ := HL.out m hlt
      have b0 : (m : Int) < len ds := by omega
      obtain ⟨s, hs⟩ : ∃ s, tth ds m = s := ⟨_, rfl⟩
      rw [hs] at hcell
      have HS := Lib.hid hs
      have HM : Hid (s ∈ ds) := Lib.hid (by rw [← hs, tth_eq ds m hlt]; exact List.getElem_mem _)
      clear hs
      go_wp2_with fail
      refine (len32_any s w).mono ?_
      rintro e w' ⟨rfl, rfl⟩
      by_cases hf : s.size = 32
      · have HF := Lib.hid hf
        rw [decide_eq_true (show ((s.size : Nat) : Int) = 32 by omega)]
        clear hf hcell
        go_wp2
        go_round
        case rel => exact ⟨m + 1, by omega, by go_num, fun j hj => by
          by_cases e : j = m
          · subst e; rw [HS.out]; exact HF.out
          · exact hn.out j (by omega)⟩
        case measure => simp [intOf]; omega
      · have HF := Lib.hid hf
        rw [decide_eq_false (show ¬ ((s.size : Nat) : Int) = 32 by omega)]
        clear hf hcell
        go_wp2
        go_ret
        exact ⟨m, rfl, ⟨fun _ => ⟨s, HM.out, HF.out⟩, fun _ => by omega⟩, rfl⟩
    · obtain rfl : m = len ds := by omega
      go_wp2
      go_ret
      refine ⟨-1, rfl, ⟨fun h => by omega, fun ⟨k, hk, hf⟩ => ?_⟩, rfl⟩
      obtain ⟨j, hj, rfl⟩ := List.getElem_of_mem hk
      have h1 := hn.out j hj
      rw [tth_eq ds j hj] at h1
      exact absurd h1 hf
theorem bad_any (a : Option Addr) (cap : Nat) (ds : List ByteArray) (w : World) (hl : Txts w a ds) (hlen : len ds ≤ 9223372036854775807) :
    Calls Tryz.prog 167 #[.slice a (len ds) cap, .func (.func 168) #[] #[]] w fun e w' => e = .returned (.bool (badB ds)) ∧ w = w' := by
  have HL := Lib.hid hl
  clear hl
  go_enter Tryz.func167, Tryz.ntmps167
  go_wp2_with fail
  refine (badidx_any a cap ds w HL.out hlen).mono ?_
  rintro e w' ⟨j, rfl, hj, rfl⟩
  have HJ := Lib.hid hj
  clear hj
  by_cases h : 0 ≤ j
  · have E : Hid (badB ds = true) := Lib.hid (decide_eq_true (HJ.out.1 h))
    go_wp2
    go_ret
    exact ⟨by (rw [E.out]; try rfl), rfl⟩
  · have E : Hid (badB ds = false) := Lib.hid (decide_eq_false (fun hh => h (HJ.out.2 hh)))
    go_wp2
    go_ret
    exact ⟨ret_bool (by rw [E.out]; simp; omega), rfl⟩
end Go.Proofs.YtpobhbdomldecaaGreatDoor
namespace Go.Proofs.YtpobhbdomldecaaGreatDoor
open Go.RowKit
set_option linter.unusedSimpArgs false
set_option linter.unusedVariables false
theorem rowK_mem (ks : List Int) (k : Int) : k ∈ rowK ks ↔ (∃ j ∈ ks, k = sib j) ∧ k ∉ ks := by
  unfold rowK
  rw [srt_mem, needK_mem]
theorem rowK_len (ks : List Int) : (rowK ks).length = (needK ks).length := by
  unfold rowK srt
  exact (List.mergeSort_perm _ _).length_eq
theorem sib_ne (y : Int) : sib y ≠ y := by unfold sib; split <;> omega
theorem rowK_single (y : Int) : (rowK [y]).length = 1 := by
  rw [rowK_len]
  unfold needK
  have h : ([y].map sib).filter (fun s => !decide (s ∈ [y])) = [sib y] := by
    simp [sib_ne y]
  rw [h]
  rfl
theorem rows_get (L : List Int) (d i : Nat) (hi : i < d) : rnth (rowsOf L d) i = rowK (insAll (L.map (· / 2 ^ i))) := by
  rw [rnth_eq _ i (by unfold rowsOf; simpa using hi)]
  unfold rowsOf
  simp only [List.getElem_map, List.getElem_range]
theorem rows_len (L : List Int) (d : Nat) : (rowsOf L d).length = d := by unfold rowsOf; simp
theorem needs_rows {l : List Int} {d : Nat} (hd : d ≤ 16) (h0 : 0 < len l) : needsL (leavesL l (d : Nat)) (d : Nat) = rowsOf (leavesL l (d : Nat)) d := by
  unfold needsL
  rw [Int.toNat_natCast, if_pos]
  refine ⟨by omega, by omega, by rw [leavesL_len]; exact h0, ?_⟩
  unfold farB
  rw [decide_eq_false]
  rintro ⟨k, hk, h9⟩
  have := (leaves_in hd k hk).2
  omega
theorem flat_len1 : ∀ (s : Nat) (c : List (List Int)), (∀ i, i < c.length → (rnth c i).length = 1) → (flatFrom s c).length = c.length
  | _, [], _ => rfl
  | s, z :: c, h => by
    have h1 := flat_len1 (s + 1) c (fun i hi => by
      have := h (i + 1) (by simp; omega)
      simpa [rnth] using this)
    have h2 := h 0 (by simp)
    simp only [rnth, List.getD_cons_zero] at h2
    simp only [flatFrom, List.length_append, List.length_map, List.length_cons]
    omega
theorem plcL_rows {n : Int} {l : List Int} {d : Nat} (hd : depthZ n = (d : Nat)) (hd16 : d ≤ 16) (h0 : 0 < len l) : plcL n l = flatLv (rowsOf (leavesL l (d : Nat)) d) := by
  unfold plcL
  rw [hd, needs_rows hd16 h0]
theorem plc_one {n : Int} {d : Nat} {x : Int} (hd : depthZ n = (d : Nat)) (hd16 : d ≤ 16) : (plcL n [x]).length = d := by
  rw [plcL_rows (l := [x]) hd hd16 (show 0 < len [x] from Nat.zero_lt_one)]
  have h := flat_len1 0 (rowsOf (leavesL [x] (d : Nat)) d) (fun i hi => by
    rw [rows_len] at hi
    rw [rows_get _ _ _ hi]
    exact rowK_single _)
  rw [rows_len] at h
  exact h
theorem dgs_len (els : List ByteArray) (L : List (Int × Int)) : len (dgsL els L) = L.length := by unfold dgsL; rw [len_eq, List.length_map]
end Go.Proofs.YtpobhbdomldecaaGreatDoor
namespace Go.Proofs.YtpobhbdomldecaaGreatDoor
open Go.RowKit
set_option linter.unusedSimpArgs false
set_option linter.unusedVariables false
theorem overF_some (g : KnF) (p : Int) : (overF g p).isSome ↔ (g (2 * p)).isSome ∨ (g (2 * p + 1)).isSome := by
  unfold overF
  by_cases e : (g (2 * p)).isSome ∨ (g (2 * p + 1)).isSome
  · rw [if_pos e]; simp [e]
  · rw [if_neg e]; simp only [e]; simp
def SmF (g : KnF) : Prop := ∀ k d, g k = some d → d.size ≤ 1000
theorem SmF.no : SmF noF := fun k d h => by cases h
theorem SmF.put {g : KnF} (h : SmF g) (k : Int) (d : ByteArray) (hd : d.size ≤ 1000) : SmF (putF g k d) := fun j x hx => by
  by_cases e : j = k
  · subst e; rw [putF_same] at hx; cases hx; exact hd
  · rw [putF_other g d e] at hx; exact h j x hx
theorem SmF.over (g : KnF) : SmF (overF g) := fun k d hx => by
  by_cases e : (g (2 * k)).isSome ∨ (g (2 * k + 1)).isSome
  · have : overF g k = some (hashP nodeT [kidF g (2 * k), kidF g (2 * k + 1)]) := over_some e
    rw [this] at hx; cases hx
    rw [hashP_size]; omega
  · exact absurd ((overF_some g k).1 (by rw [hx]; rfl)) e
def leafD (es : List ByteArray) : List ByteArray := es.map fun s => hashP leafT [s]
theorem leafD_at (es : List ByteArray) (i : Nat) (h : i < len es) : tth (leafD es) i = hashP leafT [tth es i] := by
  have h2 : i < es.length := h
  rw [tth_eq es i h]
  unfold tth leafD
  rw [List.getD_eq_getElem?_getD, List.getElem?_map, List.getElem?_eq_getElem h2]
  rfl
def g0F (lv : List Int) (es : List ByteArray) : KnF := addF noF lv (leafD es)
theorem rowsOf_at (lv : List Int) (d i : Nat) (h : i < d) : rnth (rowsOf lv d) i = rowK (insAll (lv.map (· / 2 ^ i))) := by
  rw [rnth_eq _ i (by unfold rowsOf; simpa using h)]
  unfold rowsOf
  simp
theorem rowsOf_len (lv : List Int) (d : Nat) : len (rowsOf lv d) = d := by unfold rowsOf; rw [len_eq]; simp
theorem row_mem (lv : List Int) (d i : Nat) (h : i < d) (k : Int) : k ∈ rnth (rowsOf lv d) i ↔ (∃ y ∈ lv, k = sib (y / 2 ^ i)) ∧ ¬ ∃ y ∈ lv, k = y / 2 ^ i := by
  rw [rowsOf_at lv d i h, rowK_mem]
  have e : ∀ j, j ∈ insAll (lv.map (· / 2 ^ i)) ↔ ∃ y ∈ lv, j = y / 2 ^ i := fun j => by
    rw [(insAll_all _).2.1, List.mem_map]
    constructor
    · rintro ⟨y, h1, rfl⟩; exact ⟨y, h1, rfl⟩
    · rintro ⟨y, h1, rfl⟩; exact ⟨y, h1, rfl⟩
  rw [e]
  constructor
  · rintro ⟨⟨j, hj, rfl⟩, h2⟩
    obtain ⟨y, hy, rfl⟩ := (e j).1 hj
    exact ⟨⟨y, hy, rfl⟩, h2⟩
  · rintro ⟨⟨y, hy, rfl⟩, h2⟩
    exact ⟨⟨_, (e _).2 ⟨y, hy, rfl⟩, rfl⟩, h2⟩
theorem turnedP_rev {k : Int} {d n : Nat} (hd : d ≤ 16) (h0 : 0 ≤ k) (hk : k < n) (hn : n ≤ 2 ^ d) : turnedZ k d = ((revOf k.toNat d : Nat) : Int) := by
  unfold turnedZ
  rw [if_pos ⟨by omega, by omega, by rw [Int.toNat_natCast, pow_cast]; omega⟩, Int.toNat_natCast]
theorem needsP_rows {ps : List Int} {d n : Nat} (hd : d ≤ 16) (h : MayOk n ps) : needsL (leavesL ps (d : Nat)) (d : Nat) = rowsOf (leavesL ps (d : Nat)) d := needs_rows hd h.1
def rowsP (n : Int) (ps : List Int) : List (List Int) := needsL (leavesL ps (depthZ n)) (depthZ n)
def neededP (n : Int) (ps : List Int) : Nat := usedR (rowsP n ps) (len (rowsP n ps))
def digP (n : Int) (ps : List Int) (es ds : List ByteArray) : ByteArray := kidF (rootG (g0F (leavesL ps (depthZ n)) es) (rowsP n ps) ds) 0
def ArgOk (n : Int) (ps : List Int) (es : List ByteArray) : Prop := SizeOk n ps ∧ len es = len ps
instance (n : Int) (ps : List Int) (es : List ByteArray) : Decidable (ArgOk n ps es) := by unfold ArgOk; exact inferInstance
def rootE (n : Int) (ps : List Int) (es ds : List ByteArray) : Int :=
  if ¬ ArgOk n ps es then 2 else if badB ds = true then 5 else if len ds < neededP n ps then 4 else if neededP n ps < len ds then 3 else 0
def rootS (n : Int) (ps : List Int) (es ds : List ByteArray) : ByteArray := if rootE n ps es ds = 0 then digP n ps es ds else ⟨#[]⟩
def RootIs (n : Int) (ps : List Int) (es ds : List ByteArray) (w : World) (e : Ending) (w' : World) : Prop := e = .returned (.tuple #[.string (rootS n ps es ds), .int .i64 (rootE n ps es ds)]) ∧ Below w.heap.size w w'
end Go.Proofs.YtpobhbdomldecaaGreatDoor
namespace Go.Proofs.YtpobhbdomldecaaGreatDoor
open Go.RowKit
set_option linter.unusedSimpArgs false
set_option linter.unusedVariables false
abbrev Rising (l : List Int) : Prop := l.Pairwise (fun x y => x < y)
end Go.Proofs.YtpobhbdomldecaaGreatDoor
namespace Go.Proofs.YtpobhbdomldecaaGreatDoor
open Go.RowKit
set_option linter.unusedSimpArgs false
set_option linter.unusedVariables false
def Kn (W : World) (base : Nat) (v : Value) (l : List Int) : Prop := Rising l ∧ W.ownsRow base 23 1 v (len l) (l.map (Value.int .u64))
theorem Kn.nil (W : World) (base : Nat) : Kn W base (.slice none 0 0) [] := ⟨List.Pairwise.nil, World.ownsRow_nil _ _ _ _⟩
theorem Kn.below {W W' : World} {base : Nat} {v : Value} {l : List Int} (h : Kn W base v l) (hb : Below W.heap.size W W') : Kn W' base v l := ⟨h.1, own_below h.2 hb⟩
theorem Kn.shape {W : World} {base : Nat} {v : Value} {l : List Int} (h : Kn W base v l) : ∃ a cap, v = .slice a (len l) cap ∧ U64s W a l := by
  obtain ⟨a, cap, h1, h2, _⟩ := own_u64 h.2; exact ⟨a, cap, h1, h2⟩
theorem take_mem_succ {l : List Int} {m : Nat} (h : m < len l) (x : Int) : x ∈ l.take (m + 1) ↔ x ∈ l.take m ∨ x = nth l m := by
  have h' : m < l.length := h
  rw [List.take_succ_eq_append_getElem h', List.mem_append, List.mem_singleton, nth_eq l m h']
theorem take_all (l : List Int) : l.take (len l) = l := List.take_length
def Fill (kn nd nx : List Int) (m : Nat) : Prop := (∀ x, x ∈ nd ↔ (∃ j ∈ kn.take m, x = sib j) ∧ x ∉ kn) ∧ (∀ x, x ∈ nx ↔ ∃ j ∈ kn.take m, x = j / 2) ∧ len nd ≤ m ∧ len nx ≤ m
theorem Fill.start (kn : List Int) : Fill kn [] [] 0 := ⟨fun x => by simp, fun x => by simp, Nat.le_refl _, Nat.le_refl _⟩
theorem Fill.step {kn nd nx nd' nx' : List Int} {m : Nat} (h : Fill kn nd nx m) (hm : m < len kn) (h1 : ∀ x, x ∈ nd' ↔ x ∈ nd ∨ (x = sib (nth kn m) ∧ x ∉ kn)) (h2 : ∀ x, x ∈ nx' ↔ x ∈ nx ∨ x = nth kn m / 2) (l1 : len nd' ≤ len nd + 1) (l2 : len nx' ≤ len nx + 1) : Fill kn nd' nx' (m + 1) := by
  refine ⟨fun x => ?_, fun x => ?_, by have := h.2.2.1; omega, by have := h.2.2.2; omega⟩
  · rw [h1, h.1]
    constructor
    · rintro (⟨⟨j, hj, e⟩, hx⟩ | ⟨e, hx⟩)
      · exact ⟨⟨j, (take_mem_succ hm j).2 (.inl hj), e⟩, hx⟩
      · exact ⟨⟨_, (take_mem_succ hm _).2 (.inr rfl), e⟩, hx⟩
    · rintro ⟨⟨j, hj, e⟩, hx⟩
      rcases (take_mem_succ hm j).1 hj with hj | rfl
      · exact .inl ⟨⟨j, hj, e⟩, hx⟩
      · exact .inr ⟨e, hx⟩
  · rw [h2, h.2.1]
    constructor
    · rintro (⟨j, hj, e⟩ | e)
      · exact ⟨j, (take_mem_succ hm j).2 (.inl hj), e⟩
      · exact ⟨_, (take_mem_succ hm _).2 (.inr rfl), e⟩
    · rintro ⟨j, hj, e⟩
      rcases (take_mem_succ hm j).1 hj with hj | rfl
      · exact .inl ⟨j, hj, e⟩
      · exact .inr e
theorem Fill.row {kn nd nx : List Int} (h : Fill kn nd nx (len kn)) (hr : Rising nd) : nd = rowK kn := by
  refine rising_eq hr (srt_rising (needK_nodup kn)) (fun k => ?_)
  rw [h.1, take_all]
  unfold rowK
  rw [srt_mem, needK_mem]
def At (leaves : List Int) (lv : Nat) (kn : List Int) : Prop := ∀ x, x ∈ kn ↔ ∃ j ∈ leaves, x = j / 2 ^ lv
theorem At.row {leaves kn : List Int} {lv : Nat} (h : At leaves lv kn) : rowK kn = rowK (insAll (leaves.map (· / 2 ^ lv))) := rowK_same (fun k => by
  rw [h k, (insAll_all _).2.1, List.mem_map]
  constructor
  · rintro ⟨j, hj, e⟩; exact ⟨j, hj, e.symm⟩
  · rintro ⟨j, hj, e⟩; exact ⟨j, hj, e.symm⟩)
theorem At.next {leaves kn nd nx : List Int} {lv : Nat} (h : At leaves lv kn) (hf : Fill kn nd nx (len kn)) : At leaves (lv + 1) nx := fun x => by
  have hp : ∀ j : Int, j / 2 ^ lv / 2 = j / 2 ^ (lv + 1) := fun j => by
    rw [Int.pow_succ, Int.ediv_ediv_of_nonneg (Int.pow_nonneg (by decide))]
  rw [hf.2.1, take_all]
  constructor
  · rintro ⟨j, hj, rfl⟩
    obtain ⟨i, hi, rfl⟩ := (h j).1 hj
    exact ⟨i, hi, hp i⟩
  · rintro ⟨i, hi, rfl⟩
    exact ⟨i / 2 ^ lv, (h _).2 ⟨i, hi, rfl⟩, (hp i).symm⟩
theorem At.u64 {leaves kn : List Int} {lv : Nat} (h : At leaves lv kn) (hu : ∀ k ∈ leaves, U64 k) : ∀ k ∈ kn, U64 k := by
  intro k hk
  obtain ⟨j, hj, rfl⟩ := (h k).1 hk
  have := hu j hj
  unfold U64 at this ⊢
  have hp : (0 : Int) < 2 ^ lv := Int.pow_pos (by decide)
  exact ⟨Int.ediv_nonneg this.1 (by omega), Int.le_trans (Int.ediv_le_self _ this.1) this.2⟩
def Laid8 (W : World) (base : Nat) (v : Value) (rs : List (List Int)) : Prop := ∃ vals : List Value, W.ownsRow base 64 1 v vals.length vals ∧ RowsAre W base vals rs
theorem Laid8.nil (W : World) (base : Nat) : Laid8 W base (.slice none 0 0) [] := ⟨[], World.ownsRow_nil _ _ _ _, RowsAre.nil _ _⟩
theorem Laid8.below {W W' : World} {base : Nat} {v : Value} {rs : List (List Int)} (h : Laid8 W base v rs) (hb : Below W.heap.size W W') : Laid8 W' base v rs := by
  obtain ⟨vals, h1, h2⟩ := h; exact ⟨vals, own_below h1 hb, h2.below hb⟩
end Go.Proofs.YtpobhbdomldecaaGreatDoor
namespace Go.Proofs.YtpobhbdomldecaaGreatDoor
open Go.RowKit Go.ChangeMaps
set_option linter.unusedSimpArgs false
set_option linter.unusedVariables false
theorem flat_row_len (rs : List (List Int)) (i : Nat) (hi : i < len rs) : (flatAt rs (i + 1) 0).length = (flatAt rs i 0).length + len (rnth rs i) := by
  rw [← flatAt_row rs i hi]
  unfold flatAt
  rw [take_len, List.take_zero, List.map_nil, List.append_nil, List.length_append, List.length_map]
  rfl
end Go.Proofs.YtpobhbdomldecaaGreatDoor
