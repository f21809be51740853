/- Parts of the proof, one behind the other. -/
import Derived.Test.YtpobhbdomldecaaGreatDoorHtxP3
import Derived.Laws.AppendOwn
import Derived.Laws.MakeOwn
import Derived.BigQuiet
import Derived.Defers
import Derived.Recover
import Derived.Maps.AppendAt
import Derived.ArgAppend
import Derived.Laws.AppendOwnNone
import Derived.ProofKit
import Derived.OpenShut
import Derived.ShutString
import Derived.ChangeOld
import Derived.Deep.Slices
import Derived.Deep.Fields
import Derived.ChangeMaps5
import Derived.LaidMore
import Derived.LaidHandle
import Derived.Stop.Joined
import Derived.ChangeVars
import Derived.JoinedOf
import Derived.RowKitTokens
import Derived.Test.YtpobhbdomldecaaGreatDoorCards
import Derived.Test.YtpobhbdomldecaaGreatDoorTie
import Derived.SevenTiedAt
namespace Go.Proofs.YtpobhbdomldecaaGreatDoor
open Go.RowKit Go.Great
set_option linter.unusedSimpArgs false
set_option linter.unusedVariables false
theorem blocksW_snoc (m : Nat) (v : St8) (l : List UInt8) : blocksW (m + 1) v l = pressW (blocksW m v l) ((l.drop (64 * m)).take 64) := by
  rw [blocksW_add m 1]; rfl
theorem info_b8R : (Tryz.prog.info? 5).map (fun i => (i.zero, i.size, i.bytes)) = some (some (.int .u8 0), 1, 1) := by kernel_rfl
def z32R : Array Value := madeCells (Value.int .u8 0).cells (32 * 1)
theorem make_z32R (W : World) : (Instr.makeSlice 41 (.int .i64 0) (.int .i64 32)).run Tryz.prog W = .ok (.slice (some ⟨W.heap.size, 0, none⟩) 0 32) (W.alloc (.cells z32R 5)) := by
  obtain ⟨i0, hi, hz0, hz1, hz2⟩ := info_parts info_b8R
  have hr := run_make (P := Tryz.prog) W 41 5 i0 (.int .u8 0) Tryz.underlying41 hi hz0 .i64 .i64 0 32 (by omega) (by omega) (by rw [hz2]; omega) (by omega)
  rw [hr, hz1]; rfl
theorem wsC8 (v : St8) : (wsC (stL v)).size = 8 := rfl
theorem wsC8_one (v : St8) : (wsC (stL v)).all (·.oneCell') = true := by kernel_rfl
set_option maxRecDepth 100000 in
set_option maxHeartbeats 8000000 in
theorem rsum_any (s : ByteArray) (w : World) (hs : s.size ≤ 1152921504606846976) :
    Calls Tryz.prog 137 #[.string s] w fun e w' => e = .returned (.string (shaP s)) ∧ Below w.heap.size w w' := by
  have HS := Lib.hid hs
  clear hs
  go_enter Tryz.func137, Tryz.ntmps137
  go_upto_region 2 with fail
  obtain ⟨nb, hnb⟩ : ∃ nb, w.heap.size = nb := ⟨_, rfl⟩
  have hC0 : (#[.int .u32 1779033703, .int .u32 3144134277, .int .u32 1013904242, .int .u32 2773480762, .int .u32 1359893119, .int .u32 2600822924, .int .u32 528734635, .int .u32 1541459225] : Array Value) = wsC (stL st0) := by kernel_rfl
  rw [hnb, hC0]
  obtain ⟨V, hV⟩ : ∃ V, w.alloc (.cells (wsC (stL st0)) 222) = V := ⟨_, rfl⟩
  rw [hV]
  have HNB : Hid (V.heap[nb]? = some (.cells (wsC (stL st0)) 222 (0, 0))) := Lib.hid (by rw [← hV]; exact alloc_new_at _ hnb)
  have HW : Hid (Below w.heap.size w V) := Lib.hid (by rw [← hV]; exact balloc (Below.refl _ w) _)
  have HNW : Hid (w.heap.size ≤ nb) := Lib.hid (Nat.le_of_eq hnb)
  clear hV hnb hC0
  go_wp2_with fail
  refine (rpadded_any s V HS.out).mono ?_
  rintro e w2 ⟨rfl, hb2⟩
  have HNB := Lib.hid ((hb2.block _ (lt_of_block HNB.out)).trans HNB.out)
  have HW := Lib.hid (bnext HW.out hb2)
  clear hb2
  obtain ⟨pl, hpl⟩ : ∃ pl, padW s.data.toList = pl := ⟨_, rfl⟩
  obtain ⟨PP, hPP⟩ : ∃ PP, padS s = PP := ⟨_, rfl⟩
  have HPL : Hid (PP.data.toList = pl) := Lib.hid (by rw [← hPP, ← hpl]; rfl)
  obtain ⟨N, hN⟩ : ∃ N, pl.length = 64 * N := ⟨pl.length / 64, by have := padW_len s.data.toList; rw [hpl] at this; omega⟩
  have HN := Lib.hid hN
  have HPS : Hid (PP.size = 64 * N) := Lib.hid (by rw [← hN, ← HPL.out, data_size])
  have HPB : Hid (64 * N ≤ 4611686018427387904) := Lib.hid (by
    rw [← hN, ← hpl]
    unfold padW zerosW num8
    simp only [List.length_append, List.length_replicate, List.length_map, List.length_range, List.length_singleton, data_size]
    have := HS.out
    omega)
  rw [hPP]
  have HPW := Lib.hid hpl
  clear hpl hPP hN
  go_upto_region 4 with fail
  go_loopg [5] N (fun g i wr => ∃ m c : Nat, g + m = N ∧ i = .int .i64 (c : Nat) ∧ Hid (c = 64 * m) ∧ Hid (wr.heap[nb]? = some (.cells (wsC (stL (blocksW m st0 pl))) 222 (0, 0))) ∧ Hid (Below w.heap.size w wr))
  case atStart => exact ⟨0, 0, rfl, rfl, Lib.hid rfl, HNB, HW⟩
  case round =>
    clear HNB HW
    obtain ⟨m, c, hm, rfl, HC, HNB, HW⟩ := hrel
    by_cases hlt : m < N
    · have hc64 := HC.out
      have hps := HPS.out
      have hpb := HPB.out
      have i1 : (c : Int) < (PP.size : Int) := by omega
      have s1 : IntKind.i64.wrap (((c : Nat) : Int) + 64) = ((c : Nat) : Int) + 64 := IntWalk.i64_in _ (by omega)
      obtain ⟨SB, hSB⟩ : ∃ SB, PP.extract c (c + 64) = SB := ⟨_, rfl⟩
      have HSB : Hid (SB.data.toList = (pl.drop c).take 64) := Lib.hid (by
        rw [← hSB, ← HPL.out]
        simp [ByteArray.data_extract, List.extract_eq_take_drop])
      have HSZ : Hid (SB.size = 64) := Lib.hid (by rw [← hSB, ByteArray.size_extract]; omega)
      obtain ⟨W, hW⟩ : ∃ W, wr = W := ⟨_, rfl⟩
      rw [hW] at HNB HW ⊢
      obtain ⟨v8, hv8⟩ : ∃ v8, blocksW m st0 pl = v8 := ⟨_, rfl⟩
      rw [hv8] at HNB
      have HV2 : Hid (blocksW (m + 1) st0 pl = pressW v8 SB.data.toList) := Lib.hid (by rw [blocksW_snoc, hv8, HSB.out, HC.out])
      obtain ⟨CV, hCV⟩ : ∃ CV, wsC (stL v8) = CV := ⟨_, rfl⟩
      obtain ⟨CV2, hCV2⟩ : ∃ CV2, wsC (stL (pressW v8 SB.data.toList)) = CV2 := ⟨_, rfl⟩
      have HRB : Hid (∀ w9 : World, Calls Tryz.prog 188 #[.agg CV, .string SB] w9 fun e w' => e = .returned (.agg CV2) ∧ Below w9.heap.size w9 w') := Lib.hid (fun w9 => by rw [← hCV, ← hCV2]; exact rblock_any v8 SB w9 HSZ.out)
      have HI : Hid ((Tryz.prog.info? 222).map (·.size) = some CV.size) := Lib.hid (by rw [← hCV, wsC8]; kernel_rfl)
      have HI2 : Hid ((Tryz.prog.info? 222).map (·.size) = some CV2.size) := Lib.hid (by rw [← hCV2, wsC8]; kernel_rfl)
      have HO2 : Hid (CV2.all (·.oneCell') = true) := Lib.hid (by rw [← hCV2]; exact wsC8_one _)
      have HE2 : Hid (CV.size = CV2.size) := Lib.hid (by rw [← hCV, ← hCV2, wsC8, wsC8])
      rw [hCV] at HNB
      have HCV2 := Lib.hid hCV2
      have s2 : (0 : Int) ≤ (c : Int) ∧ (c : Int) ≤ (c : Int) + 64 := by omega
      have s3 : (0 : Int) ≤ (c : Int) + 64 ∧ (c : Int) + 64 ≤ (PP.size : Int) := by omega
      have s4 : ((c : Int) + 64).toNat = c + 64 := by omega
      have s5 : PP.extract c (c + 64) = SB := hSB
      clear hCV hCV2 hW hv8 hc64 hps hpb hSB
      go_upto_region 6 with fail
      refine wp_region_tail 7 1000 (none) (phis [fun u _ => u = (.agg CV), fun u _ => u = (.string PP), fun u _ => u = (.int .i64 (c : Nat)), fun u _ => u = (.int .i64 (c : Nat)), fun u _ => u = (.int .i64 ((c : Nat) + 64)), fun u _ => u = (.string SB), fun u _ => u = (.agg CV2)]) rfl (by kernel_rfl) (by kernel_rfl) (mono_of ⟨mono_eq, mono_eq, mono_eq, mono_eq, mono_eq, mono_eq, mono_eq, trivial⟩) (steps_of 7 ⟨?s0, ?s1, ?s2, ?s3, ?s4, ?s5, ?s6, trivial⟩) ?_
      case s0 =>
        refine step_wp (fun av wv hE hS hO hD => ?_)
        have h3 : av.eval (.tmp 3) = (.pointer (some ⟨nb, 0, none⟩)) := hO.2.2 3 rfl
        have f3 := (ev_form av 3).symm.trans h3
        refine ⟨rfl, ?_⟩
        exact wp_load_row 222 _ rfl nb h3 222 CV (0, 0) _ (extB_block hE (by simp) HNB.out) Tryz.underlying222 rfl HI.out ⟨_, rfl, es_of_ext (Ext_refl _), rfl⟩
      case s1 =>
        refine step_val (v := (.string PP)) (fun av wv hE hS hO hD => ?_) (fun _ => rfl)
        have h4 : av.eval (.tmp 4) = (.string PP) := hO.2.2 4 rfl
        have f4 := (ev_form av 4).symm.trans h4
        refine ⟨rfl, ?_⟩
        simp [go_sem, f4, s1, s2, s3, s4, s5]
      case s2 =>
        refine step_val (v := (.int .i64 (c : Nat))) (fun av wv hE hS hO hD => ?_) (fun _ => rfl)
        have h5 : av.eval (.tmp 5) = (.int .i64 (c : Nat)) := hO.2.2 5 rfl
        have f5 := (ev_form av 5).symm.trans h5
        refine ⟨rfl, ?_⟩
        simp [go_sem, f5, s1, s2, s3, s4, s5]
      case s3 =>
        refine step_val (v := (.int .i64 (c : Nat))) (fun av wv hE hS hO hD => ?_) (fun _ => rfl)
        have h5 : av.eval (.tmp 5) = (.int .i64 (c : Nat)) := hO.2.2 5 rfl
        have f5 := (ev_form av 5).symm.trans h5
        refine ⟨rfl, ?_⟩
        simp [go_sem, f5, s1, s2, s3, s4, s5]
      case s4 =>
        refine step_val (v := (.int .i64 ((c : Nat) + 64))) (fun av wv hE hS hO hD => ?_) (fun _ => rfl)
        have d20 : av.eval (.tmp 20) = (.int .i64 (c : Nat)) := hD.1 rfl _ rfl
        have f20 := (ev_form av 20).symm.trans d20
        refine ⟨rfl, ?_⟩
        simp [go_sem, f20, s1, s2, s3, s4, s5]
      case s5 =>
        refine step_val (v := (.string SB)) (fun av wv hE hS hO hD => ?_) (fun _ => rfl)
        have d18 : av.eval (.tmp 18) = (.string PP) := hD.1 rfl _ rfl
        have f18 := (ev_form av 18).symm.trans d18
        have d19 : av.eval (.tmp 19) = (.int .i64 (c : Nat)) := hD.2.1 rfl _ rfl
        have f19 := (ev_form av 19).symm.trans d19
        have d21 : av.eval (.tmp 21) = (.int .i64 ((c : Nat) + 64)) := hD.2.2.1 rfl _ rfl
        have f21 := (ev_form av 21).symm.trans d21
        refine ⟨rfl, ?_⟩
        simp [go_sem, f18, f19, f21, s1, s2, s3, s4, s5]
      case s6 =>
        refine step_wp (fun av wv hE hS hO hD => ?_)
        have d17 : av.eval (.tmp 17) = (.agg CV) := hD.1 rfl _ rfl
        have f17 := (ev_form av 17).symm.trans d17
        have d22 : av.eval (.tmp 22) = (.string SB) := hD.2.1 rfl _ rfl
        have f22 := (ev_form av 22).symm.trans d22
        refine ⟨rfl, ?_⟩
        refine wp_of_call (v := .agg CV2) (by simp [go_sem, f17, f22]) (HRB.out wv) (fun w2 hb => ⟨_, rfl, es_of_ext hb, rfl⟩)
      intro a' w' hE hO hall
      have hA := act_of_outer (ds := [17, 18, 19, 20, 21, 22, 23]) rfl hO (by kernel_rfl)
      have e17 : (fun u _ => u = (.agg CV)) (a'.eval (.tmp 17)) w' := hall.1 _ rfl
      have e18 : (fun u _ => u = (.string PP)) (a'.eval (.tmp 18)) w' := hall.2.1 _ rfl
      have e19 : (fun u _ => u = (.int .i64 (c : Nat))) (a'.eval (.tmp 19)) w' := hall.2.2.1 _ rfl
      have e20 : (fun u _ => u = (.int .i64 (c : Nat))) (a'.eval (.tmp 20)) w' := hall.2.2.2.1 _ rfl
      have e21 : (fun u _ => u = (.int .i64 ((c : Nat) + 64))) (a'.eval (.tmp 21)) w' := hall.2.2.2.2.1 _ rfl
      have e22 : (fun u _ => u = (.string SB)) (a'.eval (.tmp 22)) w' := hall.2.2.2.2.2.1 _ rfl
      have e23 : (fun u _ => u = (.agg CV2)) (a'.eval (.tmp 23)) w' := hall.2.2.2.2.2.2.1 _ rfl
      simp only [List.foldl_cons, List.foldl_nil, Act.put, List.setIfInBounds_toArray, List.set_cons_succ, List.set_cons_zero, e17, e18, e19, e20, e21, e22, e23] at hA
      clear hO hall e17 e18 e19 e20 e21 e22 e23
      subst hA
      have hX := of_drew hE
      have HNB := Lib.hid ((hX.block _ (lt_of_block HNB.out)).trans HNB.out)
      have HW := Lib.hid (bnext HW.out hX)
      clear hE hX s1 s2 s3 s4 s5
      go_upto_region 5 with (first | (refine wpList_store_row ?_ 222 (.tmp 3) (.tmp 23) ?_ nb CV2 ?_ ?_ 222 _ HNB.out HI2.out ?_ HO2.out ?_; rfl; rfl; rfl; rfl; exact HE2.out; skip))
      have HNB2 : Hid ((w'.setRow nb CV2).heap[nb]? = some (.cells (wsC (stL (blocksW (m + 1) st0 pl))) 222 (0, 0))) := Lib.hid (by rw [HV2.out, HCV2.out]; exact setRow_heap _ _ _ _ _ _ HNB.out)
      have HW2 : Hid (Below w.heap.size w (w'.setRow nb CV2)) := Lib.hid (by
        have h1 := HW.out
        exact ⟨h1.os, h1.tape, h1.output, by rw [setRow_size]; exact h1.size, fun i hi => by rw [setRow_other _ _ _ _ (show i ≠ nb by have := HNW.out; omega)]; exact h1.block i hi⟩)
      have iw : IntKind.i64.wrap (((c : Nat) : Int) + 64) = ((c : Nat) : Int) + 64 := IntWalk.i64_in _ (by have := HC.out; have := HPB.out; omega)
      go_wp2
      go_roundg (N - (m + 1))
      case rel => exact ⟨m + 1, c + 64, by omega, by go_num, Lib.hid (by rw [HC.out]; omega), HNB2, HW2⟩
      case measure => omega
    · obtain rfl : m = N := by omega
      have i1 : ¬ (c : Int) < (PP.size : Int) := by have := HC.out; have := HPS.out; omega
      obtain ⟨z, hz⟩ : ∃ z, blocksW m st0 pl = z := ⟨_, rfl⟩
      have HZ : Hid (shaL s.data.toList = outW z) := Lib.hid (by
        unfold shaL foldW
        rw [HPW.out, HN.out, Nat.mul_div_cancel_left _ (by decide), hz])
      rw [hz] at HNB
      clear hz
      obtain ⟨i0, hi, hz0, hz1, hz2⟩ := info_parts info_b8R
      have HZ0 := Lib.hid hz0
      clear hz0 HPL HPB HPW HN hm
      have mk := make_z32R
      go_upto_region 10 with fail
      clear mk
      obtain ⟨ob, hob⟩ : ∃ ob, wr.heap.size = ob := ⟨_, rfl⟩
      rw [hob]
      obtain ⟨U, hU⟩ : ∃ U, wr.alloc (.cells z32R 5) = U := ⟨_, rfl⟩
      rw [hU]
      have HNB2 : Hid (U.heap[nb]? = some (.cells (wsC (stL z)) 222 (0, 0))) := Lib.hid (by rw [← hU]; exact block_alloc HNB.out _)
      have HUW : Hid (Below w.heap.size w U) := Lib.hid (by rw [← hU]; exact balloc HW.out _)
      have HLT : Hid (nb < ob ∧ w.heap.size ≤ ob) := Lib.hid ⟨by rw [← hob]; exact lt_of_block HNB.out, by rw [← hob]; exact HW.out.size⟩
      have HUO : Hid (U.ownsRow ob 5 1 (.slice (some ⟨ob, 0, none⟩) 0 32) (4 * 0) ((((stL z).take 0).map word4).flatten.map byV)) := Lib.hid ⟨by simp, .inr ⟨ob, 32, z32R, rfl, Nat.le_refl _, by rw [← hU]; exact alloc_new_at _ hob, by decide, by decide, size_madeCells _ _, by simp⟩⟩
      have HUOB : Hid (ob ≤ U.heap.size) := Lib.hid (by rw [← hU, ← hob]; simp)
      clear hU hob HNB HW
      go_loopg [7, 6] 8 (fun g i o wr => ∃ m : Nat, g + m = 8 ∧ i = .int .i64 m ∧ Hid (wr.ownsRow ob 5 1 o (4 * m) ((((stL z).take m).map word4).flatten.map byV)) ∧ Hid (wr.heap[nb]? = some (.cells (wsC (stL z)) 222 (0, 0))) ∧ Hid (Below w.heap.size w wr) ∧ Hid (ob ≤ wr.heap.size))
      case atStart => exact ⟨0, rfl, rfl, HUO, HNB2, HUW, HUOB⟩
      case round =>
        clear HUO HNB2 HUW HUOB
        obtain ⟨m, hm, rfl, HO, HNB, HW, HOB⟩ := hrel
        by_cases hlt : m < 8
        · have i1 : (m : Int) < 8 := by omega
          obtain ⟨X, hX⟩ : ∃ X, wth (stL z) m = X := ⟨_, rfl⟩
          have HX := Lib.hid hX
          obtain ⟨OV, hOV⟩ : ∃ OV, u6 = OV := ⟨_, rfl⟩
          rw [hOV] at HO ⊢
          obtain ⟨W, hW⟩ : ∃ W, wr = W := ⟨_, rfl⟩
          rw [hW] at HO HW HNB HOB ⊢
          have cx : W.cell? ⟨nb, m, none⟩ = some (.int .u32 (wI X)) := by
            rw [block_cell HNB.out, ← hX]
            exact wsC_at (stL z) m hlt
          have bi : ¬ (8 : Int) ≤ (m : Int) := by omega
          have bin : ¬ 8 ≤ m := by omega
          have v1 : IntKind.u8.wrap (wI X / 16777216) = wI X / 16777216 % 256 := IntKind.wrap_u8 _
          have v2 : IntKind.u8.wrap (wI X / 65536) = wI X / 65536 % 256 := IntKind.wrap_u8 _
          have v3 : IntKind.u8.wrap (wI X / 256) = wI X / 256 % 256 := IntKind.wrap_u8 _
          have v4 : IntKind.u8.wrap (wI X) = wI X % 256 := IntKind.wrap_u8 _
          clear hX hW hOV
          go_upto_region 11 with fail
          refine wp_region_tail 21 1000 (none) (phis [fun u _ => u = (OV), fun u _ => u = (.int .i64 (m : Nat)), fun u _ => u = (.pointer (some ⟨nb, m, none⟩)), fun u _ => u = (.int .u32 (wI X)), fun u _ => u = (.int .u32 (wI X / 16777216)), fun u _ => u = (.int .u8 (wI X / 16777216 % 256)), fun u _ => u = (.int .i64 (m : Nat)), fun u _ => u = (.pointer (some ⟨nb, m, none⟩)), fun u _ => u = (.int .u32 (wI X)), fun u _ => u = (.int .u32 (wI X / 65536)), fun u _ => u = (.int .u8 (wI X / 65536 % 256)), fun u _ => u = (.int .i64 (m : Nat)), fun u _ => u = (.pointer (some ⟨nb, m, none⟩)), fun u _ => u = (.int .u32 (wI X)), fun u _ => u = (.int .u32 (wI X / 256)), fun u _ => u = (.int .u8 (wI X / 256 % 256)), fun u _ => u = (.int .i64 (m : Nat)), fun u _ => u = (.pointer (some ⟨nb, m, none⟩)), fun u _ => u = (.int .u32 (wI X)), fun u _ => u = (.int .u8 (wI X % 256)), fun uu w' => ∃ c, uu = .slice (some ⟨c, 0, none⟩) 4 4 ∧ w'.heap[c]? = some (.cells #[.int .u8 (wI X / 16777216 % 256), .int .u8 (wI X / 65536 % 256), .int .u8 (wI X / 256 % 256), .int .u8 (wI X % 256)] 5 (0, 0))]) rfl (by kernel_rfl) (by kernel_rfl) (mono_of ⟨mono_eq, mono_eq, mono_eq, mono_eq, mono_eq, mono_eq, mono_eq, mono_eq, mono_eq, mono_eq, mono_eq, mono_eq, mono_eq, mono_eq, mono_eq, mono_eq, mono_eq, mono_eq, mono_eq, mono_eq, ?m20, trivial⟩) (steps_of 21 ⟨?s0, ?s1, ?s2, ?s3, ?s4, ?s5, ?s6, ?s7, ?s8, ?s9, ?s10, ?s11, ?s12, ?s13, ?s14, ?s15, ?s16, ?s17, ?s18, ?s19, ?s20, trivial⟩) ?_
          case m20 =>
            exact ⟨fun uu w1 w2 h ⟨c, h1, h2⟩ => ⟨c, h1, ext_block h h2⟩, fun _ uu w1 w2 h ⟨c, h1, h2⟩ => ⟨c, h1, extB_block h (by simp) h2⟩⟩
          case s0 =>
            refine step_val (v := (OV)) (fun av wv hE hS hO hD => ?_) (fun _ => rfl)
            have h6 : av.eval (.tmp 6) = (OV) := hO.2.2 6 rfl
            have f6 := (ev_form av 6).symm.trans h6
            refine ⟨rfl, ?_⟩
            simp [go_sem, f6, bi, bin, v1, v2, v3, v4]
          case s1 =>
            refine step_val (v := (.int .i64 (m : Nat))) (fun av wv hE hS hO hD => ?_) (fun _ => rfl)
            have h7 : av.eval (.tmp 7) = (.int .i64 (m : Nat)) := hO.2.2 7 rfl
            have f7 := (ev_form av 7).symm.trans h7
            refine ⟨rfl, ?_⟩
            simp [go_sem, f7, bi, bin, v1, v2, v3, v4]
          case s2 =>
            refine step_val (v := (.pointer (some ⟨nb, m, none⟩))) (fun av wv hE hS hO hD => ?_) (fun _ => rfl)
            have h3 : av.eval (.tmp 3) = (.pointer (some ⟨nb, 0, none⟩)) := hO.2.2 3 rfl
            have f3 := (ev_form av 3).symm.trans h3
            have d30 : av.eval (.tmp 30) = (.int .i64 (m : Nat)) := hD.1 rfl _ rfl
            have f30 := (ev_form av 30).symm.trans d30
            refine ⟨rfl, ?_⟩
            simp [go_sem, f3, f30, bi, bin, v1, v2, v3, v4]
          case s3 =>
            refine step_val (v := (.int .u32 (wI X))) (fun av wv hE hS hO hD => ?_) (fun _ => rfl)
            have d31 : av.eval (.tmp 31) = (.pointer (some ⟨nb, m, none⟩)) := hD.1 rfl _ rfl
            have f31 := (ev_form av 31).symm.trans d31
            have cx := extB_cell hE (by simp) cx
            refine ⟨rfl, ?_⟩
            simp [go_sem, f31, cx, bi, bin, v1, v2, v3, v4]
          case s4 =>
            refine step_val (v := (.int .u32 (wI X / 16777216))) (fun av wv hE hS hO hD => ?_) (fun _ => rfl)
            have d32 : av.eval (.tmp 32) = (.int .u32 (wI X)) := hD.1 rfl _ rfl
            have f32 := (ev_form av 32).symm.trans d32
            refine ⟨rfl, ?_⟩
            simp [go_sem, f32, bi, bin, v1, v2, v3, v4]
          case s5 =>
            refine step_val (v := (.int .u8 (wI X / 16777216 % 256))) (fun av wv hE hS hO hD => ?_) (fun _ => rfl)
            have d33 : av.eval (.tmp 33) = (.int .u32 (wI X / 16777216)) := hD.1 rfl _ rfl
            have f33 := (ev_form av 33).symm.trans d33
            refine ⟨rfl, ?_⟩
            simp [go_sem, f33, bi, bin, v1, v2, v3, v4]
          case s6 =>
            refine step_val (v := (.int .i64 (m : Nat))) (fun av wv hE hS hO hD => ?_) (fun _ => rfl)
            have h7 : av.eval (.tmp 7) = (.int .i64 (m : Nat)) := hO.2.2 7 rfl
            have f7 := (ev_form av 7).symm.trans h7
            refine ⟨rfl, ?_⟩
            simp [go_sem, f7, bi, bin, v1, v2, v3, v4]
          case s7 =>
            refine step_val (v := (.pointer (some ⟨nb, m, none⟩))) (fun av wv hE hS hO hD => ?_) (fun _ => rfl)
            have h3 : av.eval (.tmp 3) = (.pointer (some ⟨nb, 0, none⟩)) := hO.2.2 3 rfl
            have f3 := (ev_form av 3).symm.trans h3
            have d35 : av.eval (.tmp 35) = (.int .i64 (m : Nat)) := hD.1 rfl _ rfl
            have f35 := (ev_form av 35).symm.trans d35
            refine ⟨rfl, ?_⟩
            simp [go_sem, f3, f35, bi, bin, v1, v2, v3, v4]
          case s8 =>
            refine step_val (v := (.int .u32 (wI X))) (fun av wv hE hS hO hD => ?_) (fun _ => rfl)
            have d36 : av.eval (.tmp 36) = (.pointer (some ⟨nb, m, none⟩)) := hD.1 rfl _ rfl
            have f36 := (ev_form av 36).symm.trans d36
            have cx := extB_cell hE (by simp) cx
            refine ⟨rfl, ?_⟩
            simp [go_sem, f36, cx, bi, bin, v1, v2, v3, v4]
          case s9 =>
            refine step_val (v := (.int .u32 (wI X / 65536))) (fun av wv hE hS hO hD => ?_) (fun _ => rfl)
            have d37 : av.eval (.tmp 37) = (.int .u32 (wI X)) := hD.1 rfl _ rfl
            have f37 := (ev_form av 37).symm.trans d37
            refine ⟨rfl, ?_⟩
            simp [go_sem, f37, bi, bin, v1, v2, v3, v4]
          case s10 =>
            refine step_val (v := (.int .u8 (wI X / 65536 % 256))) (fun av wv hE hS hO hD => ?_) (fun _ => rfl)
            have d38 : av.eval (.tmp 38) = (.int .u32 (wI X / 65536)) := hD.1 rfl _ rfl
            have f38 := (ev_form av 38).symm.trans d38
            refine ⟨rfl, ?_⟩
            simp [go_sem, f38, bi, bin, v1, v2, v3, v4]
          case s11 =>
            refine step_val (v := (.int .i64 (m : Nat))) (fun av wv hE hS hO hD => ?_) (fun _ => rfl)
            have h7 : av.eval (.tmp 7) = (.int .i64 (m : Nat)) := hO.2.2 7 rfl
            have f7 := (ev_form av 7).symm.trans h7
            refine ⟨rfl, ?_⟩
            simp [go_sem, f7, bi, bin, v1, v2, v3, v4]
          case s12 =>
            refine step_val (v := (.pointer (some ⟨nb, m, none⟩))) (fun av wv hE hS hO hD => ?_) (fun _ => rfl)
            have h3 : av.eval (.tmp 3) = (.pointer (some ⟨nb, 0, none⟩)) := hO.2.2 3 rfl
            have f3 := (ev_form av 3).symm.trans h3
            have d40 : av.eval (.tmp 40) = (.int .i64 (m : Nat)) := hD.1 rfl _ rfl
            have f40 := (ev_form av 40).symm.trans d40
            refine ⟨rfl, ?_⟩
            simp [go_sem, f3, f40, bi, bin, v1, v2, v3, v4]
          case s13 =>
            refine step_val (v := (.int .u32 (wI X))) (fun av wv hE hS hO hD => ?_) (fun _ => rfl)
            have d41 : av.eval (.tmp 41) = (.pointer (some ⟨nb, m, none⟩)) := hD.1 rfl _ rfl
            have f41 := (ev_form av 41).symm.trans d41
            have cx := extB_cell hE (by simp) cx
            refine ⟨rfl, ?_⟩
            simp [go_sem, f41, cx, bi, bin, v1, v2, v3, v4]
          case s14 =>
            refine step_val (v := (.int .u32 (wI X / 256))) (fun av wv hE hS hO hD => ?_) (fun _ => rfl)
            have d42 : av.eval (.tmp 42) = (.int .u32 (wI X)) := hD.1 rfl _ rfl
            have f42 := (ev_form av 42).symm.trans d42
            refine ⟨rfl, ?_⟩
            simp [go_sem, f42, bi, bin, v1, v2, v3, v4]
          case s15 =>
            refine step_val (v := (.int .u8 (wI X / 256 % 256))) (fun av wv hE hS hO hD => ?_) (fun _ => rfl)
            have d43 : av.eval (.tmp 43) = (.int .u32 (wI X / 256)) := hD.1 rfl _ rfl
            have f43 := (ev_form av 43).symm.trans d43
            refine ⟨rfl, ?_⟩
            simp [go_sem, f43, bi, bin, v1, v2, v3, v4]
          case s16 =>
            refine step_val (v := (.int .i64 (m : Nat))) (fun av wv hE hS hO hD => ?_) (fun _ => rfl)
            have h7 : av.eval (.tmp 7) = (.int .i64 (m : Nat)) := hO.2.2 7 rfl
            have f7 := (ev_form av 7).symm.trans h7
            refine ⟨rfl, ?_⟩
            simp [go_sem, f7, bi, bin, v1, v2, v3, v4]
          case s17 =>
            refine step_val (v := (.pointer (some ⟨nb, m, none⟩))) (fun av wv hE hS hO hD => ?_) (fun _ => rfl)
            have h3 : av.eval (.tmp 3) = (.pointer (some ⟨nb, 0, none⟩)) := hO.2.2 3 rfl
            have f3 := (ev_form av 3).symm.trans h3
            have d45 : av.eval (.tmp 45) = (.int .i64 (m : Nat)) := hD.1 rfl _ rfl
            have f45 := (ev_form av 45).symm.trans d45
            refine ⟨rfl, ?_⟩
            simp [go_sem, f3, f45, bi, bin, v1, v2, v3, v4]
          case s18 =>
            refine step_val (v := (.int .u32 (wI X))) (fun av wv hE hS hO hD => ?_) (fun _ => rfl)
            have d46 : av.eval (.tmp 46) = (.pointer (some ⟨nb, m, none⟩)) := hD.1 rfl _ rfl
            have f46 := (ev_form av 46).symm.trans d46
            have cx := extB_cell hE (by simp) cx
            refine ⟨rfl, ?_⟩
            simp [go_sem, f46, cx, bi, bin, v1, v2, v3, v4]
          case s19 =>
            refine step_val (v := (.int .u8 (wI X % 256))) (fun av wv hE hS hO hD => ?_) (fun _ => rfl)
            have d47 : av.eval (.tmp 47) = (.int .u32 (wI X)) := hD.1 rfl _ rfl
            have f47 := (ev_form av 47).symm.trans d47
            refine ⟨rfl, ?_⟩
            simp [go_sem, f47, bi, bin, v1, v2, v3, v4]
          case s20 =>
            refine step_wp (fun av wv hE hS hO hD => ?_)
            have d34 : av.eval (.tmp 34) = (.int .u8 (wI X / 16777216 % 256)) := hD.1 rfl _ rfl
            have f34 := (ev_form av 34).symm.trans d34
            have d39 : av.eval (.tmp 39) = (.int .u8 (wI X / 65536 % 256)) := hD.2.1 rfl _ rfl
            have f39 := (ev_form av 39).symm.trans d39
            have d44 : av.eval (.tmp 44) = (.int .u8 (wI X / 256 % 256)) := hD.2.2.1 rfl _ rfl
            have f44 := (ev_form av 44).symm.trans d44
            have d48 : av.eval (.tmp 48) = (.int .u8 (wI X % 256)) := hD.2.2.2.1 rfl _ rfl
            have f48 := (ev_form av 48).symm.trans d48
            refine ⟨rfl, ?_⟩
            exact wp_of_run (v := .slice (some ⟨wv.heap.size, 0, none⟩) 4 4) (w' := wv.alloc (.cells #[.int .u8 (wI X / 16777216 % 256), .int .u8 (wI X / 65536 % 256), .int .u8 (wI X / 256 % 256), .int .u8 (wI X % 256)] 5)) (by simp [go_sem, f34, f39, f44, f48]) ⟨_, rfl, es_of_ext (balloc (Ext_refl _) _), wv.heap.size, rfl, heap_alloc_new _ _⟩
          intro a' w' hE hO hall
          have hA := act_of_outer (ds := [29, 30, 31, 32, 33, 34, 35, 36, 37, 38, 39, 40, 41, 42, 43, 44, 45, 46, 47, 48, 49]) rfl hO (by kernel_rfl)
          have e29 : (fun u _ => u = (OV)) (a'.eval (.tmp 29)) w' := hall.1 _ rfl
          have e30 : (fun u _ => u = (.int .i64 (m : Nat))) (a'.eval (.tmp 30)) w' := hall.2.1 _ rfl
          have e31 : (fun u _ => u = (.pointer (some ⟨nb, m, none⟩))) (a'.eval (.tmp 31)) w' := hall.2.2.1 _ rfl
          have e32 : (fun u _ => u = (.int .u32 (wI X))) (a'.eval (.tmp 32)) w' := hall.2.2.2.1 _ rfl
          have e33 : (fun u _ => u = (.int .u32 (wI X / 16777216))) (a'.eval (.tmp 33)) w' := hall.2.2.2.2.1 _ rfl
          have e34 : (fun u _ => u = (.int .u8 (wI X / 16777216 % 256))) (a'.eval (.tmp 34)) w' := hall.2.2.2.2.2.1 _ rfl
          have e35 : (fun u _ => u = (.int .i64 (m : Nat))) (a'.eval (.tmp 35)) w' := hall.2.2.2.2.2.2.1 _ rfl
          have e36 : (fun u _ => u = (.pointer (some ⟨nb, m, none⟩))) (a'.eval (.tmp 36)) w' := hall.2.2.2.2.2.2.2.1 _ rfl
          have e37 : (fun u _ => u = (.int .u32 (wI X))) (a'.eval (.tmp 37)) w' := hall.2.2.2.2.2.2.2.2.1 _ rfl
          have e38 : (fun u _ => u = (.int .u32 (wI X / 65536))) (a'.eval (.tmp 38)) w' := hall.2.2.2.2.2.2.2.2.2.1 _ rfl
          have e39 : (fun u _ => u = (.int .u8 (wI X / 65536 % 256))) (a'.eval (.tmp 39)) w' := hall.2.2.2.2.2.2.2.2.2.2.1 _ rfl
          have e40 : (fun u _ => u = (.int .i64 (m : Nat))) (a'.eval (.tmp 40)) w' := hall.2.2.2.2.2.2.2.2.2.2.2.1 _ rfl
          have e41 : (fun u _ => u = (.pointer (some ⟨nb, m, none⟩))) (a'.eval (.tmp 41)) w' := hall.2.2.2.2.2.2.2.2.2.2.2.2.1 _ rfl
          have e42 : (fun u _ => u = (.int .u32 (wI X))) (a'.eval (.tmp 42)) w' := hall.2.2.2.2.2.2.2.2.2.2.2.2.2.1 _ rfl
          have e43 : (fun u _ => u = (.int .u32 (wI X / 256))) (a'.eval (.tmp 43)) w' := hall.2.2.2.2.2.2.2.2.2.2.2.2.2.2.1 _ rfl
          have e44 : (fun u _ => u = (.int .u8 (wI X / 256 % 256))) (a'.eval (.tmp 44)) w' := hall.2.2.2.2.2.2.2.2.2.2.2.2.2.2.2.1 _ rfl
          have e45 : (fun u _ => u = (.int .i64 (m : Nat))) (a'.eval (.tmp 45)) w' := hall.2.2.2.2.2.2.2.2.2.2.2.2.2.2.2.2.1 _ rfl
          have e46 : (fun u _ => u = (.pointer (some ⟨nb, m, none⟩))) (a'.eval (.tmp 46)) w' := hall.2.2.2.2.2.2.2.2.2.2.2.2.2.2.2.2.2.1 _ rfl
          have e47 : (fun u _ => u = (.int .u32 (wI X))) (a'.eval (.tmp 47)) w' := hall.2.2.2.2.2.2.2.2.2.2.2.2.2.2.2.2.2.2.1 _ rfl
          have e48 : (fun u _ => u = (.int .u8 (wI X % 256))) (a'.eval (.tmp 48)) w' := hall.2.2.2.2.2.2.2.2.2.2.2.2.2.2.2.2.2.2.2.1 _ rfl
          have e49 : (fun uu w' => ∃ c, uu = .slice (some ⟨c, 0, none⟩) 4 4 ∧ w'.heap[c]? = some (.cells #[.int .u8 (wI X / 16777216 % 256), .int .u8 (wI X / 65536 % 256), .int .u8 (wI X / 256 % 256), .int .u8 (wI X % 256)] 5 (0, 0))) (a'.eval (.tmp 49)) w' := hall.2.2.2.2.2.2.2.2.2.2.2.2.2.2.2.2.2.2.2.2.1 _ rfl
          obtain ⟨v49, hv49⟩ : ∃ v, a'.eval (.tmp 49) = v := ⟨_, rfl⟩
          rw [hv49] at e49
          simp only [List.foldl_cons, List.foldl_nil, Act.put, List.setIfInBounds_toArray, List.set_cons_succ, List.set_cons_zero, e29, e30, e31, e32, e33, e34, e35, e36, e37, e38, e39, e40, e41, e42, e43, e44, e45, e46, e47, e48, hv49] at hA
          clear hO hall e29 e30 e31 e32 e33 e34 e35 e36 e37 e38 e39 e40 e41 e42 e43 e44 e45 e46 e47 e48 hv49
          subst hA
          have hX := of_drew hE
          have HO2 := Lib.hid (own_below HO.out hX)
          have HNB2 := Lib.hid ((hX.block _ (lt_of_block HNB.out)).trans HNB.out)
          have HW2 : Hid (Below w.heap.size w w') := Lib.hid (bnext HW.out hX)
          have HOB2 : Hid (ob ≤ w'.heap.size) := Lib.hid (Nat.le_trans HOB.out hX.size)
          obtain ⟨cb, rfl, hcb⟩ := e49
          have HCB := Lib.hid hcb
          clear hX hE cx bi bin v1 v2 v3 v4 HOB HNB HW hcb
          have hmm : 4 * m ≤ 32 := by omega
          simp only [List.drop_succ_cons, List.drop_zero]
          go_wp2_with (at_builtin; refine wpList_append_own _ rfl _ _ 41 rfl ob 5 i0 (.int .u8 0) 1 1 Tryz.underlying41 hi HZ0.out hz1 hz2 rfl (by decide) _ _ _ rfl HO2.out ⟨cb, 0, none⟩ 4 4 [.int .u8 (wI X / 16777216 % 256), .int .u8 (wI X / 65536 % 256), .int .u8 (wI X / 256 % 256), .int .u8 (wI X % 256)] rfl rfl (World.news_of_block HCB.out) (by intro u hu; simp at hu; rcases hu with rfl | rfl | rfl | rfl <;> rfl) (by unfold maxLen; omega) (by omega) HOB2.out ?_; intro v9 w4 hown2 hgrow2 _)
          have HO3 : Hid (w4.ownsRow ob 5 1 v9 (4 * (m + 1)) ((((stL z).take (m + 1)).map word4).flatten.map byV)) := Lib.hid (by
            rw [outW_snoc z m hlt, HX.out, List.map_append, ← word4_vals]
            exact hown2)
          have HNB3 : Hid (w4.heap[nb]? = some (.cells (wsC (stL z)) 222 (0, 0))) := Lib.hid ((hgrow2.block nb (lt_of_block HNB2.out) (fun e => by
            have := (HO2.out.lt nb e.symm).1
            have := HLT.out.1
            omega)).trans HNB2.out)
          have HW3 : Hid (Below w.heap.size w w4) := Lib.hid (grownBy_below HW2.out hgrow2 (fun k hk' => Nat.le_trans HLT.out.2 (HO2.out.lt k hk').1))
          have HOB3 : Hid (ob ≤ w4.heap.size) := Lib.hid (Nat.le_trans HOB2.out hgrow2.size)
          clear hown2 hgrow2
          go_wp2
          go_roundg (8 - (m + 1))
          case rel => exact ⟨m + 1, by omega, by go_num, HO3, HNB3, HW3, HOB3⟩
          case measure => omega
        · obtain rfl : m = 8 := by omega
          have i1 : ¬ ((8 : Nat) : Int) < 8 := by decide
          have HO2 : Hid (wr.ownsRow ob 5 1 u6 32 ((shaL s.data.toList).map byV)) := Lib.hid (by
            have h1 := HO.out
            rw [show (stL z).take 8 = stL z from rfl, outW_eq, ← HZ.out] at h1
            exact h1)
          have cv := conv_own HO2.out (shaL_len s.data.toList) (by decide)
          go_wp2
          go_ret
          exact ⟨rfl, HW.out⟩
end Go.Proofs.YtpobhbdomldecaaGreatDoor
namespace Go.Proofs.YtpobhbdomldecaaGreatDoor
open Go.RowKit
set_option linter.unusedSimpArgs false
set_option linter.unusedVariables false
theorem ofNat_byV (x : Nat) : Value.int .u8 ((x : Int) % 256) = byV (UInt8.ofNat x) := by
  unfold byV
  rw [UInt8.toNat_ofNat']
  congr 1
theorem num8_drop (N m : Nat) (h : m < 8) : (num8 N).drop (8 - (m + 1)) = UInt8.ofNat (N / 256 ^ m) :: (num8 N).drop (8 - m) := by
  have h8 : 8 - (m + 1) < (num8 N).length := by rw [num8_len]; omega
  rw [List.drop_eq_getElem_cons h8, show 8 - (m + 1) + 1 = 8 - m by omega]
  congr 1
  have h9 := num8_get N (8 - (m + 1)) (by omega)
  rw [List.getElem?_eq_getElem h8] at h9
  have h10 := Option.some.inj h9
  rw [h10, show 7 - (8 - (m + 1)) = m by omega]
set_option maxRecDepth 100000 in
set_option maxHeartbeats 4000000 in
theorem rnum_any (N : Nat) (w : World) (hN : N < 18446744073709551616) : Calls Tryz.prog 186 #[.int .u64 (N : Nat)] w fun e w' => e = .returned (.string (num8S N)) ∧ Below w.heap.size w w' := by
  have HN := Lib.hid hN
  clear hN
  go_enter Tryz.func186, Tryz.ntmps186
  go_upto_region 3 with fail
  go_loopg [4, 3, 0] 8 (fun g i x n wr => ∃ (m : Nat) (X : ByteArray), g + m = 8 ∧ i = .int .i64 m ∧ x = .string X ∧ n = .int .u64 ((N / 256 ^ m : Nat) : Int) ∧ Hid (X.data.toList = (num8 N).drop (8 - m)) ∧ Hid (Below w.heap.size w wr))
  case atStart => exact ⟨0, ⟨#[]⟩, rfl, rfl, rfl, by rw [Nat.pow_zero, Nat.div_one], Lib.hid (by rw [List.drop_of_length_le (by rw [num8_len]; decide)]), Lib.hid (Below.refl _ _)⟩
  case round =>
    obtain ⟨m, X, hm, rfl, rfl, rfl, HX, HW⟩ := hrel
    by_cases hlt : m < 8
    · have i1 : (m : Int) < 8 := by omega
      obtain ⟨x, hx⟩ : ∃ x, N / 256 ^ m = x := ⟨_, rfl⟩
      have HXX : Hid (N / 256 ^ (m + 1) = x / 256) := Lib.hid (by rw [Nat.pow_succ, ← Nat.div_div_eq_div_mul, hx])
      have hx6 : x < 18446744073709551616 := by rw [← hx]; exact Nat.lt_of_le_of_lt (Nat.div_le_self _ _) HN.out
      obtain ⟨b9, hb9⟩ : ∃ b9, UInt8.ofNat x = b9 := ⟨_, rfl⟩
      have HB9 : Hid (Value.int .u8 ((x : Int) % 256) = byV b9) := Lib.hid (by rw [ofNat_byV, hb9])
      have cv : (convert 41 9 (.slice (some ⟨wr.heap.size, 0, none⟩) 1 1)).run Tryz.prog (wr.alloc (.cells #[.int .u8 ((x : Int) % 256)] 5)) = .ok (.string ⟨#[b9]⟩) (wr.alloc (.cells #[.int .u8 ((x : Int) % 256)] 5)) := by
        rw [HB9.out]
        exact conv_new wr 5 1 1 [b9] rfl
      have HX2 : Hid (((⟨#[b9]⟩ : ByteArray) ++ X).data.toList = (num8 N).drop (8 - (m + 1))) := Lib.hid (by
        rw [app_data, HX.out, num8_drop N m hlt, hx, hb9]
        rfl)
      have q2 : 1 + X.size ≤ 9223372036854775807 := by
        have h1 := congrArg List.length HX.out
        rw [data_size, List.length_drop, num8_len] at h1
        omega
      rw [hx]
      have HE : Hid (((x : Nat) : Int) / 256 = ((N / 256 ^ (m + 1) : Nat) : Int)) := Lib.hid (by rw [HXX.out]; rfl)
      clear hx hb9
      go_wp2
      go_roundg (8 - (m + 1))
      case rel => exact ⟨m + 1, _, by omega, by go_num, rfl, by rw [HE.out], HX2, by (repeat (first | exact Below.refl _ _ | assumption | (refine bdrew ?_) | (refine bdrewN ?_ _) | (refine balloc ?_ _) | (refine bset ?_ (by first | omega | (simp; done) | (simp; omega)) _) | (refine bnext ?_ (by assumption))))⟩
      case measure => omega
    · obtain rfl : m = 8 := by omega
      have i1 : ¬ ((8 : Nat) : Int) < 8 := by decide
      have HF : Hid (X = num8S N) := Lib.hid (ba_eq (by rw [HX.out]; rfl))
      go_wp2
      go_ret
      exact ⟨by rw [HF.out]; rfl, HW.out⟩
end Go.Proofs.YtpobhbdomldecaaGreatDoor
namespace Go.Proofs.YtpobhbdomldecaaGreatDoor
open Go.RowKit
set_option linter.unusedSimpArgs false
set_option linter.unusedVariables false
set_option maxRecDepth 100000 in
set_option maxHeartbeats 4000000 in
theorem rframe_any (tag : ByteArray) (parts : List ByteArray) (a : Option Addr) (cap : Nat) (w : World) (h1 : 1 ≤ tag.size) (h2 : tag.size ≤ 16) (hp : Txts w a parts) (hs : (partsL parts).length ≤ 140737488355300) :
    Calls Tryz.prog 136 #[.string tag, .slice a (len parts) cap] w fun e w' => e = .returned (.string (frameS tag parts)) ∧ Below w.heap.size w w' := by
  have HP := Lib.hid hp
  have HS := Lib.hid hs
  have HT2 := Lib.hid h2
  have HPL : Hid (len parts ≤ 140737488355300) := Lib.hid (by have := partsL_ge parts; rw [len_eq]; omega)
  have t1 : ¬ (tag.size : Int) < 1 := by omega
  have t2 : ¬ (16 : Int) < (tag.size : Int) := by omega
  have t3 : IntKind.u8.wrap ((tag.size : Nat) : Int) = ((tag.size : Nat) : Int) := IntWalk.u8_in _ (by omega)
  have t4 : 1 + tag.size ≤ 9223372036854775807 := by omega
  have HB9 : Hid (Value.int .u8 ((tag.size : Nat) : Int) = byV (UInt8.ofNat tag.size)) := Lib.hid (by
    unfold byV
    rw [UInt8.toNat_ofNat', Nat.mod_eq_of_lt (by omega)])
  have cv : (convert 41 9 (.slice (some ⟨w.heap.size, 0, none⟩) 1 1)).run Tryz.prog (w.alloc (.cells #[.int .u8 ((tag.size : Nat) : Int)] 5)) = .ok (.string ⟨#[UInt8.ofNat tag.size]⟩) (w.alloc (.cells #[.int .u8 ((tag.size : Nat) : Int)] 5)) := by
    rw [HB9.out]
    exact conv_new w 5 1 1 [UInt8.ofNat tag.size] rfl
  clear hp hs h1 h2
  go_enter Tryz.func136, Tryz.ntmps136
  go_upto_region 5 with fail
  obtain ⟨X0, hX0⟩ : ∃ X0, (⟨#[UInt8.ofNat tag.size]⟩ : ByteArray) ++ tag = X0 := ⟨_, rfl⟩
  rw [hX0]
  have HX0 : Hid (X0.data.toList = headL tag ++ partsL (parts.take 0)) := Lib.hid (by rw [← hX0, app_data, List.take_zero, show partsL [] = [] from rfl, List.append_nil]; rfl)
  have HW0 : Hid (Below w.heap.size w (w.alloc (.cells #[.int .u8 ((tag.size : Nat) : Int)] 5))) := Lib.hid (balloc (Below.refl _ _) _)
  clear hX0 t1 t2 t3 t4 cv
  go_loopg [6, 5] (len parts) (fun g i x wr => ∃ (m : Nat) (X : ByteArray), g + m = len parts ∧ i = .int .i64 m ∧ x = .string X ∧ Hid (X.data.toList = headL tag ++ partsL (parts.take m)) ∧ Hid (Below w.heap.size w wr))
  case atStart => exact ⟨0, X0, rfl, rfl, rfl, HX0, HW0⟩
  case round =>
    clear HX0 HW0
    obtain ⟨m, X, hm, rfl, rfl, HX, HW⟩ := hrel
    have HPB := HPL.out
    by_cases hlt : m < len parts
    · have b0 : (m : Int) < len parts := by omega
      obtain ⟨pb, po, rfl, cs⟩ := (HP.out.below HW.out) m hlt
      obtain ⟨p, hx⟩ : ∃ p, tth parts m = p := ⟨_, rfl⟩
      rw [hx] at cs
      have hsz : X.size + (8 + p.size) ≤ 140737488355328 := by
        have h1 := congrArg List.length HX.out
        rw [data_size, List.length_append, headL_len] at h1
        have h2 := partsL_le parts (m + 1)
        rw [partsL_snoc _ _ hlt, List.length_append, hx, partL_len] at h2
        have := HS.out
        have := HT2.out
        omega
      have bl : ¬ len parts ≤ m := by omega
      have u1 : IntKind.u64.wrap ((p.size : Nat) : Int) = ((p.size : Nat) : Int) := IntWalk.u64_in _ (by omega)
      have q1 : X.size + (num8S p.size).size ≤ 9223372036854775807 := by rw [num8S_size]; omega
      have q2 : X.size + (num8S p.size).size + p.size ≤ 9223372036854775807 := by rw [num8S_size]; omega
      have HNM := Lib.hid (fun w9 => rnum_any p.size w9 (by omega))
      have HX2 : Hid (((X ++ num8S p.size) ++ p).data.toList = headL tag ++ partsL (parts.take (m + 1))) := Lib.hid (by
        rw [app_data, app_data, HX.out, partsL_snoc _ _ hlt, hx]
        unfold partL
        simp only [List.append_assoc]
        rfl)
      clear hx hsz
      go_upto_region 7 with fail
      refine wp_region_tail 14 1000 (none) (phis [fun u _ => u = (.string X), fun u _ => u = (.slice (some ⟨pb, po, none⟩) (len parts) cap), fun u _ => u = (.int .i64 (m : Nat)), fun u _ => u = (.pointer (some ⟨pb, po + m, none⟩)), fun u _ => u = (.string p), fun u _ => u = (.int .i64 (p.size : Nat)), fun u _ => u = (.int .u64 (p.size : Nat)), fun u _ => u = (.string (num8S p.size)), fun u _ => u = (.string (X ++ num8S p.size)), fun u _ => u = (.slice (some ⟨pb, po, none⟩) (len parts) cap), fun u _ => u = (.int .i64 (m : Nat)), fun u _ => u = (.pointer (some ⟨pb, po + m, none⟩)), fun u _ => u = (.string p), fun u _ => u = (.string ((X ++ num8S p.size) ++ p))]) rfl (by kernel_rfl) (by kernel_rfl) (mono_of ⟨mono_eq, mono_eq, mono_eq, mono_eq, mono_eq, mono_eq, mono_eq, mono_eq, mono_eq, mono_eq, mono_eq, mono_eq, mono_eq, mono_eq, trivial⟩) (steps_of 14 ⟨?s0, ?s1, ?s2, ?s3, ?s4, ?s5, ?s6, ?s7, ?s8, ?s9, ?s10, ?s11, ?s12, ?s13, trivial⟩) ?_
      case s0 =>
        refine step_val (v := (.string X)) (fun av wv hE hS hO hD => ?_) (fun _ => rfl)
        have h5 : av.eval (.tmp 5) = (.string X) := hO.2.2 5 rfl
        have f5 := (ev_form av 5).symm.trans h5
        refine ⟨rfl, ?_⟩
        simp [go_sem, f5, bl, u1, q1, q2]
      case s1 =>
        refine step_val (v := (.slice (some ⟨pb, po, none⟩) (len parts) cap)) (fun av wv hE hS hO hD => ?_) (fun _ => rfl)
        have h1 : av.eval (.tmp 1) = (.slice (some ⟨pb, po, none⟩) (len parts) cap) := hO.2.2 1 rfl
        have f1 := (ev_form av 1).symm.trans h1
        refine ⟨rfl, ?_⟩
        simp [go_sem, f1, bl, u1, q1, q2]
      case s2 =>
        refine step_val (v := (.int .i64 (m : Nat))) (fun av wv hE hS hO hD => ?_) (fun _ => rfl)
        have h6 : av.eval (.tmp 6) = (.int .i64 (m : Nat)) := hO.2.2 6 rfl
        have f6 := (ev_form av 6).symm.trans h6
        refine ⟨rfl, ?_⟩
        simp [go_sem, f6, bl, u1, q1, q2]
      case s3 =>
        refine step_val (v := (.pointer (some ⟨pb, po + m, none⟩))) (fun av wv hE hS hO hD => ?_) (fun _ => rfl)
        have d29 : av.eval (.tmp 29) = (.slice (some ⟨pb, po, none⟩) (len parts) cap) := hD.1 rfl _ rfl
        have f29 := (ev_form av 29).symm.trans d29
        have d30 : av.eval (.tmp 30) = (.int .i64 (m : Nat)) := hD.2.1 rfl _ rfl
        have f30 := (ev_form av 30).symm.trans d30
        refine ⟨rfl, ?_⟩
        simp [go_sem, f29, f30, bl, u1, q1, q2]
      case s4 =>
        refine step_val (v := (.string p)) (fun av wv hE hS hO hD => ?_) (fun _ => rfl)
        have d31 : av.eval (.tmp 31) = (.pointer (some ⟨pb, po + m, none⟩)) := hD.1 rfl _ rfl
        have f31 := (ev_form av 31).symm.trans d31
        have cs := extB_cell hE (by simp) cs
        refine ⟨rfl, ?_⟩
        simp [go_sem, f31, cs, bl, u1, q1, q2]
      case s5 =>
        refine step_val (v := (.int .i64 (p.size : Nat))) (fun av wv hE hS hO hD => ?_) (fun _ => rfl)
        have d32 : av.eval (.tmp 32) = (.string p) := hD.1 rfl _ rfl
        have f32 := (ev_form av 32).symm.trans d32
        refine ⟨rfl, ?_⟩
        simp [go_sem, f32, bl, u1, q1, q2]
      case s6 =>
        refine step_val (v := (.int .u64 (p.size : Nat))) (fun av wv hE hS hO hD => ?_) (fun _ => rfl)
        have d33 : av.eval (.tmp 33) = (.int .i64 (p.size : Nat)) := hD.1 rfl _ rfl
        have f33 := (ev_form av 33).symm.trans d33
        refine ⟨rfl, ?_⟩
        simp [go_sem, f33, bl, u1, q1, q2]
      case s7 =>
        refine step_wp (fun av wv hE hS hO hD => ?_)
        have d34 : av.eval (.tmp 34) = (.int .u64 (p.size : Nat)) := hD.1 rfl _ rfl
        have f34 := (ev_form av 34).symm.trans d34
        refine ⟨rfl, ?_⟩
        refine wp_of_call (v := .string (num8S p.size)) (by simp [go_sem, f34]) (HNM.out wv) (fun w2 hb => ⟨_, rfl, es_of_ext hb, rfl⟩)
      case s8 =>
        refine step_val (v := (.string (X ++ num8S p.size))) (fun av wv hE hS hO hD => ?_) (fun _ => rfl)
        have d28 : av.eval (.tmp 28) = (.string X) := hD.1 rfl _ rfl
        have f28 := (ev_form av 28).symm.trans d28
        have d35 : av.eval (.tmp 35) = (.string (num8S p.size)) := hD.2.1 rfl _ rfl
        have f35 := (ev_form av 35).symm.trans d35
        refine ⟨rfl, ?_⟩
        simp [go_sem, f28, f35, bl, u1, q1, q2]
      case s9 =>
        refine step_val (v := (.slice (some ⟨pb, po, none⟩) (len parts) cap)) (fun av wv hE hS hO hD => ?_) (fun _ => rfl)
        have h1 : av.eval (.tmp 1) = (.slice (some ⟨pb, po, none⟩) (len parts) cap) := hO.2.2 1 rfl
        have f1 := (ev_form av 1).symm.trans h1
        refine ⟨rfl, ?_⟩
        simp [go_sem, f1, bl, u1, q1, q2]
      case s10 =>
        refine step_val (v := (.int .i64 (m : Nat))) (fun av wv hE hS hO hD => ?_) (fun _ => rfl)
        have h6 : av.eval (.tmp 6) = (.int .i64 (m : Nat)) := hO.2.2 6 rfl
        have f6 := (ev_form av 6).symm.trans h6
        refine ⟨rfl, ?_⟩
        simp [go_sem, f6, bl, u1, q1, q2]
      case s11 =>
        refine step_val (v := (.pointer (some ⟨pb, po + m, none⟩))) (fun av wv hE hS hO hD => ?_) (fun _ => rfl)
        have d37 : av.eval (.tmp 37) = (.slice (some ⟨pb, po, none⟩) (len parts) cap) := hD.1 rfl _ rfl
        have f37 := (ev_form av 37).symm.trans d37
        have d38 : av.eval (.tmp 38) = (.int .i64 (m : Nat)) := hD.2.1 rfl _ rfl
        have f38 := (ev_form av 38).symm.trans d38
        refine ⟨rfl, ?_⟩
        simp [go_sem, f37, f38, bl, u1, q1, q2]
      case s12 =>
        refine step_val (v := (.string p)) (fun av wv hE hS hO hD => ?_) (fun _ => rfl)
        have d39 : av.eval (.tmp 39) = (.pointer (some ⟨pb, po + m, none⟩)) := hD.1 rfl _ rfl
        have f39 := (ev_form av 39).symm.trans d39
        have cs := extB_cell hE (by simp) cs
        refine ⟨rfl, ?_⟩
        simp [go_sem, f39, cs, bl, u1, q1, q2]
      case s13 =>
        refine step_val (v := (.string ((X ++ num8S p.size) ++ p))) (fun av wv hE hS hO hD => ?_) (fun _ => rfl)
        have d36 : av.eval (.tmp 36) = (.string (X ++ num8S p.size)) := hD.1 rfl _ rfl
        have f36 := (ev_form av 36).symm.trans d36
        have d40 : av.eval (.tmp 40) = (.string p) := hD.2.1 rfl _ rfl
        have f40 := (ev_form av 40).symm.trans d40
        refine ⟨rfl, ?_⟩
        simp [go_sem, f36, f40, bl, u1, q1, q2]
      intro a' w' hE hO hall
      have hA := act_of_outer (ds := [28, 29, 30, 31, 32, 33, 34, 35, 36, 37, 38, 39, 40, 41]) rfl hO (by kernel_rfl)
      have e28 : (fun u _ => u = (.string X)) (a'.eval (.tmp 28)) w' := hall.1 _ rfl
      have e29 : (fun u _ => u = (.slice (some ⟨pb, po, none⟩) (len parts) cap)) (a'.eval (.tmp 29)) w' := hall.2.1 _ rfl
      have e30 : (fun u _ => u = (.int .i64 (m : Nat))) (a'.eval (.tmp 30)) w' := hall.2.2.1 _ rfl
      have e31 : (fun u _ => u = (.pointer (some ⟨pb, po + m, none⟩))) (a'.eval (.tmp 31)) w' := hall.2.2.2.1 _ rfl
      have e32 : (fun u _ => u = (.string p)) (a'.eval (.tmp 32)) w' := hall.2.2.2.2.1 _ rfl
      have e33 : (fun u _ => u = (.int .i64 (p.size : Nat))) (a'.eval (.tmp 33)) w' := hall.2.2.2.2.2.1 _ rfl
      have e34 : (fun u _ => u = (.int .u64 (p.size : Nat))) (a'.eval (.tmp 34)) w' := hall.2.2.2.2.2.2.1 _ rfl
      have e35 : (fun u _ => u = (.string (num8S p.size))) (a'.eval (.tmp 35)) w' := hall.2.2.2.2.2.2.2.1 _ rfl
      have e36 : (fun u _ => u = (.string (X ++ num8S p.size))) (a'.eval (.tmp 36)) w' := hall.2.2.2.2.2.2.2.2.1 _ rfl
      have e37 : (fun u _ => u = (.slice (some ⟨pb, po, none⟩) (len parts) cap)) (a'.eval (.tmp 37)) w' := hall.2.2.2.2.2.2.2.2.2.1 _ rfl
      have e38 : (fun u _ => u = (.int .i64 (m : Nat))) (a'.eval (.tmp 38)) w' := hall.2.2.2.2.2.2.2.2.2.2.1 _ rfl
      have e39 : (fun u _ => u = (.pointer (some ⟨pb, po + m, none⟩))) (a'.eval (.tmp 39)) w' := hall.2.2.2.2.2.2.2.2.2.2.2.1 _ rfl
      have e40 : (fun u _ => u = (.string p)) (a'.eval (.tmp 40)) w' := hall.2.2.2.2.2.2.2.2.2.2.2.2.1 _ rfl
      have e41 : (fun u _ => u = (.string ((X ++ num8S p.size) ++ p))) (a'.eval (.tmp 41)) w' := hall.2.2.2.2.2.2.2.2.2.2.2.2.2.1 _ rfl
      simp only [List.foldl_cons, List.foldl_nil, Act.put, List.setIfInBounds_toArray, List.set_cons_succ, List.set_cons_zero, e28, e29, e30, e31, e32, e33, e34, e35, e36, e37, e38, e39, e40, e41] at hA
      clear hO hall e28 e29 e30 e31 e32 e33 e34 e35 e36 e37 e38 e39 e40 e41
      subst hA
      have HW2 : Hid (Below w.heap.size w w') := Lib.hid (bnext HW.out (of_drew hE))
      clear hE cs bl u1 q1 q2
      go_wp2
      go_roundg (len parts - (m + 1))
      case rel => exact ⟨m + 1, _, by omega, by go_num, rfl, HX2, HW2⟩
      case measure => omega
    · obtain rfl : m = len parts := by omega
      have b0 : ¬ ((len parts : Nat) : Int) < len parts := by omega
      have HF : Hid (X = frameS tag parts) := Lib.hid (ba_eq (by rw [HX.out, take_len]; rfl))
      go_wp2
      go_ret
      exact ⟨by rw [HF.out]; rfl, HW.out⟩
end Go.Proofs.YtpobhbdomldecaaGreatDoor
namespace Go.Proofs.YtpobhbdomldecaaGreatDoor
open Go.RowKit
set_option linter.unusedSimpArgs false
set_option linter.unusedVariables false
set_option maxRecDepth 100000 in
set_option maxHeartbeats 4000000 in
theorem rhash_any (tag : ByteArray) (parts : List ByteArray) (a : Option Addr) (cap : Nat) (w : World) (h1 : 1 ≤ tag.size) (h2 : tag.size ≤ 16) (hp : Txts w a parts) (hs : (partsL parts).length ≤ 140737488355300) :
    Calls Tryz.prog 81 #[.string tag, .slice a (len parts) cap] w fun e w' => e = .returned (.string (hashP tag parts)) ∧ Below w.heap.size w w' := by
  have HF := Lib.hid (rframe_any tag parts a cap w h1 h2 hp hs)
  have HS : Hid (1 ≤ (frameS tag parts).size ∧ (frameS tag parts).size ≤ 140737488355328) := Lib.hid (by rw [frameS_size]; omega)
  clear h1 h2 hp hs
  go_enter Tryz.func81, Tryz.ntmps81
  go_wp2_with fail
  refine HF.out.mono ?_
  rintro e w1 ⟨rfl, hb1⟩
  have HB1 := Lib.hid hb1
  have t1 : (frameS tag parts).toList.isEmpty = false := fullT (by have := HS.out; omega)
  clear hb1
  go_wp2_with fail
  refine (rsum_any (frameS tag parts) w1 (by have := HS.out; omega)).mono ?_
  rintro e w2 ⟨rfl, hb2⟩
  have HB2 : Hid (Below w.heap.size w w2) := Lib.hid (bnext HB1.out hb2)
  clear hb2
  go_wp2
  go_ret
  exact ⟨rfl, HB2.out⟩
theorem rhash0_any (tag : ByteArray) (w : World) (h1 : 1 ≤ tag.size) (h2 : tag.size ≤ 16) : Calls Tryz.prog 81 #[.string tag, .slice none 0 0] w fun e w' => e = .returned (.string (hashP tag [])) ∧ Below w.heap.size w w' :=
  rhash_any tag [] none 0 w h1 h2 (Txts.nil _ _) (by decide)
theorem txts_rcells {w : World} {b : Nat} {t : TypeId} (l : List ByteArray) (h : w.heap[b]? = some (.cells (l.map Value.string).toArray t (0, 0))) : Txts w (some ⟨b, 0, none⟩) l := fun i hi => ⟨b, 0, rfl, by
  have h2 : i < l.length := hi
  rw [block_cell h, Nat.zero_add, List.getElem?_toArray, List.getElem?_map, List.getElem?_eq_getElem h2, tth_eq l i hi]
  rfl⟩
theorem rhash1_any (tag s : ByteArray) (w : World) (h1 : 1 ≤ tag.size) (h2 : tag.size ≤ 16) (hs : s.size ≤ 140737488355200) : Calls Tryz.prog 81 #[.string tag, .slice (some ⟨w.heap.size, 0, none⟩) 1 1] (w.alloc (.cells #[.string s] 9)) fun e w' => e = .returned (.string (hashP tag [s])) ∧ Below w.heap.size w w' := by
  have hw1 : Txts (w.alloc (.cells #[.string s] 9)) (some ⟨w.heap.size, 0, none⟩) [s] := txts_rcells [s] (heap_alloc_new _ _)
  refine (rhash_any tag [s] (some ⟨w.heap.size, 0, none⟩) 1 _ h1 h2 hw1 (by show ((partL s) ++ []).length ≤ _; rw [List.append_nil, partL_len]; omega)).mono ?_
  rintro e w2 ⟨rfl, hb2⟩
  exact ⟨rfl, bnext (balloc (Below.refl _ _) _) hb2⟩
theorem rhash2_any (tag s t : ByteArray) (w : World) (h1 : 1 ≤ tag.size) (h2 : tag.size ≤ 16) (hs : s.size ≤ 1000000) (ht : t.size ≤ 1000000) : Calls Tryz.prog 81 #[.string tag, .slice (some ⟨w.heap.size, 0, none⟩) 2 2] (w.alloc (.cells #[.string s, .string t] 9)) fun e w' => e = .returned (.string (hashP tag [s, t])) ∧ Below w.heap.size w w' := by
  have hw1 : Txts (w.alloc (.cells #[.string s, .string t] 9)) (some ⟨w.heap.size, 0, none⟩) [s, t] := txts_rcells [s, t] (heap_alloc_new _ _)
  refine (rhash_any tag [s, t] (some ⟨w.heap.size, 0, none⟩) 2 _ h1 h2 hw1 (by show ((partL s) ++ ((partL t) ++ [])).length ≤ _; rw [List.append_nil, List.length_append, partL_len, partL_len]; omega)).mono ?_
  rintro e w2 ⟨rfl, hb2⟩
  exact ⟨rfl, bnext (balloc (Below.refl _ _) _) hb2⟩
end Go.Proofs.YtpobhbdomldecaaGreatDoor
namespace Go.Proofs.YtpobhbdomldecaaGreatDoor
open Go.RowKit Go.ChangeMaps
set_option linter.unusedSimpArgs false
set_option linter.unusedVariables false
structure KlAt (B : Nat) (v : Value) (KL : List Plc) (w : World) : Prop where
  own : w.ownsRow B 279 2 v (len KL) (KL.flatMap Plc.cells)
  ok : ∀ x ∈ KL, 0 ≤ x.K ∧ x.K < 65536 ∧ x.d.size ≤ 1000
theorem KlAt.nil (B : Nat) (w : World) : KlAt B (.slice none 0 0) [] w := ⟨World.ownsRow_nil _ _ _ _, fun x h => by simp at h⟩
theorem KlAt.below {B : Nat} {v : Value} {KL : List Plc} {w w' : World} (h : KlAt B v KL w) (hb : Below w.heap.size w w') : KlAt B v KL w' := ⟨own_below h.own hb, h.ok⟩
end Go.Proofs.YtpobhbdomldecaaGreatDoor
namespace Go.Proofs.YtpobhbdomldecaaGreatDoor
open Go.RowKit
set_option linter.unusedSimpArgs false
set_option linter.unusedVariables false
theorem own_ge {base : Nat} {w : World} {e size n : Nat} {v : Value} {xs : List Value} (h : w.ownsRow base e size v n xs) {b : Nat} (hb : w.heap.size ≤ b) : some b ≠ v.ownBlock := fun e => by
  have := h.lt b e.symm; omega
theorem own_lo {base : Nat} {w : World} {e size n : Nat} {v : Value} {xs : List Value} (h : w.ownsRow base e size v n xs) {b : Nat} (hb : b < base) : some b ≠ v.ownBlock := fun e => by
  have := h.lt b e.symm; omega
end Go.Proofs.YtpobhbdomldecaaGreatDoor
namespace Go.Proofs.YtpobhbdomldecaaGreatDoor
open Go.RowKit
set_option linter.unusedSimpArgs false
set_option linter.unusedVariables false
structure PrIn (ps : List Int) (es ds : List ByteArray) (pa ea da : Option Addr) (dc : Nat) (w : World) : Prop where
  p : U64s w pa ps
  e : Txts w ea es
  d : Txts w da ds
  pl : len ps ≤ 100
  pu : ∀ k ∈ ps, U64 k
  el : len es ≤ 1000000
  dl : len ds ≤ 1000000
  dc_ : len ds ≤ dc
  ez : ∀ i, i < len es → (tth es i).size ≤ 1000000
theorem PrIn.below {ps : List Int} {es ds : List ByteArray} {pa ea da : Option Addr} {dc : Nat} {w w' : World} (h : PrIn ps es ds pa ea da dc w) (hb : Below w.heap.size w w') : PrIn ps es ds pa ea da dc w' :=
  ⟨h.p.below hb, h.e.below hb, h.d.below hb, h.pl, h.pu, h.el, h.dl, h.dc_, h.ez⟩
end Go.Proofs.YtpobhbdomldecaaGreatDoor
namespace Go.Proofs.YtpobhbdomldecaaGreatDoor
open Go.RowKit
set_option linter.unusedSimpArgs false
set_option linter.unusedVariables false
def treeR (l : List ByteArray) : ByteArray := plD l (depN l) (depN l) 0
theorem own_capP {w : World} {base n c : Nat} {a : Option Addr} {xs : List Value} {m : Nat} (h : w.ownsRow base 9 1 (.slice a m c) n xs) : m ≤ c ∧ (a = none → c = 0) := by
  rcases h.2 with ⟨e, _⟩ | ⟨g, cap, cur, e, _, _, h3, _⟩
  · injection e with e1 e2 e3; exact ⟨by omega, fun _ => e3⟩
  · injection e with e1 e2 e3; exact ⟨by omega, fun e9 => by rw [e9] at e1; cases e1⟩
def TextsAre (L : List ByteArray) (v : Value) (w : World) : Prop := ∃ a c, v = .slice a (len L) c ∧ Txts w a L ∧ len L ≤ c ∧ (a = none → c = 0)
theorem TextsAre.below {L : List ByteArray} {v : Value} {w w' : World} (h : TextsAre L v w) (hb : Below w.heap.size w w') : TextsAre L v w' := by
  obtain ⟨a, c, h1, h2, h3, h4⟩ := h
  exact ⟨a, c, h1, h2.below hb, h3, h4⟩
theorem TextsAre.nil (w : World) : TextsAre [] (.slice none 0 0) w := ⟨none, 0, rfl, Txts.nil _ _, Nat.le_refl _, fun _ => rfl⟩
theorem TextsAre.own {w : World} {base n : Nat} {v : Value} {L : List ByteArray} (h : w.ownsRow base 9 1 v n (L.map Value.string)) : TextsAre L v w := by
  obtain ⟨a, c, rfl, ht⟩ := own_txts h
  obtain ⟨h1, h2⟩ := own_capP h
  exact ⟨a, c, rfl, ht, h1, h2⟩
end Go.Proofs.YtpobhbdomldecaaGreatDoor
namespace Go.Proofs.YtpobhbdomldecaaGreatDoor
open Go.RowKit
set_option linter.unusedSimpArgs false
set_option linter.unusedVariables false
structure Hdr where
  rnd : Int
  prev : ByteArray
  txns : ByteArray
  seed : ByteArray
abbrev Hdr.val (r : Hdr) : Value := .agg #[.int .u64 r.rnd, .string r.prev, .string r.txns, .string r.seed]
def Hdr.cells (r : Hdr) : List Value := [.int .u64 r.rnd, .string r.prev, .string r.txns, .string r.seed]
theorem Hdr.cells_len (r : Hdr) : r.cells.length = 4 := rfl
theorem Hdr.cells_one (r : Hdr) : ∀ u ∈ r.cells, u.oneCell' = true := by intro u hu; simp only [Hdr.cells, List.mem_cons, List.not_mem_nil, or_false] at hu; rcases hu with rfl | rfl | rfl | rfl <;> rfl
def Hdr.zero : Hdr := ⟨0, ByteArray.empty, ByteArray.empty, ByteArray.empty⟩
def hnth (l : List Hdr) (i : Nat) : Hdr := l.getD i Hdr.zero
theorem hnth_eq (l : List Hdr) (i : Nat) (h : i < l.length) : hnth l i = l[i] := by unfold hnth; rw [List.getD_eq_getElem?_getD, List.getElem?_eq_getElem h]; rfl
structure HdrAt (w : World) (b o : Nat) (r : Hdr) : Prop where
  c0 : w.cell? ⟨b, o, none⟩ = some (.int .u64 r.rnd)
  c1 : w.cell? ⟨b, o + 1, none⟩ = some (.string r.prev)
  c2 : w.cell? ⟨b, o + 2, none⟩ = some (.string r.txns)
  c3 : w.cell? ⟨b, o + 3, none⟩ = some (.string r.seed)
theorem HdrAt.below {w w' : World} {b o : Nat} {r : Hdr} (h : HdrAt w b o r) (hb : Below w.heap.size w w') : HdrAt w' b o r := by
  have hl := lt_of_cell h.c0
  have e : ∀ q, w'.cell? ⟨b, q, none⟩ = w.cell? ⟨b, q, none⟩ := fun q => hb.cell (p := ⟨b, q, none⟩) hl
  obtain ⟨c0, c1, c2, c3⟩ := h
  constructor <;> (rw [e]; assumption)
def Hdrs (w : World) (a : Option Addr) (l : List Hdr) : Prop := ∀ i, i < len l → ∃ b off, a = some ⟨b, off, none⟩ ∧ HdrAt w b (off + i * 4) (hnth l i)
theorem Hdrs.nil (w : World) (a : Option Addr) : Hdrs w a [] := fun i hi => absurd hi (by simp [len])
theorem Hdrs.below {w w' : World} {a : Option Addr} {l : List Hdr} (h : Hdrs w a l) (hb : Below w.heap.size w w') : Hdrs w' a l := fun i hi => by
  obtain ⟨b, off, rfl, hc⟩ := h i hi
  exact ⟨b, off, rfl, hc.below hb⟩
theorem Hdrs.drew {w w' : World} {a : Option Addr} {l : List Hdr} (h : Hdrs w a l) (hb : Drew w w') : Hdrs w' a l := h.below (hb.below _)
theorem Hdrs.take {w : World} {a : Option Addr} {l : List Hdr} (h : Hdrs w a l) (k : Nat) : Hdrs w a (l.take k) := fun i hi => by
  have hi2 : i < l.length ∧ i < k := by simp only [len, List.length_take] at hi; omega
  have hi3 : i < (l.take k).length := hi
  have e : hnth (l.take k) i = hnth l i := by rw [hnth_eq l i hi2.1, hnth_eq _ i hi3, List.getElem_take]
  rw [e]; exact h i hi2.1
theorem Hdrs.drop {w : World} {b off : Nat} {l : List Hdr} (h : Hdrs w (some ⟨b, off, none⟩) l) (k : Nat) : Hdrs w (some ⟨b, off + k * 4, none⟩) (l.drop k) := fun i hi => by
  have hi2 : k + i < l.length := by simp only [len, List.length_drop] at hi; omega
  have hi3 : i < (l.drop k).length := hi
  have e : hnth (l.drop k) i = hnth l (k + i) := by rw [hnth_eq l _ hi2, hnth_eq _ i hi3, List.getElem_drop]
  obtain ⟨b', off', e2, hc⟩ := h (k + i) hi2
  cases e2
  exact ⟨b, _, rfl, by rw [e, show off + k * 4 + i * 4 = off + (k + i) * 4 by omega]; exact hc⟩
theorem Hdrs.own {w : World} {base e n : Nat} {v : Value} {l : List Hdr} (h : w.ownsRow base e 4 v n (l.flatMap Hdr.cells)) : ∃ a cap, v = .slice a (len l) cap ∧ Hdrs w a l ∧ len l ≤ cap := by
  have hn : len l = n := by have := h.1; rw [flat_length Hdr.cells 4 Hdr.cells_len] at this; rw [len_eq]; omega
  obtain ⟨h1, h2⟩ := h
  rcases h2 with ⟨rfl, h2⟩ | ⟨g, cap, cur, rfl, hg, hh, hc1, hc2, hc3, hc4⟩
  · obtain rfl : l = [] := List.eq_nil_of_length_eq_zero (by rw [← len_eq]; omega)
    exact ⟨none, 0, rfl, Hdrs.nil _ _, Nat.le_refl _⟩
  · refine ⟨some ⟨g, 0, none⟩, cap, by rw [hn], fun i hi => ⟨g, 0, rfl, ?_⟩, by omega⟩
    have hown : w.ownsRow base e 4 (.slice (some ⟨g, 0, none⟩) n cap) n (l.flatMap Hdr.cells) := ⟨h1, .inr ⟨g, cap, cur, rfl, hg, hh, hc1, hc2, hc3, hc4⟩⟩
    have key : ∀ r, r < 4 → w.cell? ⟨g, 0 + i * 4 + r, none⟩ = (hnth l i).cells[r]? := fun r hr => by
      have := hown.cellAt (i * 4 + r) (by rw [← hn]; omega)
      rw [Nat.zero_add, this, flat_get Hdr.cells 4 Hdr.cells_len l i r hi hr, hnth_eq l i hi]
    exact ⟨key 0 (by decide), key 1 (by decide), key 2 (by decide), key 3 (by decide)⟩
theorem Hdrs.block {w : World} {g : Nat} {l : List Hdr} {t : TypeId} {fr : Nat × Nat} (h : w.heap[g]? = some (.cells (l.flatMap Hdr.cells).toArray t fr)) : Hdrs w (some ⟨g, 0, none⟩) l := fun i hi => ⟨g, 0, rfl, by
  have key : ∀ r, r < 4 → w.cell? ⟨g, 0 + i * 4 + r, none⟩ = (hnth l i).cells[r]? := fun r hr => by
    rw [Nat.zero_add, block_cell h, List.getElem?_toArray, flat_get Hdr.cells 4 Hdr.cells_len l i r hi hr, hnth_eq l i hi]
  exact ⟨key 0 (by decide), key 1 (by decide), key 2 (by decide), key 3 (by decide)⟩⟩
structure Hdr.Ok (r : Hdr) : Prop where
  r0 : U64i r.rnd
  p1 : r.prev.size ≤ 1000000
  t1 : r.txns.size ≤ 1000000
  s1 : r.seed.size ≤ 1000000
theorem Hdr.zero_ok : Hdr.zero.Ok := ⟨⟨by decide, by decide⟩, by decide, by decide, by decide⟩
theorem hoks {L : List Hdr} (h : ∀ p ∈ L, p.Ok) : ∀ i, (hnth L i).Ok := fun i => by
  rcases Nat.lt_or_ge i L.length with hi | hi
  · rw [hnth_eq L i hi]; exact h _ (List.getElem_mem hi)
  · unfold hnth; rw [List.getD_eq_getElem?_getD, List.getElem?_eq_none hi]; exact Hdr.zero_ok
def hsp (r : Hdr) : List FSpec := headerSpecs r.rnd r.prev r.txns r.seed
def hOk (r : Hdr) : Bool := allMay (hsp r)
def hbs (r : Hdr) : ByteArray := layP (hsp r)
theorem hOk_eq (r : Hdr) : hOk r = (decide (r.prev.size = 32) && decide (r.seed.size = 32) && decide (r.txns.size = 32)) := may_header _ _ _ _
theorem hbs_size {r : Hdr} (h : hOk r = true) : (hbs r).size ≤ 1000 := headerSz h
def hdg (r : Hdr) : ByteArray := hashP hdrT [hbs r]
theorem hdg_size (r : Hdr) : (hdg r).size = 32 := hashP_size _ _
def stepH (a b : Hdr) : Bool := decide (a.rnd < b.rnd) && decide (b.rnd - a.rnd = 1)
def followH (R : Hdr → Hdr → Bool) (l : List Hdr) : Bool := (List.range (len l)).all fun i => decide (i = 0) || R (hnth l (i - 1)) (hnth l i)
theorem followH_no {R : Hdr → Hdr → Bool} {l : List Hdr} {i : Nat} (hi : i < len l) (h0 : 0 < i) (h : R (hnth l (i - 1)) (hnth l i) = false) : followH R l = false := by
  unfold followH
  rw [List.all_eq_false]
  exact ⟨i, List.mem_range.2 hi, by rw [h]; simp; omega⟩
theorem followH_yes {R : Hdr → Hdr → Bool} {l : List Hdr} (h : ∀ i, i < len l → 0 < i → R (hnth l (i - 1)) (hnth l i) = true) : followH R l = true := by
  unfold followH
  rw [List.all_eq_true]
  intro i hi
  by_cases h0 : i = 0
  · simp [h0]
  · rw [h i (List.mem_range.1 hi) (by omega)]; simp
def laysH (l : List Hdr) : Bool := l.all hOk
theorem laysH_no {l : List Hdr} {i : Nat} (hi : i < len l) (h : hOk (hnth l i) = false) : laysH l = false := by
  unfold laysH
  rw [List.all_eq_false]
  exact ⟨hnth l i, by rw [hnth_eq l i hi]; exact List.getElem_mem hi, by rw [h]; decide⟩
theorem laysH_yes {l : List Hdr} (h : ∀ i, i < len l → hOk (hnth l i) = true) : laysH l = true := by
  unfold laysH
  rw [List.all_eq_true]
  intro x hx
  obtain ⟨i, hi, rfl⟩ := List.getElem_of_mem hx
  have := h i hi
  rwa [hnth_eq l i hi] at this
theorem laysH_at {l : List Hdr} (h : laysH l = true) {i : Nat} (hi : i < len l) : hOk (hnth l i) = true := by
  unfold laysH at h
  rw [hnth_eq l i hi]
  exact List.all_eq_true.1 h _ (List.getElem_mem hi)
def elOk (l : List Hdr) : Bool := decide (0 < len l) && decide (len l ≤ 64) && followH stepH l && laysH l
def elL (l : List Hdr) : List ByteArray := l.map hbs
theorem elL_len (l : List Hdr) : len (elL l) = len l := by unfold elL; rw [len_eq, len_eq, List.length_map]
theorem elL_snoc (l : List Hdr) (m : Nat) (h : m < len l) : elL (l.take (m + 1)) = elL (l.take m) ++ [hbs (hnth l m)] := by
  unfold elL
  have h2 : m < l.length := h
  rw [List.take_succ_eq_append_getElem h2, List.map_append, hnth_eq l m h2]
  rfl
theorem elL_at (l : List Hdr) (i : Nat) (h : i < len l) : tth (elL l) i = hbs (hnth l i) := by
  have h2 : i < l.length := h
  rw [hnth_eq l i h2]
  unfold tth elL
  rw [List.getD_eq_getElem?_getD, List.getElem?_map, List.getElem?_eq_getElem h2]
  rfl
theorem elOk_at {l : List Hdr} (h : elOk l = true) : 0 < len l ∧ len l ≤ 64 ∧ followH stepH l = true ∧ laysH l = true := by
  unfold elOk at h
  simp only [Bool.and_eq_true, decide_eq_true_eq] at h
  exact ⟨h.1.1.1, h.1.1.2, h.1.2, h.2⟩
theorem elOk_of {l : List Hdr} (h1 : 0 < len l) (h2 : len l ≤ 64) (h3 : followH stepH l = true) (h4 : laysH l = true) : elOk l = true := by
  unfold elOk
  rw [decide_eq_true h1, decide_eq_true h2, h3, h4]; rfl
theorem elL_size {l : List Hdr} (h : elOk l = true) : ∀ i, i < len (elL l) → (tth (elL l) i).size ≤ 1000 := fun i hi => by
  rw [elL_len] at hi
  rw [elL_at l i hi]
  exact hbs_size (laysH_at (elOk_at h).2.2.2 hi)
def hroot (l : List Hdr) : ByteArray := treeR (elL l)
def hangH (a b : Hdr) : Bool := decide (b.prev = hdg a)
def linkedH (l : List Hdr) : Bool := elOk l && followH hangH l
def bodsOk (l : List ByteArray) : Bool := decide (len l ≤ 64) && l.all fun s => decide (0 < s.size) && decide (s.size ≤ 64)
def dgS (r : Hdr) : ByteArray := if hOk r = true then hdg r else ⟨#[]⟩
def dgE (r : Hdr) : Int := if hOk r = true then 0 else 2
def DgIs (r : Hdr) (w : World) (e : Ending) (w' : World) : Prop := e = .returned (.tuple #[.string (dgS r), .int .i64 (dgE r)]) ∧ Below w.heap.size w w'
def rtS (l : List Hdr) : ByteArray := if elOk l = true then hroot l else ⟨#[]⟩
def rtE (l : List Hdr) : Int := if elOk l = true then 0 else 2
def RtIs (l : List Hdr) (w : World) (e : Ending) (w' : World) : Prop := e = .returned (.tuple #[.string (rtS l), .int .i64 (rtE l)]) ∧ Below w.heap.size w w'
def txS (l : List ByteArray) : ByteArray := if bodsOk l = true then treeR l else ⟨#[]⟩
def txE (l : List ByteArray) : Int := if bodsOk l = true then 0 else 2
def TxIs (l : List ByteArray) (w : World) (e : Ending) (w' : World) : Prop := e = .returned (.tuple #[.string (txS l), .int .i64 (txE l)]) ∧ Below w.heap.size w w'
end Go.Proofs.YtpobhbdomldecaaGreatDoor
namespace Go.Proofs.YtpobhbdomldecaaGreatDoor
open Go.RowKit
set_option linter.unusedSimpArgs false
set_option linter.unusedVariables false
def zerT : ByteArray := ⟨#[0, 0, 0, 0, 0, 0, 0, 0, 0, 0, 0, 0, 0, 0, 0, 0, 0, 0, 0, 0, 0, 0, 0, 0, 0, 0, 0, 0, 0, 0, 0, 0]⟩
def hAt (n : Int) (p : ByteArray) : Hdr := ⟨n, p, zerT, zerT⟩
theorem hAt_ok {n : Int} {p : ByteArray} (hp : p.size = 32) : hOk (hAt n p) = true := by
  rw [hOk_eq]
  show (decide (p.size = 32) && decide (zerT.size = 32) && decide (zerT.size = 32)) = true
  rw [hp]; rfl
set_option maxRecDepth 100000 in
theorem five_ne : ((hdg (hAt 5 zerT)).data.toList == zerT.data.toList) = false := by kernel_rfl
theorem five_dg : hdg (hAt 5 zerT) ≠ zerT := fun h => by
  have := five_ne
  rw [h] at this
  simp at this
end Go.Proofs.YtpobhbdomldecaaGreatDoor
namespace Go.Proofs.YtpobhbdomldecaaGreatDoor
open Go.RowKit
set_option linter.unusedSimpArgs false
set_option linter.unusedVariables false
structure PT (B : Nat) (w : World) : Prop where
  p : PTab B w
  s : B ≤ w.heap.size
theorem PT.below {B : Nat} {w w' : World} (h : PT B w) (hb : Below w.heap.size w w') : PT B w' := ⟨h.p.keep hb h.s, Nat.le_trans h.s hb.size⟩
def wrongC : List PanicEntry := [{ v := .iface 154 (.agg #[.int .i64 2]), recovered := false }]
theorem hmust_yes (w : World) : Calls Tryz.prog 75 #[.bool true] w fun e w' => e = .returned (.tuple #[]) ∧ w = w' := by
  go_enter Tryz.func75, Tryz.ntmps75
  go_wp2
  go_end0
  exact ⟨rfl, rfl⟩
theorem hmust_no (w : World) : Calls Tryz.prog 75 #[.bool false] w fun e w' => e = .panicked wrongC ∧ w = w' := by
  go_enter Tryz.func75, Tryz.ntmps75
  go_wp2
  exact ⟨rfl, rfl, rfl⟩
theorem hw_any (B : Nat) (r : Hdr) (w : World) (ht : PT B w) (ho : r.Ok) : Calls Tryz.prog 44 #[r.val] w (LaidIs (hsp r) w) :=
  wheader2_any B r.rnd r.prev r.txns r.seed w ht.p ho.r0 (Nat.le_trans ho.p1 (by decide)) (Nat.le_trans ho.t1 (by decide)) (Nat.le_trans ho.s1 (by decide)) (fun h => Nat.le_trans (headerSz h) (by decide))
theorem hw_yes (B : Nat) (r : Hdr) (w : World) (ht : PT B w) (ho : r.Ok) (h : hOk r = true) : Calls Tryz.prog 44 #[r.val] w fun e w' => e = .returned (.tuple #[.string (hbs r), .int .i64 0]) ∧ Below w.heap.size w w' :=
  (hw_any B r w ht ho).mono fun e w' hh => laid_yes h rfl hh
theorem hw_no (B : Nat) (r : Hdr) (w : World) (ht : PT B w) (ho : r.Ok) (h : hOk r = false) : Calls Tryz.prog 44 #[r.val] w fun e w' => e = .returned (.tuple #[.string ⟨#[]⟩, .int .i64 2]) ∧ Below w.heap.size w w' :=
  (hw_any B r w ht ho).mono fun e w' hh => laid_no h hh
set_option maxRecDepth 100000 in
theorem bytes_yes (B : Nat) (r : Hdr) (w : World) (ht : PT B w) (ho : r.Ok) (h : hOk r = true) : Calls Tryz.prog 128 #[r.val] w fun e w' => e = .returned (.string (hbs r)) ∧ Below w.heap.size w w' := by
  have HW := Lib.hid (fun w9 (hb : Below w.heap.size w w9) => hw_yes B r w9 (ht.below hb) ho h)
  clear ht ho h
  go_enter Tryz.func128, Tryz.ntmps128
  go_wp2_with fail
  refine (HW.out _ (balloc (Below.refl _ _) _)).mono ?_
  rintro e w1 ⟨rfl, hb⟩
  have HB : Hid (Below w.heap.size w w1) := Lib.hid (bnext (balloc (Below.refl _ _) _) hb)
  clear hb
  go_wp2_with fail
  refine (hmust_yes _).mono ?_
  rintro e w2 ⟨rfl, rfl⟩
  go_wp2
  go_ret
  exact ⟨rfl, HB.out⟩
set_option maxRecDepth 100000 in
theorem bytes_no (B : Nat) (r : Hdr) (w : World) (ht : PT B w) (ho : r.Ok) (h : hOk r = false) : Calls Tryz.prog 128 #[r.val] w fun e w' => e = .panicked wrongC ∧ Below w.heap.size w w' := by
  have HW := Lib.hid (fun w9 (hb : Below w.heap.size w w9) => hw_no B r w9 (ht.below hb) ho h)
  clear ht ho h
  go_enter Tryz.func128, Tryz.ntmps128
  go_wp2_with fail
  refine (HW.out _ (balloc (Below.refl _ _) _)).mono ?_
  rintro e w1 ⟨rfl, hb⟩
  have HB : Hid (Below w.heap.size w w1) := Lib.hid (bnext (balloc (Below.refl _ _) _) hb)
  clear hb
  go_wp2_with fail
  refine (hmust_no _).mono ?_
  rintro e w2 ⟨rfl, rfl⟩
  go_wp2
  exact ⟨rfl, rfl, HB.out⟩
set_option maxRecDepth 100000 in
theorem digest_yes (B : Nat) (r : Hdr) (w : World) (ht : PT B w) (ho : r.Ok) (h : hOk r = true) : Calls Tryz.prog 78 #[r.val] w fun e w' => e = .returned (.string (hdg r)) ∧ Below w.heap.size w w' := by
  have HW := Lib.hid (fun w9 (hb : Below w.heap.size w w9) => bytes_yes B r w9 (ht.below hb) ho h)
  have HS : Hid ((hbs r).size ≤ 1000000) := Lib.hid (Nat.le_trans (hbs_size h) (by decide))
  clear ht ho h
  go_enter Tryz.func78, Tryz.ntmps78
  go_wp2_with fail
  refine (HW.out _ (balloc (Below.refl _ _) _)).mono ?_
  rintro e w1 ⟨rfl, hb⟩
  have HB : Hid (Below w.heap.size w w1) := Lib.hid (bnext (balloc (Below.refl _ _) _) hb)
  clear hb
  go_wp2_with fail
  refine (hash1_any hdrT (hbs r) _ (by decide) (by decide) HS.out).mono ?_
  rintro e w2 ⟨rfl, hb⟩
  have HB := Lib.hid (bnext HB.out hb)
  clear hb
  go_wp2
  go_ret
  exact ⟨rfl, HB.out⟩
set_option maxRecDepth 100000 in
theorem digest_no (B : Nat) (r : Hdr) (w : World) (ht : PT B w) (ho : r.Ok) (h : hOk r = false) : Calls Tryz.prog 78 #[r.val] w fun e w' => e = .panicked wrongC ∧ Below w.heap.size w w' := by
  have HW := Lib.hid (fun w9 (hb : Below w.heap.size w w9) => bytes_no B r w9 (ht.below hb) ho h)
  clear ht ho h
  go_enter Tryz.func78, Tryz.ntmps78
  go_wp2_with fail
  refine (HW.out _ (balloc (Below.refl _ _) _)).mono ?_
  rintro e w1 ⟨rfl, hb⟩
  have HB : Hid (Below w.heap.size w w1) := Lib.hid (bnext (balloc (Below.refl _ _) _) hb)
  clear hb
  go_wp2
  exact ⟨rfl, rfl, HB.out⟩
set_option maxRecDepth 100000 in
theorem hrootT_any (l : List ByteArray) (a : Option Addr) (c : Nat) (w : World) (hl : Txts w a l) (hn : len l ≤ 65536) (hz : ∀ i, i < len l → (tth l i).size ≤ 140737488355200) : Calls Tryz.prog 69 #[.slice a (len l) c] w fun e w' => e = .returned (.string (treeR l)) ∧ Below w.heap.size w w' := by
  have HW := Lib.hid (build_any l a c w hl hn hz)
  clear hl hn hz
  go_enter Tryz.func69, Tryz.ntmps69
  go_wp2_with fail
  refine HW.out.mono ?_
  rintro e w1 ⟨b, rfl, hs, ht, hb⟩
  have HB := Lib.hid hb
  have HT := Lib.hid ht
  clear hs ht hb
  go_wp2_with fail
  refine (hmust_yes _).mono ?_
  rintro e w2 ⟨rfl, rfl⟩
  go_wp2_with fail
  refine (root_any l b w1 HT.out).mono ?_
  rintro e w2 ⟨rfl, rfl⟩
  go_wp2
  go_ret
  exact ⟨rfl, HB.out⟩
end Go.Proofs.YtpobhbdomldecaaGreatDoor
namespace Go.Proofs.YtpobhbdomldecaaGreatDoor
open Go.RowKit
set_option linter.unusedSimpArgs false
set_option linter.unusedVariables false
theorem follow_end {R : Hdr → Hdr → Bool} {l : List Hdr} {m : Nat} (hm : m = len l) (h : ∀ i, 0 < i → i < m → R (hnth l (i - 1)) (hnth l i) = true) : followH R l = true := by
  subst hm
  exact followH_yes (fun i hi h0 => h i h0 hi)
set_option maxHeartbeats 4000000 in
set_option maxRecDepth 100000 in
theorem follow_any (F : FuncId) (C : Array Value) (R : Hdr → Hdr → Bool) (a : Option Addr) (cap : Nat) (l : List Hdr) (w : World) (hlen : len l ≤ 100000) (hc : Hdrs w a l)
    (eg : ∀ args w, (callFunc F args).run Tryz.prog w = .ok (.enter F args) w)
    (hF : ∀ i, 0 < i → i < len l → ∀ w', Below w.heap.size w w' → Calls Tryz.prog F (#[(hnth l (i - 1)).val, (hnth l i).val] ++ C) w' fun e w'' => e = .returned (.bool (R (hnth l (i - 1)) (hnth l i))) ∧ Below w'.heap.size w' w'') :
    Calls Tryz.prog 76 #[.slice a (len l) cap, .func (.func F) #[] C] w fun e w' => e = .returned (.bool (followH R l)) ∧ Below w.heap.size w w' := by
  have HC := Lib.hid hc
  have HF := Lib.hid hF
  have HN := Lib.hid hlen
  clear hc hF hlen
  go_enter Tryz.func76, Tryz.ntmps76
  go_wp2
  go_loopg [9] (len l) (fun gg i wr => ∃ m : Nat, gg + m = len l ∧ i = .int .i64 (m : Nat) ∧ Hid (Below w.heap.size w wr) ∧ Hid (∀ j, 0 < j → j < m → R (hnth l (j - 1)) (hnth l j) = true))
  case atStart => exact ⟨0, rfl, rfl, Lib.hid (Below.refl _ _), Lib.hid (fun j _ h => by omega)⟩
  case round =>
    obtain ⟨m, hm, rfl, HW, HI⟩ := hrel
    by_cases hlt : m < len l
    · obtain ⟨b, off, rfl, ⟨e0, e1, e2, e3⟩⟩ := (HC.out.below HW.out) m hlt
      obtain ⟨q, hq⟩ : ∃ q, hnth l m = q := ⟨_, rfl⟩
      rw [hq] at e0 e1 e2 e3
      have HQ := Lib.hid hq
      have HLT := Lib.hid hlt
      have b0 : (m : Int) < len l := by omega
      clear hq
      go_upto_region 4 with fail
      clear e0 e1 e2 e3
      obtain ⟨V, hV⟩ : ∃ V, wr.alloc (.cells #[.int .u64 q.rnd, .string q.prev, .string q.txns, .string q.seed] 33) = V := ⟨_, rfl⟩
      obtain ⟨xb, hxb⟩ : ∃ xb, wr.heap.size = xb := ⟨_, rfl⟩
      have HVB : Hid (Below w.heap.size w V) := Lib.hid (by rw [← hV]; exact balloc HW.out _)
      have HVX : Hid (V.heap[xb]? = some (.cells #[.int .u64 q.rnd, .string q.prev, .string q.txns, .string q.seed] 33 (0, 0))) := Lib.hid (by rw [← hV, ← hxb]; exact heap_alloc_new _ _)
      rw [hV, hxb]
      clear hV hxb
      by_cases hm0 : m = 0
      · subst hm0
        refine wp_region_all 1000 (none) (phis [fun u _ => u = (.int .i64 0), fun u _ => u = (.bool false), fun u _ => u = (.bool false), fun u _ => u = undef, fun u _ => u = undef, fun u _ => u = undef, fun u _ => u = undef, fun u _ => u = undef, fun u _ => u = undef, fun u _ => u = undef, fun u _ => u = undef, fun u _ => u = undef, fun u _ => u = (.bool false)]) rfl (by kernel_rfl) (mono_of ⟨mono_eq, mono_eq, mono_eq, mono_eq, mono_eq, mono_eq, mono_eq, mono_eq, mono_eq, mono_eq, mono_eq, mono_eq, mono_eq, trivial⟩) (steps_of 13 ⟨?s0, ?s1, ?s2, ?s3, ?s4, ?s5, ?s6, ?s7, ?s8, ?s9, ?s10, ?s11, ?s12, trivial⟩) ?_
        case s0 =>
          refine step_val (v := (.int .i64 0)) (fun av wv hE hS hO hD => ?_) (fun _ => rfl)
          have h5 : av.eval (.tmp 5) = (.int .i64 0) := hO.2.2 5 rfl
          have f5 := (ev_form av 5).symm.trans h5
          refine ⟨rfl, ?_⟩
          simp [go_sem, f5]
        case s1 =>
          refine step_val (v := (.bool false)) (fun av wv hE hS hO hD => ?_) (fun _ => rfl)
          have d14 : av.eval (.tmp 14) = (.int .i64 0) := hD.1 rfl _ rfl
          have f14 := (ev_form av 14).symm.trans d14
          refine ⟨rfl, ?_⟩
          simp [go_sem, f14]
        case s2 =>
          refine step_val (v := (.bool false)) (fun av wv hE hS hO hD => ?_) (fun _ => rfl)
          have d15 : av.eval (.tmp 15) = (.bool false) := hD.1 rfl _ rfl
          have f15 := (ev_form av 15).symm.trans d15
          refine ⟨rfl, ?_⟩
          simp [go_sem, f15]
        case s3 =>
          refine step_skip (fun av wv hE hS hO hD => ?_) (fun _ => rfl)
          have h1 : av.eval (.tmp 1) = (.func (.func F) #[] C) := hO.2.2 1 rfl
          have f1 := (ev_form av 1).symm.trans h1
          have d16 : av.eval (.tmp 16) = (.bool false) := hD.1 rfl _ rfl
          have f16 := (ev_form av 16).symm.trans d16
          exact (wanted_of (d := 16) (b := false) (want := true) rfl rfl rfl d16)
        case s4 =>
          refine step_skip (fun av wv hE hS hO hD => ?_) (fun _ => rfl)
          have h0 : av.eval (.tmp 0) = (.slice (some ⟨b, off, none⟩) (len l) cap) := hO.2.2 0 rfl
          have f0 := (ev_form av 0).symm.trans h0
          have d16 : av.eval (.tmp 16) = (.bool false) := hD.1 rfl _ rfl
          have f16 := (ev_form av 16).symm.trans d16
          exact (wanted_of (d := 16) (b := false) (want := true) rfl rfl rfl d16)
        case s5 =>
          refine step_skip (fun av wv hE hS hO hD => ?_) (fun _ => rfl)
          have h5 : av.eval (.tmp 5) = (.int .i64 0) := hO.2.2 5 rfl
          have f5 := (ev_form av 5).symm.trans h5
          have d16 : av.eval (.tmp 16) = (.bool false) := hD.1 rfl _ rfl
          have f16 := (ev_form av 16).symm.trans d16
          exact (wanted_of (d := 16) (b := false) (want := true) rfl rfl rfl d16)
        case s6 =>
          refine step_skip (fun av wv hE hS hO hD => ?_) (fun _ => rfl)
          have d19 : av.eval (.tmp 19) = (undef) := hD.1 rfl _ rfl
          have f19 := (ev_form av 19).symm.trans d19
          have d16 : av.eval (.tmp 16) = (.bool false) := hD.2.1 rfl _ rfl
          have f16 := (ev_form av 16).symm.trans d16
          exact (wanted_of (d := 16) (b := false) (want := true) rfl rfl rfl d16)
        case s7 =>
          refine step_skip (fun av wv hE hS hO hD => ?_) (fun _ => rfl)
          have d18 : av.eval (.tmp 18) = (undef) := hD.1 rfl _ rfl
          have f18 := (ev_form av 18).symm.trans d18
          have d20 : av.eval (.tmp 20) = (undef) := hD.2.1 rfl _ rfl
          have f20 := (ev_form av 20).symm.trans d20
          have d16 : av.eval (.tmp 16) = (.bool false) := hD.2.2.1 rfl _ rfl
          have f16 := (ev_form av 16).symm.trans d16
          exact (wanted_of (d := 16) (b := false) (want := true) rfl rfl rfl d16)
        case s8 =>
          refine step_skip (fun av wv hE hS hO hD => ?_) (fun _ => rfl)
          have d21 : av.eval (.tmp 21) = (undef) := hD.1 rfl _ rfl
          have f21 := (ev_form av 21).symm.trans d21
          have d16 : av.eval (.tmp 16) = (.bool false) := hD.2.1 rfl _ rfl
          have f16 := (ev_form av 16).symm.trans d16
          exact (wanted_of (d := 16) (b := false) (want := true) rfl rfl rfl d16)
        case s9 =>
          refine step_skip (fun av wv hE hS hO hD => ?_) (fun _ => rfl)
          have h6 : av.eval (.tmp 6) = (.pointer (some ⟨xb, 0, none⟩)) := hO.2.2 6 rfl
          have f6 := (ev_form av 6).symm.trans h6
          have d16 : av.eval (.tmp 16) = (.bool false) := hD.1 rfl _ rfl
          have f16 := (ev_form av 16).symm.trans d16
          exact (wanted_of (d := 16) (b := false) (want := true) rfl rfl rfl d16)
        case s10 =>
          refine step_skip (fun av wv hE hS hO hD => ?_) (fun _ => rfl)
          have d17 : av.eval (.tmp 17) = (undef) := hD.1 rfl _ rfl
          have f17 := (ev_form av 17).symm.trans d17
          have d22 : av.eval (.tmp 22) = (undef) := hD.2.1 rfl _ rfl
          have f22 := (ev_form av 22).symm.trans d22
          have d23 : av.eval (.tmp 23) = (undef) := hD.2.2.1 rfl _ rfl
          have f23 := (ev_form av 23).symm.trans d23
          have d16 : av.eval (.tmp 16) = (.bool false) := hD.2.2.2.1 rfl _ rfl
          have f16 := (ev_form av 16).symm.trans d16
          exact (wanted_of (d := 16) (b := false) (want := true) rfl rfl rfl d16)
        case s11 =>
          refine step_skip (fun av wv hE hS hO hD => ?_) (fun _ => rfl)
          have d24 : av.eval (.tmp 24) = (undef) := hD.1 rfl _ rfl
          have f24 := (ev_form av 24).symm.trans d24
          have d16 : av.eval (.tmp 16) = (.bool false) := hD.2.1 rfl _ rfl
          have f16 := (ev_form av 16).symm.trans d16
          exact (wanted_of (d := 16) (b := false) (want := true) rfl rfl rfl d16)
        case s12 =>
          refine step_val (v := (.bool false)) (fun av wv hE hS hO hD => ?_) (fun _ => rfl)
          have d16 : av.eval (.tmp 16) = (.bool false) := hD.1 rfl _ rfl
          have f16 := (ev_form av 16).symm.trans d16
          have d25 : av.eval (.tmp 25) = (undef) := hD.2.1 rfl _ rfl
          have f25 := (ev_form av 25).symm.trans d25
          refine ⟨rfl, ?_⟩
          simp [go_sem, f16, f25]
        intro a' w' hE hO hall
        have hA := act_of_outer (ds := [14, 15, 16, 17, 18, 19, 20, 21, 22, 23, 24, 25, 26]) rfl hO (by kernel_rfl)
        have e14 : (fun u _ => u = (.int .i64 0)) (a'.eval (.tmp 14)) w' := hall.1 _ rfl
        have e15 : (fun u _ => u = (.bool false)) (a'.eval (.tmp 15)) w' := hall.2.1 _ rfl
        have e16 : (fun u _ => u = (.bool false)) (a'.eval (.tmp 16)) w' := hall.2.2.1 _ rfl
        have e17 : (fun u _ => u = undef) (a'.eval (.tmp 17)) w' := hall.2.2.2.1 _ rfl
        have e18 : (fun u _ => u = undef) (a'.eval (.tmp 18)) w' := hall.2.2.2.2.1 _ rfl
        have e19 : (fun u _ => u = undef) (a'.eval (.tmp 19)) w' := hall.2.2.2.2.2.1 _ rfl
        have e20 : (fun u _ => u = undef) (a'.eval (.tmp 20)) w' := hall.2.2.2.2.2.2.1 _ rfl
        have e21 : (fun u _ => u = undef) (a'.eval (.tmp 21)) w' := hall.2.2.2.2.2.2.2.1 _ rfl
        have e22 : (fun u _ => u = undef) (a'.eval (.tmp 22)) w' := hall.2.2.2.2.2.2.2.2.1 _ rfl
        have e23 : (fun u _ => u = undef) (a'.eval (.tmp 23)) w' := hall.2.2.2.2.2.2.2.2.2.1 _ rfl
        have e24 : (fun u _ => u = undef) (a'.eval (.tmp 24)) w' := hall.2.2.2.2.2.2.2.2.2.2.1 _ rfl
        have e25 : (fun u _ => u = undef) (a'.eval (.tmp 25)) w' := hall.2.2.2.2.2.2.2.2.2.2.2.1 _ rfl
        have e26 : (fun u _ => u = (.bool false)) (a'.eval (.tmp 26)) w' := hall.2.2.2.2.2.2.2.2.2.2.2.2.1 _ rfl
        simp only [List.foldl_cons, List.foldl_nil, Act.put, List.setIfInBounds_toArray, List.set_cons_succ, List.set_cons_zero, e14, e15, e16, e17, e18, e19, e20, e21, e22, e23, e24, e25, e26] at hA
        clear hO hall e14 e15 e16 e17 e18 e19 e20 e21 e22 e23 e24 e25 e26
        subst hA
        have HB2 : Hid (Below w.heap.size w w') := Lib.hid (bnext HVB.out (of_drew hE))
        have HNN := HN.out
        clear hE
        go_wp2
        go_roundg (gk - 1)
        case rel => exact ⟨1, by omega, by go_num, HB2, Lib.hid (fun j h0 h => by omega)⟩
        case measure => omega
      · obtain ⟨k, hk⟩ : ∃ k, m = k + 1 := ⟨m - 1, by omega⟩
        obtain ⟨b', off', he, ⟨c0, c1, c2, c3⟩⟩ := (HC.out.below HVB.out) k (by omega)
        cases he
        obtain ⟨p, hp⟩ : ∃ p, hnth l k = p := ⟨_, rfl⟩
        obtain ⟨x, hx⟩ : ∃ x, R p q = x := ⟨_, rfl⟩
        have HF2 := Lib.hid (fun w9 (hb : Below V.heap.size V w9) => HF.out m (by omega) hlt w9 (bnext HVB.out hb))
        rw [show m - 1 = k by omega, hp, HQ.out, hx] at HF2
        rw [hp] at c0 c1 c2 c3
        have HXX : Hid (R (hnth l (m - 1)) (hnth l m) = x) := Lib.hid (by rw [show m - 1 = k by omega, hp, HQ.out, hx])
        have d0 : V.cell? ⟨xb, 0, none⟩ = some (.int .u64 q.rnd) := block_cell HVX.out 0
        have d1 : V.cell? ⟨xb, 1, none⟩ = some (.string q.prev) := block_cell HVX.out 1
        have d2 : V.cell? ⟨xb, 2, none⟩ = some (.string q.txns) := block_cell HVX.out 2
        have d3 : V.cell? ⟨xb, 3, none⟩ = some (.string q.seed) := block_cell HVX.out 3
        have i1 : 0 < m := by omega
        have i2 : k < len l := by omega
        have i3 : IntKind.i64.wrap ((m : Int) - 1) = (k : Int) := by have := HN.out; rw [IntWalk.i64_in _ (by omega)]; omega
        have i4 : (k : Int) < len l := by omega
        have HK := Lib.hid hk
        clear hp hx hm0 hk hlt
        refine wp_region_all 1000 (none) (phis [fun u _ => u = (.int .i64 (m : Nat)), fun u _ => u = (.bool true), fun u _ => u = (.bool true), fun u _ => u = (.func (.func F) #[] C), fun u _ => u = (.slice (some ⟨b, off, none⟩) (len l) cap), fun u _ => u = (.int .i64 (m : Nat)), fun u _ => u = (.int .i64 (k : Nat)), fun u _ => u = (.pointer (some ⟨b, off + k * 4, none⟩)), fun u _ => u = ((Hdr.val p)), fun u _ => u = ((Hdr.val q)), fun u _ => u = (.bool x), fun u _ => u = (.bool (!x)), fun u _ => u = (.bool (!x))]) rfl (by kernel_rfl) (mono_of ⟨mono_eq, mono_eq, mono_eq, mono_eq, mono_eq, mono_eq, mono_eq, mono_eq, mono_eq, mono_eq, mono_eq, mono_eq, mono_eq, trivial⟩) (steps_of 13 ⟨?s0, ?s1, ?s2, ?s3, ?s4, ?s5, ?s6, ?s7, ?s8, ?s9, ?s10, ?s11, ?s12, trivial⟩) ?_
        case s0 =>
          refine step_val (v := (.int .i64 (m : Nat))) (fun av wv hE hS hO hD => ?_) (fun _ => rfl)
          have h5 : av.eval (.tmp 5) = (.int .i64 (m : Nat)) := hO.2.2 5 rfl
          have f5 := (ev_form av 5).symm.trans h5
          refine ⟨rfl, ?_⟩
          simp [go_sem, f5, i1, i2, i3, i4]
        case s1 =>
          refine step_val (v := (.bool true)) (fun av wv hE hS hO hD => ?_) (fun _ => rfl)
          have d14 : av.eval (.tmp 14) = (.int .i64 (m : Nat)) := hD.1 rfl _ rfl
          have f14 := (ev_form av 14).symm.trans d14
          refine ⟨rfl, ?_⟩
          simp [go_sem, f14, i1, i2, i3, i4]
        case s2 =>
          refine step_val (v := (.bool true)) (fun av wv hE hS hO hD => ?_) (fun _ => rfl)
          have d15 : av.eval (.tmp 15) = (.bool true) := hD.1 rfl _ rfl
          have f15 := (ev_form av 15).symm.trans d15
          refine ⟨rfl, ?_⟩
          simp [go_sem, f15, i1, i2, i3, i4]
        case s3 =>
          refine step_val (v := (.func (.func F) #[] C)) (fun av wv hE hS hO hD => ?_) (fun _ => rfl)
          have h1 : av.eval (.tmp 1) = (.func (.func F) #[] C) := hO.2.2 1 rfl
          have f1 := (ev_form av 1).symm.trans h1
          have d16 : av.eval (.tmp 16) = (.bool true) := hD.1 rfl _ rfl
          have f16 := (ev_form av 16).symm.trans d16
          refine ⟨(wanted_of (d := 16) (b := true) (want := true) rfl rfl rfl d16), ?_⟩
          simp [go_sem, f1, f16, i1, i2, i3, i4]
        case s4 =>
          refine step_val (v := (.slice (some ⟨b, off, none⟩) (len l) cap)) (fun av wv hE hS hO hD => ?_) (fun _ => rfl)
          have h0 : av.eval (.tmp 0) = (.slice (some ⟨b, off, none⟩) (len l) cap) := hO.2.2 0 rfl
          have f0 := (ev_form av 0).symm.trans h0
          have d16 : av.eval (.tmp 16) = (.bool true) := hD.1 rfl _ rfl
          have f16 := (ev_form av 16).symm.trans d16
          refine ⟨(wanted_of (d := 16) (b := true) (want := true) rfl rfl rfl d16), ?_⟩
          simp [go_sem, f0, f16, i1, i2, i3, i4]
        case s5 =>
          refine step_val (v := (.int .i64 (m : Nat))) (fun av wv hE hS hO hD => ?_) (fun _ => rfl)
          have h5 : av.eval (.tmp 5) = (.int .i64 (m : Nat)) := hO.2.2 5 rfl
          have f5 := (ev_form av 5).symm.trans h5
          have d16 : av.eval (.tmp 16) = (.bool true) := hD.1 rfl _ rfl
          have f16 := (ev_form av 16).symm.trans d16
          refine ⟨(wanted_of (d := 16) (b := true) (want := true) rfl rfl rfl d16), ?_⟩
          simp [go_sem, f5, f16, i1, i2, i3, i4]
        case s6 =>
          refine step_val (v := (.int .i64 (k : Nat))) (fun av wv hE hS hO hD => ?_) (fun _ => rfl)
          have d19 : av.eval (.tmp 19) = (.int .i64 (m : Nat)) := hD.1 rfl _ rfl
          have f19 := (ev_form av 19).symm.trans d19
          have d16 : av.eval (.tmp 16) = (.bool true) := hD.2.1 rfl _ rfl
          have f16 := (ev_form av 16).symm.trans d16
          refine ⟨(wanted_of (d := 16) (b := true) (want := true) rfl rfl rfl d16), ?_⟩
          simp [go_sem, f19, f16, i1, i2, i3, i4]
        case s7 =>
          refine step_val (v := (.pointer (some ⟨b, off + k * 4, none⟩))) (fun av wv hE hS hO hD => ?_) (fun _ => rfl)
          have d18 : av.eval (.tmp 18) = (.slice (some ⟨b, off, none⟩) (len l) cap) := hD.1 rfl _ rfl
          have f18 := (ev_form av 18).symm.trans d18
          have d20 : av.eval (.tmp 20) = (.int .i64 (k : Nat)) := hD.2.1 rfl _ rfl
          have f20 := (ev_form av 20).symm.trans d20
          have d16 : av.eval (.tmp 16) = (.bool true) := hD.2.2.1 rfl _ rfl
          have f16 := (ev_form av 16).symm.trans d16
          refine ⟨(wanted_of (d := 16) (b := true) (want := true) rfl rfl rfl d16), ?_⟩
          simp [go_sem, f18, f20, f16, i1, i2, i3, i4]
        case s8 =>
          refine step_val (v := ((Hdr.val p))) (fun av wv hE hS hO hD => ?_) (fun _ => rfl)
          have d21 : av.eval (.tmp 21) = (.pointer (some ⟨b, off + k * 4, none⟩)) := hD.1 rfl _ rfl
          have f21 := (ev_form av 21).symm.trans d21
          have d16 : av.eval (.tmp 16) = (.bool true) := hD.2.1 rfl _ rfl
          have f16 := (ev_form av 16).symm.trans d16
          have c0 := extB_cell hE (by simp) c0
          have c1 := extB_cell hE (by simp) c1
          have c2 := extB_cell hE (by simp) c2
          have c3 := extB_cell hE (by simp) c3
          have d0 := extB_cell hE (by simp) d0
          have d1 := extB_cell hE (by simp) d1
          have d2 := extB_cell hE (by simp) d2
          have d3 := extB_cell hE (by simp) d3
          refine ⟨(wanted_of (d := 16) (b := true) (want := true) rfl rfl rfl d16), ?_⟩
          simp [go_sem, f21, f16, c0, c1, c2, c3, d0, d1, d2, d3, i1, i2, i3, i4]
        case s9 =>
          refine step_val (v := ((Hdr.val q))) (fun av wv hE hS hO hD => ?_) (fun _ => rfl)
          have h6 : av.eval (.tmp 6) = (.pointer (some ⟨xb, 0, none⟩)) := hO.2.2 6 rfl
          have f6 := (ev_form av 6).symm.trans h6
          have d16 : av.eval (.tmp 16) = (.bool true) := hD.1 rfl _ rfl
          have f16 := (ev_form av 16).symm.trans d16
          have c0 := extB_cell hE (by simp) c0
          have c1 := extB_cell hE (by simp) c1
          have c2 := extB_cell hE (by simp) c2
          have c3 := extB_cell hE (by simp) c3
          have d0 := extB_cell hE (by simp) d0
          have d1 := extB_cell hE (by simp) d1
          have d2 := extB_cell hE (by simp) d2
          have d3 := extB_cell hE (by simp) d3
          refine ⟨(wanted_of (d := 16) (b := true) (want := true) rfl rfl rfl d16), ?_⟩
          simp [go_sem, f6, f16, c0, c1, c2, c3, d0, d1, d2, d3, i1, i2, i3, i4]
        case s10 =>
          refine step_wp (fun av wv hE hS hO hD => ?_)
          have d17 : av.eval (.tmp 17) = (.func (.func F) #[] C) := hD.1 rfl _ rfl
          have f17 := (ev_form av 17).symm.trans d17
          have d22 : av.eval (.tmp 22) = ((Hdr.val p)) := hD.2.1 rfl _ rfl
          have f22 := (ev_form av 22).symm.trans d22
          have d23 : av.eval (.tmp 23) = ((Hdr.val q)) := hD.2.2.1 rfl _ rfl
          have f23 := (ev_form av 23).symm.trans d23
          have d16 : av.eval (.tmp 16) = (.bool true) := hD.2.2.2.1 rfl _ rfl
          have f16 := (ev_form av 16).symm.trans d16
          refine ⟨(wanted_of (d := 16) (b := true) (want := true) rfl rfl rfl d16), ?_⟩
          refine wp_of_call (v := .bool x) (by simp [go_sem, f17, f22, f23]; exact eg _ _) (HF2.out wv (of_drew hE)) (fun w2 hb => ⟨_, rfl, es_of_ext hb, rfl⟩)
        case s11 =>
          refine step_val (v := (.bool (!x))) (fun av wv hE hS hO hD => ?_) (fun _ => rfl)
          have d24 : av.eval (.tmp 24) = (.bool x) := hD.1 rfl _ rfl
          have f24 := (ev_form av 24).symm.trans d24
          have d16 : av.eval (.tmp 16) = (.bool true) := hD.2.1 rfl _ rfl
          have f16 := (ev_form av 16).symm.trans d16
          refine ⟨(wanted_of (d := 16) (b := true) (want := true) rfl rfl rfl d16), ?_⟩
          simp [go_sem, f24, f16, i1, i2, i3, i4]
        case s12 =>
          refine step_val (v := (.bool (!x))) (fun av wv hE hS hO hD => ?_) (fun _ => rfl)
          have d16 : av.eval (.tmp 16) = (.bool true) := hD.1 rfl _ rfl
          have f16 := (ev_form av 16).symm.trans d16
          have d25 : av.eval (.tmp 25) = (.bool (!x)) := hD.2.1 rfl _ rfl
          have f25 := (ev_form av 25).symm.trans d25
          refine ⟨rfl, ?_⟩
          simp [go_sem, f16, f25, i1, i2, i3, i4]
        intro a' w' hE hO hall
        have hA := act_of_outer (ds := [14, 15, 16, 17, 18, 19, 20, 21, 22, 23, 24, 25, 26]) rfl hO (by kernel_rfl)
        have e14 : (fun u _ => u = (.int .i64 (m : Nat))) (a'.eval (.tmp 14)) w' := hall.1 _ rfl
        have e15 : (fun u _ => u = (.bool true)) (a'.eval (.tmp 15)) w' := hall.2.1 _ rfl
        have e16 : (fun u _ => u = (.bool true)) (a'.eval (.tmp 16)) w' := hall.2.2.1 _ rfl
        have e17 : (fun u _ => u = (.func (.func F) #[] C)) (a'.eval (.tmp 17)) w' := hall.2.2.2.1 _ rfl
        have e18 : (fun u _ => u = (.slice (some ⟨b, off, none⟩) (len l) cap)) (a'.eval (.tmp 18)) w' := hall.2.2.2.2.1 _ rfl
        have e19 : (fun u _ => u = (.int .i64 (m : Nat))) (a'.eval (.tmp 19)) w' := hall.2.2.2.2.2.1 _ rfl
        have e20 : (fun u _ => u = (.int .i64 (k : Nat))) (a'.eval (.tmp 20)) w' := hall.2.2.2.2.2.2.1 _ rfl
        have e21 : (fun u _ => u = (.pointer (some ⟨b, off + k * 4, none⟩))) (a'.eval (.tmp 21)) w' := hall.2.2.2.2.2.2.2.1 _ rfl
        have e22 : (fun u _ => u = ((Hdr.val p))) (a'.eval (.tmp 22)) w' := hall.2.2.2.2.2.2.2.2.1 _ rfl
        have e23 : (fun u _ => u = ((Hdr.val q))) (a'.eval (.tmp 23)) w' := hall.2.2.2.2.2.2.2.2.2.1 _ rfl
        have e24 : (fun u _ => u = (.bool x)) (a'.eval (.tmp 24)) w' := hall.2.2.2.2.2.2.2.2.2.2.1 _ rfl
        have e25 : (fun u _ => u = (.bool (!x))) (a'.eval (.tmp 25)) w' := hall.2.2.2.2.2.2.2.2.2.2.2.1 _ rfl
        have e26 : (fun u _ => u = (.bool (!x))) (a'.eval (.tmp 26)) w' := hall.2.2.2.2.2.2.2.2.2.2.2.2.1 _ rfl
        simp only [List.foldl_cons, List.foldl_nil, Act.put, List.setIfInBounds_toArray, List.set_cons_succ, List.set_cons_zero, e14, e15, e16, e17, e18, e19, e20, e21, e22, e23, e24, e25, e26] at hA
        clear hO hall e14 e15 e16 e17 e18 e19 e20 e21 e22 e23 e24 e25 e26
        subst hA
        have HB2 : Hid (Below w.heap.size w w') := Lib.hid (bnext HVB.out (of_drew hE))
        have HNN := HN.out
        clear hE c0 c1 c2 c3 d0 d1 d2 d3 i1 i2 i3 i4
        cases x
        · have HNO : Hid (followH R l = false) := Lib.hid (followH_no HLT.out (by have := HK.out; omega) HXX.out)
          go_wp2
          go_ret
          exact ⟨ret_bool (by rw [HNO.out]; try rfl), HB2.out⟩
        · go_wp2
          go_roundg (gk - 1)
          case rel => exact ⟨m + 1, by omega, by go_num, HB2, Lib.hid (fun j h0 h => by
            by_cases e : j = m
            · subst e; exact HXX.out
            · exact HI.out j h0 (by omega))⟩
          case measure => omega
    · have b0 : ¬ (m : Int) < len l := by omega
      have HYE : Hid (followH R l = true) := Lib.hid (follow_end (m := m) (by omega) HI.out)
      go_wp2
      go_ret
      exact ⟨ret_bool (by rw [HYE.out]; try rfl), HW.out⟩
theorem step_val2 (p q : Hdr) : stepH p q = (decide (p.rnd < q.rnd) && (q.rnd - p.rnd == 1)) := by
  unfold stepH
  by_cases e : q.rnd - p.rnd = 1 <;> simp [e]
set_option maxRecDepth 100000 in
theorem step_any (p q : Hdr) (w : World) (hp : p.Ok) (hq : q.Ok) : Calls Tryz.prog 127 #[p.val, q.val] w fun e w' => e = .returned (.bool (stepH p q)) ∧ Below w.heap.size w w' := by
  have HS := Lib.hid (step_val2 p q)
  have hp0 := hp.r0
  have hq0 := hq.r0
  unfold U64i at hp0 hq0
  obtain ⟨x, hx⟩ : ∃ x, p.rnd = x := ⟨_, rfl⟩
  obtain ⟨y, hy⟩ : ∃ y, q.rnd = y := ⟨_, rfl⟩
  rw [hx, hy] at HS
  rw [hx] at hp0
  rw [hy] at hq0
  have HX := Lib.hid hx
  have HY := Lib.hid hy
  by_cases h : x < y
  · have i1 : IntKind.u64.wrap (y - x) = y - x := IntWalk.u64_in _ (by omega)
    have HE : Hid (stepH p q = (y - x == 1)) := Lib.hid (by rw [HS.out, decide_eq_true h]; rfl)
    have h2 := HX.out
    have h3 := HY.out
    clear hp hq hp0 hq0 hx hy
    go_enter Tryz.func127, Tryz.ntmps127
    go_wp2
    go_ret
    refine ⟨ret_bool ?_, by (repeat (first | exact Below.refl _ _ | assumption | (refine bdrew ?_) | (refine bdrewN ?_ _) | (refine balloc ?_ _) | (refine bset ?_ (by first | omega | (simp; done) | (simp; omega)) _) | (refine bnext ?_ (by assumption))))⟩
    rw [HE.out]
    try rfl
  · have HE : Hid (stepH p q = false) := Lib.hid (by rw [HS.out, decide_eq_false h]; rfl)
    have h2 := HX.out
    have h3 := HY.out
    clear hp hq hp0 hq0 hx hy
    go_enter Tryz.func127, Tryz.ntmps127
    go_wp2
    go_ret
    refine ⟨ret_bool ?_, by (repeat (first | exact Below.refl _ _ | assumption | (refine bdrew ?_) | (refine bdrewN ?_ _) | (refine balloc ?_ _) | (refine bset ?_ (by first | omega | (simp; done) | (simp; omega)) _) | (refine bnext ?_ (by assumption))))⟩
    rw [HE.out]
    try rfl
theorem len_appH {α : Type} (a b : List α) : len (a ++ b) = len a + len b := by rw [len_eq, List.length_append]; rfl
def ElemIs (l : List Hdr) (w : World) (e : Ending) (w' : World) : Prop := Below w.heap.size w w' ∧ ((elOk l = true ∧ ∃ v, e = .returned v ∧ TextsAre (elL l) v w') ∨ (elOk l = false ∧ e = .panicked wrongC))
structure ElPr (B : Nat) (l : List Hdr) (w wr : World) (v : Value) (m : Nat) : Prop where
  b : Below w.heap.size w wr
  o : wr.ownsRow w.heap.size 9 1 v (len (elL (l.take m))) ((elL (l.take m)).map Value.string)
  y : ∀ j, j < m → hOk (hnth l j) = true
theorem lenT2 (l : List Hdr) (m : Nat) (h : m ≤ len l) : len (elL (l.take m)) = m := by rw [elL_len, len_eq, List.length_take]; rw [len_eq] at h; omega
set_option maxRecDepth 100000 in
set_option maxHeartbeats 4000000 in
theorem elements_any (B : Nat) (l : List Hdr) (a : Option Addr) (cap : Nat) (w : World) (ht : PT B w) (hc : Hdrs w a l) (ho : ∀ i, (hnth l i).Ok) (hn : len l ≤ 100000) :
    Calls Tryz.prog 70 #[.slice a (len l) cap] w (ElemIs l w) := by
  have HT := Lib.hid ht
  have HC := Lib.hid hc
  have HO := Lib.hid ho
  have HN := Lib.hid hn
  clear ht hc ho hn
  obtain ⟨i0, hi, hz0, hz1, hz2⟩ := info_parts info_str
  have HZ := Lib.hid hz0
  clear hz0
  by_cases h64 : 0 < len l ∧ len l ≤ 64
  · have a1 : 0 < len l := h64.1
    have a2 : (len l : Int) ≤ 64 := by omega
    have H64 := Lib.hid h64
    clear h64
    go_enter Tryz.func70, Tryz.ntmps70
    go_wp2_with fail
    refine (hmust_yes _).mono ?_
    rintro e w1 ⟨rfl, rfl⟩
    clear a1 a2
    go_wp2_with fail
    refine (follow_any 127 #[] stepH a cap l w HN.out HC.out (fun _ _ => rfl) (fun i h0 h1 w9 hb => step_any _ _ w9 (HO.out _) (HO.out _))).mono ?_
    rintro e w1 ⟨rfl, hb⟩
    have HB := Lib.hid hb
    clear hb
    cases hf : followH stepH l with
    | false =>
      have HNO : Hid (elOk l = false) := Lib.hid (by unfold elOk; rw [hf]; simp)
      clear hf
      go_wp2_with fail
      refine (hmust_no _).mono ?_
      rintro e w2 ⟨rfl, rfl⟩
      go_wp2
      exact ⟨rfl, HB.out, .inr ⟨HNO.out, rfl⟩⟩
    | true =>
      have HF := Lib.hid hf
      clear hf
      go_wp2_with fail
      refine (hmust_yes _).mono ?_
      rintro e w2 ⟨rfl, rfl⟩
      go_wp2
      go_loopg [3, 20] (len l) (fun gg v i wr => ∃ m : Nat, gg + m = len l ∧ i = .int .i64 (m : Nat) ∧ Hid (ElPr B l w wr v m))
      case atStart => exact ⟨0, rfl, rfl, Lib.hid ⟨HB.out, World.ownsRow_nil _ _ _ _, fun j h => by omega⟩⟩
      case round =>
        obtain ⟨m, hm, rfl, HS⟩ := hrel
        by_cases hlt : m < len l
        · obtain ⟨b, off, rfl, ⟨e0, e1, e2, e3⟩⟩ := (HC.out.below HS.out.b) m hlt
          have HRO := Lib.hid (HO.out m)
          obtain ⟨r, hr⟩ : ∃ r, hnth l m = r := ⟨_, rfl⟩
          rw [hr] at e0 e1 e2 e3 HRO
          have HRE := Lib.hid hr
          have b0 : (m : Int) < len l := by omega
          have HLT := Lib.hid hlt
          have HB := Lib.hid (HS.out.b)
          have HTR := Lib.hid (HT.out.below HS.out.b)
          clear hr hlt
          by_cases hok : hOk r = true
          · have HOK := Lib.hid hok
            clear hok
            go_wp2_with fail
            refine (bytes_yes B r _ (HTR.out.below (balloc (Below.refl _ _) _)) HRO.out HOK.out).mono ?_
            rintro e w1 ⟨rfl, hb⟩
            have HB2 : Hid (Below w.heap.size w w1) := Lib.hid (bnext (balloc HB.out _) hb)
            have HO2 := Lib.hid (own_below (HS.out.o.alloc (.cells #[.int .u64 r.rnd, .string r.prev, .string r.txns, .string r.seed] 33)) hb)
            have hd0 := HO2.out
            obtain ⟨w', hw'⟩ : ∃ w', w1 = w' := ⟨_, rfl⟩
            subst hw'
            have HD := Lib.hid hd0
            clear hb e0 e1 e2 e3 hd0
            go_wp2_with (at_builtin; refine wpList_append_own _ rfl _ _ 36 rfl w.heap.size 9 i0 (.string ⟨#[]⟩) 1 16 Tryz.underlying36 hi HZ.out hz1 hz2 rfl (by decide) _ _ _ rfl (HO2.out.alloc _) ⟨w1.heap.size, 0, none⟩ 1 1 [.string (hbs r)] rfl rfl ?c1 ?c2 ?c3 ?c4 ?c5 ?_)
            case c1 => exact World.news_of_block (alloc_new_at _ rfl)
            case c2 => intro u hu; simp at hu; subst hu; rfl
            case c3 => unfold maxLen; have := HN.out; have := lenT2 l m (Nat.le_of_lt HLT.out); have := HLT.out; omega
            case c4 => have := HN.out; have := lenT2 l m (Nat.le_of_lt HLT.out); have := HLT.out; omega
            case c5 => have := HB2.out.size; simp; omega
            intro v' w2 hown' hgrow _
            have HB3 : Hid (Below w.heap.size w w2) := Lib.hid (grownBy_below (balloc HB2.out _) hgrow (fun k hk => (HO2.out.lt k hk).1))
            have HO3 : Hid (w2.ownsRow w.heap.size 9 1 v' (len (elL (l.take (m + 1)))) ((elL (l.take (m + 1))).map Value.string)) := Lib.hid (by
              rw [elL_snoc l m HLT.out, HRE.out, List.map_append, len_appH, show len [hbs r] = 1 from rfl]; exact hown')
            clear hown' hgrow HD
            have HNN := HN.out
            go_wp2
            go_roundg (gk - 1)
            case rel => exact ⟨m + 1, by omega, by go_num, Lib.hid ⟨HB3.out, HO3.out, fun j hj => by
              by_cases e : j = m
              · subst e; rw [HRE.out]; exact HOK.out
              · exact HS.out.y j (by omega)⟩⟩
            case measure => omega
          · have hok : hOk r = false := by simpa using hok
            have HNO : Hid (elOk l = false) := Lib.hid (by unfold elOk; rw [laysH_no HLT.out (by rw [HRE.out]; exact hok)]; simp)
            go_wp2_with fail
            refine (bytes_no B r _ (HTR.out.below (balloc (Below.refl _ _) _)) HRO.out hok).mono ?_
            rintro e w1 ⟨rfl, hb⟩
            have HB2 : Hid (Below w.heap.size w w1) := Lib.hid (bnext (balloc HB.out _) hb)
            clear hb e0 e1 e2 e3
            go_wp2
            exact ⟨rfl, HB2.out, .inr ⟨HNO.out, rfl⟩⟩
        · obtain rfl : m = len l := by omega
          have b0 : ¬ ((len l : Nat) : Int) < (len l : Nat) := by omega
          have HYE : Hid (elOk l = true) := Lib.hid (elOk_of H64.out.1 H64.out.2 HF.out (laysH_yes (fun i hi => HS.out.y i hi)))
          have HTK : Hid (l.take (len l) = l) := Lib.hid (take_len l)
          have HSO := Lib.hid HS.out.o
          rw [HTK.out] at HSO
          have HSB := Lib.hid HS.out.b
          go_wp2
          go_ret
          exact ⟨HSB.out, .inl ⟨HYE.out, _, rfl, TextsAre.own HSO.out⟩⟩
  · have HNO : Hid (elOk l = false) := Lib.hid (by
      unfold elOk
      by_cases h1 : 0 < len l
      · rw [decide_eq_false (show ¬ len l ≤ 64 from fun h => h64 ⟨h1, h⟩)]; simp
      · rw [decide_eq_false h1]; simp)
    by_cases a1 : 0 < len l
    · have a2 : ¬ (len l : Int) ≤ 64 := by omega
      clear h64
      go_enter Tryz.func70, Tryz.ntmps70
      go_wp2_with fail
      refine (hmust_no _).mono ?_
      rintro e w1 ⟨rfl, rfl⟩
      go_wp2
      exact ⟨rfl, Below.refl _ _, .inr ⟨HNO.out, rfl⟩⟩
    · clear h64
      go_enter Tryz.func70, Tryz.ntmps70
      go_wp2_with fail
      refine (hmust_no _).mono ?_
      rintro e w1 ⟨rfl, rfl⟩
      go_wp2
      exact ⟨rfl, Below.refl _ _, .inr ⟨HNO.out, rfl⟩⟩
theorem elements_yes (B : Nat) (l : List Hdr) (a : Option Addr) (cap : Nat) (w : World) (ht : PT B w) (hc : Hdrs w a l) (ho : ∀ i, (hnth l i).Ok) (hn : len l ≤ 100000) (h : elOk l = true) :
    Calls Tryz.prog 70 #[.slice a (len l) cap] w fun e w' => ∃ v, e = .returned v ∧ TextsAre (elL l) v w' ∧ Below w.heap.size w w' :=
  (elements_any B l a cap w ht hc ho hn).mono (fun e w' hh => by
    rcases hh.2 with ⟨_, v, h1, h2⟩ | ⟨h1, _⟩
    · exact ⟨v, h1, h2, hh.1⟩
    · rw [h] at h1; cases h1)
theorem elements_no (B : Nat) (l : List Hdr) (a : Option Addr) (cap : Nat) (w : World) (ht : PT B w) (hc : Hdrs w a l) (ho : ∀ i, (hnth l i).Ok) (hn : len l ≤ 100000) (h : elOk l = false) :
    Calls Tryz.prog 70 #[.slice a (len l) cap] w fun e w' => e = .panicked wrongC ∧ Below w.heap.size w w' :=
  (elements_any B l a cap w ht hc ho hn).mono (fun e w' hh => by
    rcases hh.2 with ⟨h1, _⟩ | ⟨_, h1⟩
    · rw [h] at h1; cases h1
    · exact ⟨h1, hh.1⟩)
set_option maxRecDepth 100000 in
theorem hang_any (B : Nat) (p q : Hdr) (w : World) (ht : PT B w) (hp : p.Ok) (hq : q.Ok) (h : hOk p = true) : Calls Tryz.prog 77 #[p.val, q.val] w fun e w' => e = .returned (.bool (hangH p q)) ∧ Below w.heap.size w w' := by
  obtain ⟨X, hX⟩ : ∃ X, hdg p = X := ⟨_, rfl⟩
  obtain ⟨x, hx⟩ : ∃ x, (q.prev.toList == X.toList) = x := ⟨_, rfl⟩
  have HE : Hid (hangH p q = x) := Lib.hid (by unfold hangH; rw [hX, ← hx, str_beq])
  have HD0 := Lib.hid (fun w9 (hb : Below w.heap.size w w9) => digest_yes B p w9 (ht.below hb) hp h)
  rw [hX] at HD0
  have HHX := Lib.hid hx
  clear ht hp hq h hX hx
  go_enter Tryz.func77, Tryz.ntmps77
  go_upto_region 1 with fail
  obtain ⟨V, hV⟩ : ∃ V, (w.alloc (.cells #[.int .u64 p.rnd, .string p.prev, .string p.txns, .string p.seed] 33)).alloc (.cells #[.int .u64 q.rnd, .string q.prev, .string q.txns, .string q.seed] 33) = V := ⟨_, rfl⟩
  have HVB : Hid (Below w.heap.size w V) := Lib.hid (by rw [← hV]; (repeat (first | exact Below.refl _ _ | assumption | (refine bdrew ?_) | (refine bdrewN ?_ _) | (refine balloc ?_ _) | (refine bset ?_ (by first | omega | (simp; done) | (simp; omega)) _) | (refine bnext ?_ (by assumption)))))
  have HV0 : Hid (V.heap[w.heap.size]? = some (.cells #[.int .u64 p.rnd, .string p.prev, .string p.txns, .string p.seed] 33 (0, 0))) := Lib.hid (by rw [← hV]; exact block_alloc (heap_alloc_new _ _) _)
  have HV1 : Hid (V.heap[w.heap.size + 1]? = some (.cells #[.int .u64 q.rnd, .string q.prev, .string q.txns, .string q.seed] 33 (0, 0))) := Lib.hid (by rw [← hV]; exact alloc_new_at _ (alloc_size _ rfl))
  rw [hV]
  have HD := Lib.hid (fun w9 (hb : Below V.heap.size V w9) => HD0.out w9 (bnext HVB.out hb))
  have c0 : V.cell? ⟨w.heap.size, 0, none⟩ = some (.int .u64 p.rnd) := block_cell HV0.out 0
  have c1 : V.cell? ⟨w.heap.size, 1, none⟩ = some (.string p.prev) := block_cell HV0.out 1
  have c2 : V.cell? ⟨w.heap.size, 2, none⟩ = some (.string p.txns) := block_cell HV0.out 2
  have c3 : V.cell? ⟨w.heap.size, 3, none⟩ = some (.string p.seed) := block_cell HV0.out 3
  have d1 : V.cell? ⟨w.heap.size + 1, 1, none⟩ = some (.string q.prev) := block_cell HV1.out 1
  have hx := HHX.out
  clear hV
  refine wp_region_all 1000 (none) (phis [fun u _ => u = (.pointer (some ⟨w.heap.size + 1, 1, none⟩)), fun u _ => u = (.string q.prev), fun u _ => u = ((Hdr.val p)), fun u _ => u = (.string X), fun u _ => u = (.bool x), fun u _ => u = (.bool x)]) rfl (by kernel_rfl) (mono_of ⟨mono_eq, mono_eq, mono_eq, mono_eq, mono_eq, mono_eq, trivial⟩) (steps_of 6 ⟨?s0, ?s1, ?s2, ?s3, ?s4, ?s5, trivial⟩) ?_
  case s0 =>
    refine step_val (v := (.pointer (some ⟨w.heap.size + 1, 1, none⟩))) (fun av wv hE hS hO hD => ?_) (fun _ => rfl)
    have h3 : av.eval (.tmp 3) = (.pointer (some ⟨w.heap.size + 1, 0, none⟩)) := hO.2.2 3 rfl
    have f3 := (ev_form av 3).symm.trans h3
    refine ⟨rfl, ?_⟩
    simp [go_sem, f3, hx]
  case s1 =>
    refine step_val (v := (.string q.prev)) (fun av wv hE hS hO hD => ?_) (fun _ => rfl)
    have d5 : av.eval (.tmp 5) = (.pointer (some ⟨w.heap.size + 1, 1, none⟩)) := hD.1 rfl _ rfl
    have f5 := (ev_form av 5).symm.trans d5
    have c0 := extB_cell hE (by simp) c0
    have c1 := extB_cell hE (by simp) c1
    have c2 := extB_cell hE (by simp) c2
    have c3 := extB_cell hE (by simp) c3
    have d1 := extB_cell hE (by simp) d1
    refine ⟨rfl, ?_⟩
    simp [go_sem, f5, c0, c1, c2, c3, d1, hx]
  case s2 =>
    refine step_val (v := ((Hdr.val p))) (fun av wv hE hS hO hD => ?_) (fun _ => rfl)
    have h2 : av.eval (.tmp 2) = (.pointer (some ⟨w.heap.size, 0, none⟩)) := hO.2.2 2 rfl
    have f2 := (ev_form av 2).symm.trans h2
    have c0 := extB_cell hE (by simp) c0
    have c1 := extB_cell hE (by simp) c1
    have c2 := extB_cell hE (by simp) c2
    have c3 := extB_cell hE (by simp) c3
    have d1 := extB_cell hE (by simp) d1
    refine ⟨rfl, ?_⟩
    simp [go_sem, f2, c0, c1, c2, c3, d1, hx]
  case s3 =>
    refine step_wp (fun av wv hE hS hO hD => ?_)
    have d7 : av.eval (.tmp 7) = ((Hdr.val p)) := hD.1 rfl _ rfl
    have f7 := (ev_form av 7).symm.trans d7
    refine ⟨rfl, ?_⟩
    refine wp_of_call (v := .string X) (by simp [go_sem, f7]) (HD.out wv (of_drew hE)) (fun w2 hb => ⟨_, rfl, es_of_ext hb, rfl⟩)
  case s4 =>
    refine step_val (v := (.bool x)) (fun av wv hE hS hO hD => ?_) (fun _ => rfl)
    have d6 : av.eval (.tmp 6) = (.string q.prev) := hD.1 rfl _ rfl
    have f6 := (ev_form av 6).symm.trans d6
    have d8 : av.eval (.tmp 8) = (.string X) := hD.2.1 rfl _ rfl
    have f8 := (ev_form av 8).symm.trans d8
    refine ⟨rfl, ?_⟩
    simp [go_sem, f6, f8, hx]
  case s5 =>
    refine step_val (v := (.bool x)) (fun av wv hE hS hO hD => ?_) (fun _ => rfl)
    have d9 : av.eval (.tmp 9) = (.bool x) := hD.1 rfl _ rfl
    have f9 := (ev_form av 9).symm.trans d9
    refine ⟨rfl, ?_⟩
    simp [go_sem, f9, hx]
  intro a' w' hE hO hall
  have hA := act_of_outer (ds := [5, 6, 7, 8, 9, 4]) rfl hO (by kernel_rfl)
  have e5 : (fun u _ => u = (.pointer (some ⟨w.heap.size + 1, 1, none⟩))) (a'.eval (.tmp 5)) w' := hall.1 _ rfl
  have e6 : (fun u _ => u = (.string q.prev)) (a'.eval (.tmp 6)) w' := hall.2.1 _ rfl
  have e7 : (fun u _ => u = ((Hdr.val p))) (a'.eval (.tmp 7)) w' := hall.2.2.1 _ rfl
  have e8 : (fun u _ => u = (.string X)) (a'.eval (.tmp 8)) w' := hall.2.2.2.1 _ rfl
  have e9 : (fun u _ => u = (.bool x)) (a'.eval (.tmp 9)) w' := hall.2.2.2.2.1 _ rfl
  have e4 : (fun u _ => u = (.bool x)) (a'.eval (.tmp 4)) w' := hall.2.2.2.2.2.1 _ rfl
  simp only [List.foldl_cons, List.foldl_nil, Act.put, List.setIfInBounds_toArray, List.set_cons_succ, List.set_cons_zero, e5, e6, e7, e8, e9, e4] at hA
  clear hO hall e5 e6 e7 e8 e9 e4
  subst hA
  have HB2 : Hid (Below w.heap.size w w') := Lib.hid (bnext HVB.out (of_drew hE))
  clear hE c0 c1 c2 c3 d1 hx
  go_wp2
  go_ret
  exact ⟨ret_bool (by rw [HE.out]; try rfl), HB2.out⟩
end Go.Proofs.YtpobhbdomldecaaGreatDoor
namespace Go.Proofs.YtpobhbdomldecaaGreatDoor
open Go.RowKit
set_option linter.unusedSimpArgs false
set_option linter.unusedVariables false
set_option maxRecDepth 100000 in
theorem safe_frame (p q x : Value) : #[p, q] ++ ((Array.replicate 16 undef).setIfInBounds 3 x).setIfInBounds 0 x = #[p, q, x, undef, undef, x, undef, undef, undef, undef, undef, undef, undef, undef, undef, undef, undef, undef] := by
  simp [Array.replicate, List.replicate]
set_option maxRecDepth 100000 in
theorem safe_idle (p q : Value) (w : World) :
    CallsD Tryz.prog 126 #[p, q] .returning w fun e u' w' => e = .returned (.tuple #[]) ∧ u' = .returning ∧ w' = w := by
  refine callsD_of_wpS Tryz.func126 rfl fun c₀ cs hu => ?_
  apply wpS_seq
  apply wpS_region
  simp [wpOpsS, go_sem, recoverD, hu, Tryz.ntmps126, Exit.thenS]
  refine wpS_of_wp ?_
  obtain ⟨Q, hQ⟩ : ∃ Q : Exit → Act → World → Prop, (fun e a' w' => bodyPostS Tryz.prog Tryz.f126 c₀ cs (fun e u' w' => e = Ending.returned (.tuple #[]) ∧ u' = .returning ∧ w' = w) e a' (c₀ :: cs) w') = Q := ⟨_, rfl⟩
  rw [hQ, safe_frame]
  have HQ := Lib.hid hQ
  clear hQ
  go_wp2
  rw [← HQ.out]
  simp [bodyPostS, results, Tryz.results126]
  cases c₀; simp_all
theorem assert_wrong (k : Int) (w : World) : (Instr.typeAssert (.iface 154 (.agg #[.int .i64 k])) 20 154 true).run Tryz.prog w = .ok (.tuple #[.agg #[.int .i64 k], .bool true]) w := by kernel_rfl
structure Boxes (w : World) (sb eb : Nat) (s : ByteArray) (k : Int) : Prop where
  s_ : w.heap[sb]? = some (.cells #[.string s] 9 (0, 0))
  e_ : w.heap[eb]? = some (.cells #[.int .i64 k] 27 (0, 0))
set_option maxRecDepth 100000 in
set_option maxHeartbeats 1000000 in
theorem safe_some (older : List PanicEntry) (sb eb : Nat) (s : ByteArray) (k : Int) (w : World) (h : Boxes w sb eb s k) (hne : sb ≠ eb) (B : Nat) (hs : B ≤ sb) (he : B ≤ eb) (hB : B ≤ w.heap.size) :
    CallsD Tryz.prog 126 #[.pointer (some ⟨sb, 0, none⟩), .pointer (some ⟨eb, 0, none⟩)] (.panicking ({ v := .iface 154 (.agg #[.int .i64 2]), recovered := false } :: older)) w fun e u' w' =>
      e = .returned (.tuple #[]) ∧ u' = .panicking ({ v := .iface 154 (.agg #[.int .i64 2]), recovered := true } :: older) ∧ Boxes w' sb eb ⟨#[]⟩ 2 ∧ Below B w w' := by
  refine callsD_of_wpS Tryz.func126 rfl fun c₀ cs hu => ?_
  apply wpS_seq
  apply wpS_region
  simp [wpOpsS, go_sem, recoverD, hu, Tryz.ntmps126, Exit.thenS]
  refine wpS_of_wp ?_
  obtain ⟨Q, hQ⟩ : ∃ Q : Exit → Act → World → Prop, (fun e a' w' => bodyPostS Tryz.prog Tryz.f126 c₀ cs (fun e u' w' => e = Ending.returned (.tuple #[]) ∧ u' = .panicking ({ v := .iface 154 (.agg #[.int .i64 2]), recovered := true } :: older) ∧ Boxes w' sb eb ⟨#[]⟩ 2 ∧ Below B w w') e a' ({ c₀ with mode := .panicking ({ v := .iface 154 (.agg #[.int .i64 2]), recovered := true } :: older) } :: cs) w') = Q := ⟨_, rfl⟩
  rw [hQ, safe_frame]
  have HQ := Lib.hid hQ
  have HX := Lib.hid h
  have ha := assert_wrong 2
  clear hQ hu h
  go_upto_region 5 with fail
  obtain ⟨V, hV⟩ : ∃ V, w.alloc (.cells #[.int .i64 2] 154) = V := ⟨_, rfl⟩
  obtain ⟨xb, hxb⟩ : ∃ xb, w.heap.size = xb := ⟨_, rfl⟩
  have HBV : Hid (Below w.heap.size w V) := Lib.hid (by rw [← hV]; exact balloc (Below.refl _ _) _)
  have HVS := Lib.hid ((HBV.out.block _ (lt_of_block HX.out.s_)).trans HX.out.s_)
  have HVE := Lib.hid ((HBV.out.block _ (lt_of_block HX.out.e_)).trans HX.out.e_)
  have HXB : Hid (V.heap[xb]? = some (.cells #[.int .i64 2] 154 (0, 0))) := Lib.hid (by rw [← hV, ← hxb]; exact heap_alloc_new _ _)
  have n1 : sb ≠ xb := by have := lt_of_block HX.out.s_; omega
  have n2 : eb ≠ xb := by have := lt_of_block HX.out.e_; omega
  have cx : V.cell? ⟨xb, 0, none⟩ = some (.int .i64 2) := block_cell HXB.out 0
  have cs : V.cell? ⟨sb, 0, none⟩ = some (.string s) := block_cell HVS.out 0
  have ce : V.cell? ⟨eb, 0, none⟩ = some (.int .i64 k) := block_cell HVE.out 0
  have fs : V.frozen? ⟨sb, 0, none⟩ = false := block_free HVS.out 0
  have fe : V.frozen? ⟨eb, 0, none⟩ = false := block_free HVE.out 0
  have HBB : Hid (Below B w V) := Lib.hid (HBV.out.mono (by omega))
  rw [hV, hxb]
  clear hV hxb ha
  go_region
  rw [← HQ.out]
  exact ⟨rfl, _, rfl, .tuple #[], by simp [results, Tryz.results126], rfl, rfl, ⟨block_setCell_ne (block_setCell HVS.out _) hne _, block_setCell (block_setCell_ne HVE.out (fun e => hne e.symm) _) _⟩, ((HBB.out.setCell hs _).setCell he _).drew⟩
set_option maxRecDepth 100000 in
set_option maxHeartbeats 1000000 in
theorem safely_yes (F : FuncId) (C : Array Value) (s : ByteArray) (w : World) (eg : ∀ args w, (callFunc F args).run Tryz.prog w = .ok (.enter F args) w) (h : ∀ w', Below w.heap.size w w' → Calls Tryz.prog F C w' fun e w'' => e = .returned (.string s) ∧ Below w'.heap.size w' w'') :
    Calls Tryz.prog 67 #[.func (.func F) #[] C] w fun e w' => e = .returned (.tuple #[.string s, .int .i64 0]) ∧ Below w.heap.size w w' := by
  have HF := Lib.hid h
  clear h
  go_enter_defers Tryz.func67, Tryz.ntmps67
  go_wp2_with fail
  obtain ⟨V, hV⟩ : ∃ V, (w.alloc (.cells #[.string ⟨#[]⟩] 9)).alloc (.cells #[.int .i64 0] 27) = V := ⟨_, rfl⟩
  have HBV : Hid (Below w.heap.size w V) := Lib.hid (by rw [← hV]; (repeat (first | exact Below.refl _ _ | assumption | (refine bdrew ?_) | (refine bdrewN ?_ _) | (refine balloc ?_ _) | (refine bset ?_ (by first | omega | (simp; done) | (simp; omega)) _) | (refine bnext ?_ (by assumption)))))
  have HV0 : Hid (V.heap[w.heap.size]? = some (.cells #[.string ⟨#[]⟩] 9 (0, 0))) := Lib.hid (by rw [← hV]; (repeat (first | exact alloc_new_at _ (by repeat (first | rfl | refine alloc_size _ ?_)) | refine block_alloc ?_ _)))
  have HV1 : Hid (V.heap[w.heap.size + 1]? = some (.cells #[.int .i64 0] 27 (0, 0))) := Lib.hid (by rw [← hV]; (repeat (first | exact alloc_new_at _ (by repeat (first | rfl | refine alloc_size _ ?_)) | refine block_alloc ?_ _)))
  rw [hV]
  clear hV
  refine (HF.out V HBV.out).mono ?_
  rintro e w1 ⟨rfl, hb⟩
  have HB : Hid (Below w.heap.size w w1) := Lib.hid (bnext HBV.out hb)
  have HW0 := Lib.hid ((hb.block _ (lt_of_block HV0.out)).trans HV0.out)
  have HW1 := Lib.hid ((hb.block _ (lt_of_block HV1.out)).trans HV1.out)
  have c0 : w1.cell? ⟨w.heap.size, 0, none⟩ = some (.string ⟨#[]⟩) := block_cell HW0.out 0
  have c1 : w1.cell? ⟨w.heap.size + 1, 0, none⟩ = some (.int .i64 0) := block_cell HW1.out 0
  have f0 : w1.frozen? ⟨w.heap.size, 0, none⟩ = false := block_free HW0.out 0
  have f1 : w1.frozen? ⟨w.heap.size + 1, 0, none⟩ = false := block_free HW1.out 0
  clear hb
  go_wp2
  obtain ⟨X, hX⟩ : ∃ X, (w1.setCell ⟨w.heap.size, 0, none⟩ (.string s)).setCell ⟨w.heap.size + 1, 0, none⟩ (.int .i64 0) = X := ⟨_, rfl⟩
  have HX0 : Hid (X.heap[w.heap.size]? = some (.cells #[.string s] 9 (0, 0))) := Lib.hid (by rw [← hX]; exact block_setCell_ne (block_setCell HW0.out _) (by simp) _)
  have HX1 : Hid (X.heap[w.heap.size + 1]? = some (.cells #[.int .i64 0] 27 (0, 0))) := Lib.hid (by rw [← hX]; exact block_setCell (block_setCell_ne HW1.out (by simp) _) _)
  have HXB : Hid (Below w.heap.size w X) := Lib.hid (by rw [← hX]; exact bset (bset HB.out (Nat.le_refl _) _) (by simp) _)
  rw [hX]
  clear hX
  refine leaves_cons (f := 126) (args := #[.pointer (some ⟨w.heap.size, 0, none⟩), .pointer (some ⟨w.heap.size + 1, 0, none⟩)]) (by simp) (by simp [go_sem]) ?_
  refine (safe_idle (.pointer (some ⟨w.heap.size, 0, none⟩)) (.pointer (some ⟨w.heap.size + 1, 0, none⟩)) _).mono ?_
  rintro e u' w'' ⟨rfl, rfl, rfl⟩
  have x0 : w''.cell? ⟨w.heap.size, 0, none⟩ = some (.string s) := block_cell HX0.out 0
  have x1 : w''.cell? ⟨w.heap.size + 1, 0, none⟩ = some (.int .i64 0) := block_cell HX1.out 0
  exact ⟨_, by simp [results, Tryz.results67, go_sem, x0, x1], rfl, HXB.out⟩
set_option maxRecDepth 100000 in
set_option maxHeartbeats 1000000 in
theorem safely_no (F : FuncId) (C : Array Value) (w : World) (eg : ∀ args w, (callFunc F args).run Tryz.prog w = .ok (.enter F args) w) (h : ∀ w', Below w.heap.size w w' → Calls Tryz.prog F C w' fun e w'' => e = .panicked wrongC ∧ Below w'.heap.size w' w'') :
    Calls Tryz.prog 67 #[.func (.func F) #[] C] w fun e w' => e = .returned (.tuple #[.string ⟨#[]⟩, .int .i64 2]) ∧ Below w.heap.size w w' := by
  have HF := Lib.hid h
  clear h
  go_enter_defers Tryz.func67, Tryz.ntmps67
  go_wp2_with fail
  obtain ⟨V, hV⟩ : ∃ V, (w.alloc (.cells #[.string ⟨#[]⟩] 9)).alloc (.cells #[.int .i64 0] 27) = V := ⟨_, rfl⟩
  have HBV : Hid (Below w.heap.size w V) := Lib.hid (by rw [← hV]; (repeat (first | exact Below.refl _ _ | assumption | (refine bdrew ?_) | (refine bdrewN ?_ _) | (refine balloc ?_ _) | (refine bset ?_ (by first | omega | (simp; done) | (simp; omega)) _) | (refine bnext ?_ (by assumption)))))
  have HV0 : Hid (V.heap[w.heap.size]? = some (.cells #[.string ⟨#[]⟩] 9 (0, 0))) := Lib.hid (by rw [← hV]; (repeat (first | exact alloc_new_at _ (by repeat (first | rfl | refine alloc_size _ ?_)) | refine block_alloc ?_ _)))
  have HV1 : Hid (V.heap[w.heap.size + 1]? = some (.cells #[.int .i64 0] 27 (0, 0))) := Lib.hid (by rw [← hV]; (repeat (first | exact alloc_new_at _ (by repeat (first | rfl | refine alloc_size _ ?_)) | refine block_alloc ?_ _)))
  rw [hV]
  clear hV
  refine (HF.out V HBV.out).mono ?_
  rintro e w1 ⟨rfl, hb⟩
  have HB : Hid (Below w.heap.size w w1) := Lib.hid (bnext HBV.out hb)
  have HW0 := Lib.hid ((hb.block _ (lt_of_block HV0.out)).trans HV0.out)
  have HW1 := Lib.hid ((hb.block _ (lt_of_block HV1.out)).trans HV1.out)
  clear hb
  go_wp2
  refine leaves_cons (f := 126) (args := #[.pointer (some ⟨w.heap.size, 0, none⟩), .pointer (some ⟨w.heap.size + 1, 0, none⟩)]) (by simp) (by simp [go_sem]) ?_
  refine (safe_some [] w.heap.size (w.heap.size + 1) ⟨#[]⟩ 0 w1 ⟨HW0.out, HW1.out⟩ (by simp) w.heap.size (Nat.le_refl _) (by simp) HB.out.size).mono ?_
  rintro e u' w'' ⟨rfl, rfl, hx, hb⟩
  have x0 : w''.cell? ⟨w.heap.size, 0, none⟩ = some (.string ⟨#[]⟩) := block_cell hx.s_ 0
  have x1 : w''.cell? ⟨w.heap.size + 1, 0, none⟩ = some (.int .i64 2) := block_cell hx.e_ 0
  exact ⟨_, by simp [results, Tryz.results67, go_sem, x0, x1], rfl, HB.out.trans hb⟩
end Go.Proofs.YtpobhbdomldecaaGreatDoor
namespace Go.Proofs.YtpobhbdomldecaaGreatDoor
open Go.RowKit
set_option linter.unusedSimpArgs false
set_option linter.unusedVariables false
set_option maxRecDepth 100000 in
theorem digest1_yes (B : Nat) (r : Hdr) (xb : Nat) (w : World) (ht : PT B w) (ho : r.Ok) (h : hOk r = true) (hx : w.heap[xb]? = some (.cells #[.int .u64 r.rnd, .string r.prev, .string r.txns, .string r.seed] 33 (0, 0))) :
    Calls Tryz.prog 79 #[.pointer (some ⟨xb, 0, none⟩)] w fun e w' => e = .returned (.string (hdg r)) ∧ Below w.heap.size w w' := by
  have HW := Lib.hid (digest_yes B r w ht ho h)
  have c : ∀ o, w.cell? ⟨xb, o, none⟩ = _ := block_cell hx
  clear ht ho h hx
  go_enter Tryz.func79, Tryz.ntmps79
  go_wp2_with fail
  refine HW.out.mono ?_
  rintro e w1 ⟨rfl, hb⟩
  have HB := Lib.hid hb
  clear hb c
  go_wp2
  go_ret
  exact ⟨rfl, HB.out⟩
set_option maxRecDepth 100000 in
theorem digest1_no (B : Nat) (r : Hdr) (xb : Nat) (w : World) (ht : PT B w) (ho : r.Ok) (h : hOk r = false) (hx : w.heap[xb]? = some (.cells #[.int .u64 r.rnd, .string r.prev, .string r.txns, .string r.seed] 33 (0, 0))) :
    Calls Tryz.prog 79 #[.pointer (some ⟨xb, 0, none⟩)] w fun e w' => e = .panicked wrongC ∧ Below w.heap.size w w' := by
  have HW := Lib.hid (digest_no B r w ht ho h)
  have c : ∀ o, w.cell? ⟨xb, o, none⟩ = _ := block_cell hx
  clear ht ho h hx
  go_enter Tryz.func79, Tryz.ntmps79
  go_wp2_with fail
  refine HW.out.mono ?_
  rintro e w1 ⟨rfl, hb⟩
  have HB := Lib.hid hb
  clear hb c
  go_wp2
  exact ⟨rfl, rfl, HB.out⟩
set_option maxRecDepth 100000 in
theorem hdig_any (B : Nat) (r : Hdr) (w : World) (ht : PT B w) (ho : r.Ok) : Calls Tryz.prog 21 #[r.val] w (DgIs r w) := by
  have HT := Lib.hid ht
  have HO := Lib.hid ho
  clear ht ho
  by_cases h : hOk r = true
  · have HE : Hid (dgS r = hdg r ∧ dgE r = 0) := Lib.hid ⟨if_pos h, if_pos h⟩
    go_enter Tryz.func21, Tryz.ntmps21
    go_wp2_with fail
    refine (safely_yes 79 #[.pointer (some ⟨w.heap.size, 0, none⟩)] (hdg r) _ (fun _ _ => rfl) (fun w' hb => digest1_yes B r w.heap.size w' ((HT.out.below (balloc (Below.refl _ _) _)).below hb) HO.out h ((hb.block _ (by simp)).trans (heap_alloc_new _ _)))).mono ?_
    rintro e w1 ⟨rfl, hb⟩
    have HB : Hid (Below w.heap.size w w1) := Lib.hid (bnext (balloc (Below.refl _ _) _) hb)
    clear hb
    go_wp2
    go_ret2
    exact ⟨by rw [HE.out.1, HE.out.2]; rfl, HB.out⟩
  · have h : hOk r = false := by simpa using h
    have HE : Hid (dgS r = ⟨#[]⟩ ∧ dgE r = 2) := Lib.hid ⟨if_neg (by rw [h]; decide), if_neg (by rw [h]; decide)⟩
    go_enter Tryz.func21, Tryz.ntmps21
    go_wp2_with fail
    refine (safely_no 79 #[.pointer (some ⟨w.heap.size, 0, none⟩)] _ (fun _ _ => rfl) (fun w' hb => digest1_no B r w.heap.size w' ((HT.out.below (balloc (Below.refl _ _) _)).below hb) HO.out h ((hb.block _ (by simp)).trans (heap_alloc_new _ _)))).mono ?_
    rintro e w1 ⟨rfl, hb⟩
    have HB : Hid (Below w.heap.size w w1) := Lib.hid (bnext (balloc (Below.refl _ _) _) hb)
    clear hb
    go_wp2
    go_ret2
    exact ⟨by rw [HE.out.1, HE.out.2]; rfl, HB.out⟩
def BoxL (w : World) (xb : Nat) (a : Option Addr) (n cap : Nat) : Prop := w.heap[xb]? = some (.cells #[.slice a n cap] 22 (0, 0))
theorem BoxL.below {w w' : World} {xb : Nat} {a : Option Addr} {n cap : Nat} (h : BoxL w xb a n cap) (hb : Below w.heap.size w w') : BoxL w' xb a n cap := (hb.block _ (lt_of_block h)).trans h
set_option maxRecDepth 100000 in
theorem root1_yes (B : Nat) (l : List Hdr) (a : Option Addr) (cap xb : Nat) (w : World) (ht : PT B w) (hc : Hdrs w a l) (ho : ∀ i, (hnth l i).Ok) (hn : len l ≤ 100000) (h : elOk l = true) (hx : BoxL w xb a (len l) cap) :
    Calls Tryz.prog 68 #[.pointer (some ⟨xb, 0, none⟩)] w fun e w' => e = .returned (.string (hroot l)) ∧ Below w.heap.size w w' := by
  have HW := Lib.hid (elements_yes B l a cap w ht hc ho hn h)
  have HS := Lib.hid (elL_size h)
  have HL : Hid (len (elL l) ≤ 65536) := Lib.hid (by rw [elL_len]; have := (elOk_at h).2.1; omega)
  have c0 : w.cell? ⟨xb, 0, none⟩ = some (.slice a (len l) cap) := block_cell hx 0
  clear ht ho h hx hn hc
  go_enter Tryz.func68, Tryz.ntmps68
  go_wp2_with fail
  refine HW.out.mono ?_
  rintro e w1 ⟨v, rfl, ⟨a1, c1, rfl, hx, _, _⟩, hb⟩
  have HB := Lib.hid hb
  have HX := Lib.hid hx
  clear hb c0 hx
  go_wp2_with fail
  refine (hrootT_any (elL l) a1 c1 w1 HX.out HL.out (fun i hi => Nat.le_trans (HS.out i hi) (by decide))).mono ?_
  rintro e w2 ⟨rfl, hb⟩
  have HB := Lib.hid (bnext HB.out hb)
  clear hb
  go_wp2
  go_ret
  exact ⟨rfl, HB.out⟩
set_option maxRecDepth 100000 in
theorem root1_no (B : Nat) (l : List Hdr) (a : Option Addr) (cap xb : Nat) (w : World) (ht : PT B w) (hc : Hdrs w a l) (ho : ∀ i, (hnth l i).Ok) (hn : len l ≤ 100000) (h : elOk l = false) (hx : BoxL w xb a (len l) cap) :
    Calls Tryz.prog 68 #[.pointer (some ⟨xb, 0, none⟩)] w fun e w' => e = .panicked wrongC ∧ Below w.heap.size w w' := by
  have HW := Lib.hid (elements_no B l a cap w ht hc ho hn h)
  have c0 : w.cell? ⟨xb, 0, none⟩ = some (.slice a (len l) cap) := block_cell hx 0
  clear ht ho h hx hn hc
  go_enter Tryz.func68, Tryz.ntmps68
  go_wp2_with fail
  refine HW.out.mono ?_
  rintro e w1 ⟨rfl, hb⟩
  have HB := Lib.hid hb
  clear hb c0
  go_wp2
  exact ⟨rfl, rfl, HB.out⟩
set_option maxRecDepth 100000 in
theorem hroot_any (B : Nat) (l : List Hdr) (a : Option Addr) (cap : Nat) (w : World) (ht : PT B w) (hc : Hdrs w a l) (ho : ∀ i, (hnth l i).Ok) (hn : len l ≤ 100000) : Calls Tryz.prog 17 #[.slice a (len l) cap] w (RtIs l w) := by
  have HT := Lib.hid ht
  have HO := Lib.hid ho
  have HC := Lib.hid hc
  have HN := Lib.hid hn
  clear ht ho hc hn
  by_cases h : elOk l = true
  · have HE : Hid (rtS l = hroot l ∧ rtE l = 0) := Lib.hid ⟨if_pos h, if_pos h⟩
    go_enter Tryz.func17, Tryz.ntmps17
    go_wp2_with fail
    refine (safely_yes 68 #[.pointer (some ⟨w.heap.size, 0, none⟩)] (hroot l) _ (fun _ _ => rfl) (fun w' hb => root1_yes B l a cap w.heap.size w' ((HT.out.below (balloc (Below.refl _ _) _)).below hb) ((HC.out.below (balloc (Below.refl _ _) _)).below hb) HO.out HN.out h ((hb.block _ (by simp)).trans (heap_alloc_new _ _)))).mono ?_
    rintro e w1 ⟨rfl, hb⟩
    have HB : Hid (Below w.heap.size w w1) := Lib.hid (bnext (balloc (Below.refl _ _) _) hb)
    clear hb
    go_wp2
    go_ret2
    exact ⟨by rw [HE.out.1, HE.out.2]; rfl, HB.out⟩
  · have h : elOk l = false := by simpa using h
    have HE : Hid (rtS l = ⟨#[]⟩ ∧ rtE l = 2) := Lib.hid ⟨if_neg (by rw [h]; decide), if_neg (by rw [h]; decide)⟩
    go_enter Tryz.func17, Tryz.ntmps17
    go_wp2_with fail
    refine (safely_no 68 #[.pointer (some ⟨w.heap.size, 0, none⟩)] _ (fun _ _ => rfl) (fun w' hb => root1_no B l a cap w.heap.size w' ((HT.out.below (balloc (Below.refl _ _) _)).below hb) ((HC.out.below (balloc (Below.refl _ _) _)).below hb) HO.out HN.out h ((hb.block _ (by simp)).trans (heap_alloc_new _ _)))).mono ?_
    rintro e w1 ⟨rfl, hb⟩
    have HB : Hid (Below w.heap.size w w1) := Lib.hid (bnext (balloc (Below.refl _ _) _) hb)
    clear hb
    go_wp2
    go_ret2
    exact ⟨by rw [HE.out.1, HE.out.2]; rfl, HB.out⟩
set_option maxRecDepth 100000 in
theorem link1_any (B : Nat) (l : List Hdr) (a : Option Addr) (cap xb : Nat) (w : World) (ht : PT B w) (hc : Hdrs w a l) (ho : ∀ i, (hnth l i).Ok) (hn : len l ≤ 100000) (hx : BoxL w xb a (len l) cap) :
    Calls Tryz.prog 74 #[.pointer (some ⟨xb, 0, none⟩)] w fun e w' => (linkedH l = true ∧ e = .returned (.string ⟨#[]⟩) ∨ linkedH l = false ∧ e = .panicked wrongC) ∧ Below w.heap.size w w' := by
  have HT := Lib.hid ht
  have HC := Lib.hid hc
  have HO := Lib.hid ho
  have HN := Lib.hid hn
  have HX := Lib.hid hx
  have HE := Lib.hid (elements_any B l a cap w ht hc ho hn)
  have c0 : w.cell? ⟨xb, 0, none⟩ = some (.slice a (len l) cap) := block_cell hx 0
  clear ht hc ho hn hx
  go_enter Tryz.func74, Tryz.ntmps74
  go_wp2_with fail
  refine HE.out.mono ?_
  rintro e w1 ⟨hb, hh⟩
  have HB := Lib.hid hb
  rcases hh with ⟨hel, v, rfl, -⟩ | ⟨hel, rfl⟩
  · have HEL := Lib.hid hel
    have c1 : w1.cell? ⟨xb, 0, none⟩ = some (.slice a (len l) cap) := block_cell (HX.out.below hb) 0
    clear hb hel c0
    go_wp2_with fail
    refine (follow_any 77 #[] hangH a cap l w1 HN.out (HC.out.below HB.out) (fun _ _ => rfl) (fun i h0 h1 w9 hb => hang_any B _ _ w9 ((HT.out.below HB.out).below hb) (HO.out _) (HO.out _) (laysH_at (elOk_at HEL.out).2.2.2 (by omega)))).mono ?_
    rintro e w2 ⟨rfl, hb⟩
    have HB2 : Hid (Below w.heap.size w w2) := Lib.hid (bnext HB.out hb)
    clear hb c1
    cases hf : followH hangH l with
    | false =>
      have HL : Hid (linkedH l = false) := Lib.hid (by unfold linkedH; rw [hf]; simp)
      clear hf
      go_wp2_with fail
      refine (hmust_no _).mono ?_
      rintro e w3 ⟨rfl, rfl⟩
      go_wp2
      exact ⟨rfl, .inr ⟨HL.out, rfl⟩, HB2.out⟩
    | true =>
      have HL : Hid (linkedH l = true) := Lib.hid (by unfold linkedH; rw [hf, HEL.out]; rfl)
      clear hf
      go_wp2_with fail
      refine (hmust_yes _).mono ?_
      rintro e w3 ⟨rfl, rfl⟩
      go_wp2
      go_ret
      exact ⟨.inl ⟨HL.out, rfl⟩, HB2.out⟩
  · have HL : Hid (linkedH l = false) := Lib.hid (by unfold linkedH; rw [hel]; rfl)
    clear hb hel c0
    go_wp2
    exact ⟨rfl, .inr ⟨HL.out, rfl⟩, HB.out⟩
set_option maxRecDepth 100000 in
theorem hlinked_any (B : Nat) (l : List Hdr) (a : Option Addr) (cap : Nat) (w : World) (ht : PT B w) (hc : Hdrs w a l) (ho : ∀ i, (hnth l i).Ok) (hn : len l ≤ 100000) :
    Calls Tryz.prog 19 #[.slice a (len l) cap] w fun e w' => e = .returned (.bool (linkedH l)) ∧ Below w.heap.size w w' := by
  have H1 := Lib.hid (fun w' (hb : Below (w.alloc (.cells #[.slice a (len l) cap] 22)).heap.size (w.alloc (.cells #[.slice a (len l) cap] 22)) w') => link1_any B l a cap w.heap.size w' ((ht.below (balloc (Below.refl _ _) _)).below hb) ((hc.below (balloc (Below.refl _ _) _)).below hb) ho hn ((hb.block _ (by simp)).trans (heap_alloc_new _ _)))
  clear ht hc ho hn
  cases hl : linkedH l with
  | true =>
    go_enter Tryz.func19, Tryz.ntmps19
    go_wp2_with fail
    refine (safely_yes 74 #[.pointer (some ⟨w.heap.size, 0, none⟩)] ⟨#[]⟩ _ (fun _ _ => rfl) (fun w' hb => (H1.out w' hb).mono (fun e w2 hh => ⟨hh.1.elim (fun h => h.2) (fun h => absurd h.1 (by rw [hl]; decide)), hh.2⟩))).mono ?_
    rintro e w1 ⟨rfl, hb⟩
    have HB : Hid (Below w.heap.size w w1) := Lib.hid (bnext (balloc (Below.refl _ _) _) hb)
    clear hb hl
    go_wp2
    go_ret
    exact ⟨rfl, HB.out⟩
  | false =>
    go_enter Tryz.func19, Tryz.ntmps19
    go_wp2_with fail
    refine (safely_no 74 #[.pointer (some ⟨w.heap.size, 0, none⟩)] _ (fun _ _ => rfl) (fun w' hb => (H1.out w' hb).mono (fun e w2 hh => ⟨hh.1.elim (fun h => absurd h.1 (by rw [hl]; decide)) (fun h => h.2), hh.2⟩))).mono ?_
    rintro e w1 ⟨rfl, hb⟩
    have HB : Hid (Below w.heap.size w w1) := Lib.hid (bnext (balloc (Below.refl _ _) _) hb)
    clear hb hl
    go_wp2
    go_ret
    exact ⟨rfl, HB.out⟩
def BoxT (w : World) (xb : Nat) (a : Option Addr) (n cap : Nat) : Prop := w.heap[xb]? = some (.cells #[.slice a n cap] 36 (0, 0))
theorem BoxT.below {w w' : World} {xb : Nat} {a : Option Addr} {n cap : Nat} (h : BoxT w xb a n cap) (hb : Below w.heap.size w w') : BoxT w' xb a n cap := (hb.block _ (lt_of_block h)).trans h
theorem bods_no {l : List ByteArray} {m : Nat} (hm : m < len l) (h : ¬ (0 < (tth l m).size ∧ (tth l m).size ≤ 64)) : bodsOk l = false := by
  unfold bodsOk
  have : (l.all fun s => decide (0 < s.size) && decide (s.size ≤ 64)) = false := by
    rw [List.all_eq_false]
    refine ⟨tth l m, by rw [tth_eq l m hm]; exact List.getElem_mem hm, ?_⟩
    simp only [Bool.and_eq_true, decide_eq_true_eq]
    exact h
  rw [this]; simp
theorem bods_yes {l : List ByteArray} (hn : len l ≤ 64) (h : ∀ m, m < len l → 0 < (tth l m).size ∧ (tth l m).size ≤ 64) : bodsOk l = true := by
  unfold bodsOk
  rw [decide_eq_true hn, Bool.true_and, List.all_eq_true]
  intro x hx
  obtain ⟨i, hi, rfl⟩ := List.getElem_of_mem hx
  have := h i hi
  rw [tth_eq l i hi] at this
  simp [this.1, this.2]
set_option maxRecDepth 100000 in
set_option maxHeartbeats 4000000 in
theorem txns1_any (l : List ByteArray) (a : Option Addr) (cap xb : Nat) (w : World) (hn : len l ≤ 65536) (hc : Txts w a l) (hz : ∀ i, i < len l → (tth l i).size ≤ 1000000) (hx : BoxT w xb a (len l) cap) :
    Calls Tryz.prog 82 #[.pointer (some ⟨xb, 0, none⟩)] w fun e w' => (bodsOk l = true ∧ e = .returned (.string (treeR l)) ∨ bodsOk l = false ∧ e = .panicked wrongC) ∧ Below w.heap.size w w' := by
  have HC := Lib.hid hc
  have HN := Lib.hid hn
  have HZ := Lib.hid hz
  have c0 : w.cell? ⟨xb, 0, none⟩ = some (.slice a (len l) cap) := block_cell hx 0
  have HCX := Lib.hid c0
  clear hc hz hn hx
  by_cases h64 : len l ≤ 64
  · have c1 : (len l : Int) ≤ 64 := by omega
    have H64 := Lib.hid h64
    go_enter Tryz.func82, Tryz.ntmps82
    go_wp2_with fail
    refine (hmust_yes _).mono ?_
    rintro e w1 ⟨rfl, rfl⟩
    go_wp2
    go_loopg [10] (len l) (fun gg i wr => ∃ m : Nat, gg + m = len l ∧ i = .int .i64 (m : Nat) ∧ wr = w ∧ Hid (∀ j, j < m → 0 < (tth l j).size ∧ (tth l j).size ≤ 64))
    case atStart => exact ⟨0, rfl, rfl, rfl, Lib.hid (fun j hj => by omega)⟩
    case round =>
      obtain ⟨m, hm, rfl, rfl, HI⟩ := hrel
      by_cases hlt : m < len l
      · obtain ⟨b, off, rfl, e0⟩ := HC.out m hlt
        have hz := HZ.out m hlt
        have HLT := Lib.hid hlt
        obtain ⟨s, hs⟩ : ∃ s, tth l m = s := ⟨_, rfl⟩
        rw [hs] at e0 hz
        have HS := Lib.hid hs
        have b0 : (m : Int) < len l := by omega
        clear hs
        by_cases q1 : 0 < s.size ∧ s.size ≤ 64
        · have HG := Lib.hid q1
          have q2 : 0 < s.size := q1.1
          have q3 : (s.size : Int) ≤ 64 := by omega
          have HNN := HN.out
          clear q1
          go_wp2_with fail
          refine (hmust_yes _).mono ?_
          rintro e w1 ⟨rfl, rfl⟩
          clear q2 q3
          go_wp2
          go_roundg (gk - 1)
          case rel => exact ⟨m + 1, by omega, by go_num, rfl, Lib.hid (fun j hj => by
            by_cases e : j = m
            · subst e; rw [HS.out]; exact HG.out
            · exact HI.out j (by omega))⟩
          case measure => omega
        · have HNO : Hid (bodsOk l = false) := Lib.hid (bods_no HLT.out (by rw [HS.out]; exact q1))
          by_cases q2 : 0 < s.size
          · have q3 : ¬ (s.size : Int) ≤ 64 := by omega
            clear q1
            go_wp2_with fail
            refine (hmust_no _).mono ?_
            rintro e w1 ⟨rfl, rfl⟩
            go_wp2
            exact ⟨rfl, .inr ⟨HNO.out, rfl⟩, Below.refl _ _⟩
          · clear q1
            go_wp2_with fail
            refine (hmust_no _).mono ?_
            rintro e w1 ⟨rfl, rfl⟩
            go_wp2
            exact ⟨rfl, .inr ⟨HNO.out, rfl⟩, Below.refl _ _⟩
      · have b0 : ¬ (m : Int) < len l := by omega
        have HYE : Hid (bodsOk l = true) := Lib.hid (bods_yes H64.out (fun j hj => HI.out j (by omega)))
        go_wp2_with fail
        refine (hrootT_any l a cap _ HC.out HN.out (fun i hi => Nat.le_trans (HZ.out i hi) (by decide))).mono ?_
        rintro e w2 ⟨rfl, hb⟩
        have HB := Lib.hid hb
        clear hb
        go_wp2
        go_ret
        exact ⟨.inl ⟨HYE.out, rfl⟩, HB.out⟩
  · have c1 : ¬ (len l : Int) ≤ 64 := by omega
    have HNO : Hid (bodsOk l = false) := Lib.hid (by unfold bodsOk; rw [decide_eq_false h64]; rfl)
    go_enter Tryz.func82, Tryz.ntmps82
    go_wp2_with fail
    refine (hmust_no _).mono ?_
    rintro e w1 ⟨rfl, rfl⟩
    go_wp2
    exact ⟨rfl, .inr ⟨HNO.out, rfl⟩, Below.refl _ _⟩
set_option maxRecDepth 100000 in
theorem htxns_any (l : List ByteArray) (a : Option Addr) (cap : Nat) (w : World) (hn : len l ≤ 65536) (hc : Txts w a l) (hz : ∀ i, i < len l → (tth l i).size ≤ 1000000) :
    Calls Tryz.prog 24 #[.slice a (len l) cap] w (TxIs l w) := by
  have H1 := Lib.hid (fun w' (hb : Below (w.alloc (.cells #[.slice a (len l) cap] 36)).heap.size (w.alloc (.cells #[.slice a (len l) cap] 36)) w') => txns1_any l a cap w.heap.size w' hn ((hc.below (balloc (Below.refl _ _) _)).below hb) hz ((hb.block _ (by simp)).trans (heap_alloc_new _ _)))
  clear hc hz hn
  cases hl : bodsOk l with
  | true =>
    have HE : Hid (txS l = treeR l ∧ txE l = 0) := Lib.hid ⟨if_pos hl, if_pos hl⟩
    go_enter Tryz.func24, Tryz.ntmps24
    go_wp2_with fail
    refine (safely_yes 82 #[.pointer (some ⟨w.heap.size, 0, none⟩)] (treeR l) _ (fun _ _ => rfl) (fun w' hb => (H1.out w' hb).mono (fun e w2 hh => ⟨hh.1.elim (fun h => h.2) (fun h => absurd h.1 (by rw [hl]; decide)), hh.2⟩))).mono ?_
    rintro e w1 ⟨rfl, hb⟩
    have HB : Hid (Below w.heap.size w w1) := Lib.hid (bnext (balloc (Below.refl _ _) _) hb)
    clear hb hl
    go_wp2
    go_ret2
    exact ⟨by rw [HE.out.1, HE.out.2]; rfl, HB.out⟩
  | false =>
    have HE : Hid (txS l = ⟨#[]⟩ ∧ txE l = 2) := Lib.hid ⟨if_neg (by rw [hl]; decide), if_neg (by rw [hl]; decide)⟩
    go_enter Tryz.func24, Tryz.ntmps24
    go_wp2_with fail
    refine (safely_no 82 #[.pointer (some ⟨w.heap.size, 0, none⟩)] _ (fun _ _ => rfl) (fun w' hb => (H1.out w' hb).mono (fun e w2 hh => ⟨hh.1.elim (fun h => absurd h.1 (by rw [hl]; decide)) (fun h => h.2), hh.2⟩))).mono ?_
    rintro e w1 ⟨rfl, hb⟩
    have HB : Hid (Below w.heap.size w w1) := Lib.hid (bnext (balloc (Below.refl _ _) _) hb)
    clear hb hl
    go_wp2
    go_ret2
    exact ⟨by rw [HE.out.1, HE.out.2]; rfl, HB.out⟩
end Go.Proofs.YtpobhbdomldecaaGreatDoor
namespace Go.Proofs.YtpobhbdomldecaaGreatDoor
open Go.RowKit
set_option linter.unusedSimpArgs false
set_option linter.unusedVariables false
theorem turnedZ_in {k d : Nat} (hd : d ≤ 16) (hk : k < 2 ^ d) : turnedZ (k : Nat) (d : Nat) = ((revOf k d : Nat) : Int) := by
  unfold turnedZ
  rw [if_pos ⟨by omega, by omega, by rw [Int.toNat_natCast, pow_cast]; exact_mod_cast hk⟩]
  rfl
end Go.Proofs.YtpobhbdomldecaaGreatDoor
namespace Go.Proofs.YtpobhbdomldecaaGreatDoor
open Go.RowKit
set_option linter.unusedSimpArgs false
set_option linter.unusedVariables false
theorem txts_news {w : World} {ad : Addr} {l : List ByteArray} (h : Txts w (some ad) l) : ∀ j u, (l.map Value.string)[j]? = some u → w.cell? (ad.add j) = some u := by
  intro j u hu
  have hj : j < l.length := by have := (List.getElem?_eq_some_iff.1 hu).1; simpa using this
  rw [List.getElem?_map, List.getElem?_eq_getElem hj] at hu
  cases hu
  obtain ⟨b, off, e, hc⟩ := h j hj
  cases e
  rw [tth_eq l j hj] at hc
  by_cases hj0 : j = 0
  · subst hj0; simpa [Addr.add] using hc
  · simpa [Addr.add, hj0] using hc
theorem one_txts (l : List ByteArray) : ∀ u ∈ l.map Value.string, u.oneCell' = true := by
  intro u hu
  obtain ⟨x, _, rfl⟩ := List.mem_map.1 hu
  rfl
theorem len_appT {α : Type} (a b : List α) : len (a ++ b) = len a + len b := by rw [len_eq, List.length_append]; rfl
theorem wpList_append_txts {w : World} {ops : Array Oper} {rest : List Oper} {o : Oper} {a : Act} {Q : Exit → Act → World → Prop} (hgd : o.guard = none) (s x : Operand)
    (ho : o.op = .call { callee := .builtin .append, args := #[s, x], argTypes := #[36, 36] })
    (base : Nat) (v : Value) (xs l : List ByteArray) (ad : Option Addr) (c : Nat) (hs : a.eval s = v) (hown : w.ownsRow base 9 1 v (len xs) (xs.map Value.string))
    (hx : a.eval x = .slice ad (len l) c) (hl : Txts w ad l) (hc : ad = none → c = 0) (hlen : len xs + len l ≤ 100000) (hbase : base ≤ w.heap.size)
    (h : ∀ v' w', w'.ownsRow base 9 1 v' (len (xs ++ l)) ((xs ++ l).map Value.string) → w.grownBy w' v.ownBlock → wpList Tryz.prog ops Q rest (a.put o.dst v') w') : wpList Tryz.prog ops Q (o :: rest) a w := by
  obtain ⟨i0, hi, hz0, hz1, hz2⟩ := info_parts info_str
  cases ad with
  | none =>
    obtain rfl : l = [] := by
      cases l with
      | nil => rfl
      | cons y l => obtain ⟨b, off, e, _⟩ := hl 0 (by simp [len]); cases e
    rw [hc rfl] at hx
    refine wpList_append_own_none hgd s x 36 ho base 9 i0 1 Tryz.underlying36 hi v _ _ hs hown hx ?_
    exact h v w (by rw [List.append_nil]; exact hown) ⟨rfl, rfl, rfl, Nat.le_refl _, fun _ _ _ => rfl⟩
  | some ad =>
    refine wpList_append_own _ hgd s x 36 ho base 9 i0 (.string ⟨#[]⟩) 1 16 Tryz.underlying36 hi hz0 hz1 hz2 rfl (by decide) v _ _ hs hown ad (len l) c (l.map Value.string) hx (by simp [len]) (txts_news hl) (one_txts l) (by unfold maxLen; omega) (by omega) hbase ?_
    intro v' w' h1 h2 _
    refine h v' w' ?_ h2
    rw [len_appT, List.map_append]; exact h1
def Apart (u v : Value) : Prop := ∀ k, u.ownBlock = some k → v.ownBlock ≠ some k
theorem Apart.symm {u v : Value} (h : Apart u v) : Apart v u := fun k h1 h2 => h k h2 h1
theorem Apart.keep {w w1 : World} {u v : Value} {base e size n : Nat} {xs : List Value} (h : Apart u v) (ho : w.ownsRow base e size u n xs) (hg : w.grownBy w1 v.ownBlock) : w1.ownsRow base e size u n xs :=
  ho.kept hg (by
    cases hp : Value.ownBlock u with
    | none => exact .inl rfl
    | some k => exact .inr (fun e => h k hp e.symm))
end Go.Proofs.YtpobhbdomldecaaGreatDoor
namespace Go.Proofs.YtpobhbdomldecaaGreatDoor
open Go.RowKit
set_option linter.unusedSimpArgs false
set_option linter.unusedVariables false
def Ref9At (els : List ByteArray) (b : Nat) (w : World) : Prop := ∃ a c, w.heap[b]? = some (.cells #[.slice a (len els) c] 157 (0, 0)) ∧ Txts w a els
theorem Ref9At.below {els : List ByteArray} {b : Nat} {w w' : World} (h : Ref9At els b w) (hb : Below w.heap.size w w') : Ref9At els b w' := by
  obtain ⟨a, c, h1, h2⟩ := h
  exact ⟨a, c, (hb.block _ (lt_of_block h1)).trans h1, h2.below hb⟩
def Build9Is (els : List ByteArray) (w : World) (e : Ending) (w' : World) : Prop := ∃ b, e = .returned (.tuple #[.pointer (some ⟨b, 0, none⟩), .int .i64 0]) ∧ Ref9At els b w' ∧ Below w.heap.size w w'
set_option maxRecDepth 100000 in
set_option maxHeartbeats 4000000 in
theorem rbuild9_any (els : List ByteArray) (a : Option Addr) (c : Nat) (w : World) (ht : Txts w a els) (hn : len els ≤ 65536) (hc : a = none → c = 0) :
    Calls Tryz.prog 72 #[.slice a (len els) c] w (Build9Is els w) := by
  have HT := Lib.hid ht
  have HN := Lib.hid hn
  have HC := Lib.hid hc
  have b0 : ¬ (65536 : Int) < (len els : Int) := by omega
  clear ht hn hc
  have E0 : Hid ((w.alloc (.cells #[.slice none 0 0] 157)).ownsRow (w.heap.size + 1) 9 1 (.slice none 0 0) (len ([] : List ByteArray)) (([] : List ByteArray).map Value.string)) := Lib.hid (World.ownsRow_nil _ _ _ _)
  have hb0 : w.heap.size < (w.alloc (.cells #[.slice none 0 0] 157)).heap.size := by simp
  go_enter Tryz.func72, Tryz.ntmps72
  go_wp2_with (at_builtin; refine wpList_append_txts rfl _ _ rfl (w.heap.size + 1) _ [] els a c rfl E0.out rfl (HT.out.below (balloc (Below.refl _ _) _)) HC.out (show 0 + len els ≤ 100000 by have := HN.out; omega) (by simp) ?_)
  intro v w2 hown hgrow
  have h2 : w2.heap[w.heap.size]? = some (.cells #[.slice none 0 0] 157 (0, 0)) := by rw [hgrow.block _ hb0 (by simp [Value.ownBlock])]; exact heap_alloc_new _ _
  have HB2 : Hid (Below w.heap.size w w2) := Lib.hid (grownBy_below (balloc (Below.refl _ _) _) hgrow (fun k hk => by simp [Value.ownBlock] at hk))
  have HH2 := Lib.hid h2
  have c0 : w2.cell? ⟨w.heap.size, 0, none⟩ = some (.slice none 0 0) := block_cell h2 0
  have f0 : w2.frozen? ⟨w.heap.size, 0, none⟩ = false := block_free h2 0
  have HO2 : Hid (w2.ownsRow (w.heap.size + 1) 9 1 v (len els) (els.map Value.string)) := Lib.hid hown
  obtain ⟨a2, c2, rfl, ht2⟩ := own_txts HO2.out
  have HT2 := Lib.hid ht2
  clear hown hgrow h2 hb0 E0 ht2
  go_wp2
  go_ret2
  refine ⟨_, rfl, ⟨a2, c2, block_setCell HH2.out _, fun i hi => ?_⟩, bset HB2.out (Nat.le_refl _) _⟩
  obtain ⟨b9, o9, e9, h9⟩ := HT2.out i hi
  subst e9
  have hg := (HO2.out.lt b9 rfl).1
  exact ⟨b9, o9, rfl, by rw [World.cell?_of_block (w := w2) (Below.heap_setCell _ _ _ _ (show b9 ≠ w.heap.size by omega))]; exact h9⟩
set_option maxRecDepth 100000 in
theorem rdepth9_any (els : List ByteArray) (b : Nat) (w : World) (h : Ref9At els b w) (hn : len els ≤ 65536) : Calls Tryz.prog 130 #[.pointer (some ⟨b, 0, none⟩)] w fun e w' => e = .returned (.int .i64 (depN els : Nat)) ∧ w = w' := by
  obtain ⟨a, c, h1, h2⟩ := h
  have c0 : w.cell? ⟨b, 0, none⟩ = some (.slice a (len els) c) := block_cell h1 0
  have HD := Lib.hid (refDepth_any (len els : Nat) w (by omega) (by omega))
  rw [depthZ_len hn] at HD
  clear h1 h2 hn
  go_enter Tryz.func130, Tryz.ntmps130
  go_wp2_with fail
  refine HD.out.mono ?_
  rintro e w1 ⟨rfl, rfl⟩
  go_wp2
  go_ret
  exact ⟨rfl, rfl⟩
set_option maxRecDepth 100000 in
set_option maxHeartbeats 4000000 in
theorem rdigest9_zero (els : List ByteArray) (b k : Nat) (w : World) (hn : len els ≤ 65536) (hz : ∀ i, i < len els → (tth els i).size ≤ 140737488355200) (hk : k < 2 ^ depN els) (ht : Ref9At els b w) :
    Calls Tryz.prog 129 #[.pointer (some ⟨b, 0, none⟩), .int .i64 0, .int .u64 (k : Nat)] w fun e w' => e = .returned (.string (plD els (depN els) 0 k)) ∧ Below w.heap.size w w' := by
  have hd : depN els ≤ 16 := depN_le hn
  have hk2 : k < 65536 := Nat.lt_of_lt_of_le hk (Nat.pow_le_pow_right (by decide) hd)
  have HDP := Lib.hid (rdepth9_any els b w ht hn)
  obtain ⟨d, hdd⟩ : ∃ d, depN els = d := ⟨_, rfl⟩
  rw [hdd] at HDP hd hk ⊢
  have HE := Lib.hid (refElement_any (k : Nat) (d : Nat) w (by omega) (by omega) (by omega) (by omega))
  rw [turnedZ_in hd hk] at HE
  obtain ⟨r, hr⟩ : ∃ r, revOf k d = r := ⟨_, rfl⟩
  rw [hr] at HE
  obtain ⟨a, c, h1, h2⟩ := ht
  have c0 : w.cell? ⟨b, 0, none⟩ = some (.slice a (len els) c) := block_cell h1 0
  by_cases hlt : r < len els
  · have HP : Hid (plD els d 0 k = hashP leafT [tth els r]) := Lib.hid (by
      show (if revOf k d < len els then hashP leafT [tth els (revOf k d)] else hashP noneT []) = _
      rw [hr, if_pos hlt])
    have b0 : (r : Int) < len els := by omega
    have b1 : ¬ (len els : Int) ≤ (r : Int) := by omega
    obtain ⟨bb, off, rfl, hcell⟩ := h2 r hlt
    have HZ := Lib.hid (hz r hlt)
    obtain ⟨s, hs⟩ : ∃ s, tth els r = s := ⟨_, rfl⟩
    rw [hs] at HP HZ hcell
    have w8 : IntKind.u64.wrap ((len els : Nat) : Int) = ((len els : Nat) : Int) := IntWalk.u64_in _ (by omega)
    have wr1 : IntKind.i64.wrap ((r : Nat) : Int) = ((r : Nat) : Int) := IntWalk.i64_in _ (by omega)
    clear hd hn hz hk hr hs hk2 h1 h2 hdd
    go_enter Tryz.func129, Tryz.ntmps129
    go_wp2_with fail
    refine HDP.out.mono ?_
    rintro e w1 ⟨rfl, rfl⟩
    go_wp2_with fail
    refine HE.out.mono ?_
    rintro e w1 ⟨rfl, rfl⟩
    go_wp2_with fail
    refine (rhash1_any leafT s w (by decide) (by decide) HZ.out).mono ?_
    rintro e w2 ⟨rfl, hb2⟩
    have HB2 := Lib.hid hb2
    clear hb2
    go_wp2
    go_ret
    exact ⟨by rw [HP.out]; rfl, HB2.out⟩
  · have HP : Hid (plD els d 0 k = hashP noneT []) := Lib.hid (by
      show (if revOf k d < len els then hashP leafT [tth els (revOf k d)] else hashP noneT []) = _
      rw [hr, if_neg hlt])
    have b1 : (len els : Int) ≤ (r : Int) := by omega
    have w8 : IntKind.u64.wrap ((len els : Nat) : Int) = ((len els : Nat) : Int) := IntWalk.u64_in _ (by omega)
    clear hd hn hz hk hr hk2 h1 h2 hdd
    go_enter Tryz.func129, Tryz.ntmps129
    go_wp2_with fail
    refine HDP.out.mono ?_
    rintro e w1 ⟨rfl, rfl⟩
    go_wp2_with fail
    refine HE.out.mono ?_
    rintro e w1 ⟨rfl, rfl⟩
    go_wp2_with fail
    refine (rhash0_any noneT w (by decide) (by decide)).mono ?_
    rintro e w2 ⟨rfl, hb2⟩
    have HB2 := Lib.hid hb2
    clear hb2
    go_wp2
    go_ret
    exact ⟨by rw [HP.out]; rfl, HB2.out⟩
set_option maxRecDepth 100000 in
set_option maxHeartbeats 4000000 in
theorem rdigest9_any (els : List ByteArray) (b : Nat) (hn : len els ≤ 65536) (hz : ∀ i, i < len els → (tth els i).size ≤ 140737488355200) : ∀ (l k : Nat) (w : World), l ≤ depN els → k < 2 ^ (depN els - l) → Ref9At els b w →
    Calls Tryz.prog 129 #[.pointer (some ⟨b, 0, none⟩), .int .i64 (l : Nat), .int .u64 (k : Nat)] w fun e w' => e = .returned (.string (plD els (depN els) l k)) ∧ Below w.heap.size w w'
  | 0, k, w, hl, hk, ht => rdigest9_zero els b k w hn hz hk ht
  | l + 1, k, w, hl, hk, ht => by
    have hd : depN els ≤ 16 := depN_le hn
    have hp : 2 ^ (depN els - l) = 2 * 2 ^ (depN els - (l + 1)) := by rw [show depN els - l = depN els - (l + 1) + 1 by omega, Nat.pow_succ]; omega
    have hk2 : 2 ^ (depN els - l) ≤ 65536 := Nat.pow_le_pow_right (by decide) (show depN els - l ≤ 16 by omega)
    obtain ⟨k0, hk0⟩ : ∃ k0, 2 * k = k0 := ⟨_, rfl⟩
    obtain ⟨k1, hk1⟩ : ∃ k1, 2 * k + 1 = k1 := ⟨_, rfl⟩
    obtain ⟨m, hm⟩ : ∃ m, l + 1 = m := ⟨_, rfl⟩
    have f1 : IntKind.u64.wrap (2 * ((k : Nat) : Int)) = ((k0 : Nat) : Int) := by rw [IntWalk.u64_in _ (by omega)]; omega
    have f2 : IntKind.u64.wrap (((k0 : Nat) : Int) + 1) = ((k1 : Nat) : Int) := by rw [IntWalk.u64_in _ (by omega)]; omega
    have l1 : (0 : Int) < ((m : Nat) : Int) := by omega
    have l2 : IntKind.i64.wrap (((m : Nat) : Int) - 1) = ((l : Nat) : Int) := by rw [IntWalk.i64_in _ (by omega)]; omega
    have IH1 := Lib.hid (fun w9 h9 => rdigest9_any els b hn hz l (2 * k) w9 (by omega) (by omega) h9)
    have IH2 := Lib.hid (fun w9 h9 => rdigest9_any els b hn hz l (2 * k + 1) w9 (by omega) (by omega) h9)
    have HT := Lib.hid ht
    obtain ⟨d, hdd⟩ : ∃ d, depN els = d := ⟨_, rfl⟩
    rw [hdd] at IH1 IH2 ⊢
    obtain ⟨X, hX⟩ : ∃ X, plD els d l (2 * k) = X := ⟨_, rfl⟩
    obtain ⟨Y, hY⟩ : ∃ Y, plD els d l (2 * k + 1) = Y := ⟨_, rfl⟩
    have HP : Hid (plD els d (l + 1) k = hashP nodeT [X, Y]) := Lib.hid (by rw [← hX, ← hY]; rfl)
    have HXS : Hid (X.size ≤ 1000000) := Lib.hid (by rw [← hX, plD_size]; decide)
    have HYS : Hid (Y.size ≤ 1000000) := Lib.hid (by rw [← hY, plD_size]; decide)
    rw [hX, hk0] at IH1
    rw [hY, hk1] at IH2
    rw [hm] at HP ⊢
    clear hX hY ht hk hp hk2 hd hn hz hl hk0 hk1 hm hdd
    go_enter Tryz.func129, Tryz.ntmps129
    go_wp2_with fail
    refine (IH1.out w HT.out).mono ?_
    rintro e w1 ⟨rfl, hb1⟩
    have HB1 := Lib.hid hb1
    have HT1 := Lib.hid (HT.out.below hb1)
    clear hb1
    go_wp2_with fail
    refine (IH2.out w1 HT1.out).mono ?_
    rintro e w2 ⟨rfl, hb2⟩
    have HB2 : Hid (Below w.heap.size w w2) := Lib.hid (bnext HB1.out hb2)
    clear hb2
    go_wp2_with fail
    refine (rhash2_any nodeT X Y w2 (by decide) (by decide) HXS.out HYS.out).mono ?_
    rintro e w3 ⟨rfl, hb3⟩
    have HB3 : Hid (Below w.heap.size w w3) := Lib.hid (bnext HB2.out hb3)
    clear hb3
    go_wp2
    go_ret
    exact ⟨by rw [HP.out]; rfl, HB3.out⟩
set_option maxRecDepth 100000 in
theorem rroot9_any (els : List ByteArray) (b : Nat) (w : World) (hn : len els ≤ 65536) (hz : ∀ i, i < len els → (tth els i).size ≤ 140737488355200) (ht : Ref9At els b w) :
    Calls Tryz.prog 73 #[.pointer (some ⟨b, 0, none⟩)] w fun e w' => e = .returned (.string (treeR els)) ∧ Below w.heap.size w w' := by
  have HDP := Lib.hid (rdepth9_any els b w ht hn)
  have HDG := Lib.hid (rdigest9_any els b hn hz (depN els) 0 w (Nat.le_refl _) (Nat.pow_pos (by decide)) ht)
  obtain ⟨X, hX⟩ : ∃ X, treeR els = X := ⟨_, rfl⟩
  rw [show plD els (depN els) (depN els) 0 = treeR els from rfl, hX] at HDG
  rw [hX]
  obtain ⟨d, hdd⟩ : ∃ d, depN els = d := ⟨_, rfl⟩
  rw [hdd] at HDP HDG
  clear ht hn hz hX hdd
  go_enter Tryz.func73, Tryz.ntmps73
  go_wp2_with fail
  refine HDP.out.mono ?_
  rintro e w1 ⟨rfl, rfl⟩
  go_wp2_with fail
  refine HDG.out.mono ?_
  rintro e w1 ⟨rfl, hb⟩
  have HB := Lib.hid hb
  clear hb
  go_wp2
  go_ret
  exact ⟨rfl, HB.out⟩
end Go.Proofs.YtpobhbdomldecaaGreatDoor
namespace Go.Proofs.YtpobhbdomldecaaGreatDoor
open Go.RowKit
set_option linter.unusedSimpArgs false
set_option linter.unusedVariables false
theorem bod_no {l : List ByteArray} {m : Nat} (hm : m < len l) (h : ¬ (0 < (tth l m).size ∧ (tth l m).size ≤ 64)) : bodsOk l = false := by
  unfold bodsOk
  have : (l.all fun s => decide (0 < s.size) && decide (s.size ≤ 64)) = false := by
    rw [List.all_eq_false]
    refine ⟨tth l m, by rw [tth_eq l m hm]; exact List.getElem_mem hm, ?_⟩
    simp only [Bool.and_eq_true, decide_eq_true_eq]
    exact h
  rw [this]; simp
theorem bod_yes {l : List ByteArray} (hn : len l ≤ 64) (h : ∀ m, m < len l → 0 < (tth l m).size ∧ (tth l m).size ≤ 64) : bodsOk l = true := by
  unfold bodsOk
  rw [decide_eq_true hn, Bool.true_and, List.all_eq_true]
  intro x hx
  obtain ⟨i, hi, rfl⟩ := List.getElem_of_mem hx
  have := h i hi
  rw [tth_eq l i hi] at this
  simp [this.1, this.2]
set_option maxRecDepth 100000 in
set_option maxHeartbeats 4000000 in
theorem rtxns_any (l : List ByteArray) (a : Option Addr) (cap : Nat) (w : World) (hn : len l ≤ 65536) (hc : Txts w a l) (hz : ∀ i, i < len l → (tth l i).size ≤ 1000000) (h0 : a = none → cap = 0) :
    Calls Tryz.prog 25 #[.slice a (len l) cap] w (TxIs l w) := by
  have HC := Lib.hid hc
  have HN := Lib.hid hn
  have HZ := Lib.hid hz
  have H0 := Lib.hid h0
  clear hc hz h0 hn
  by_cases h64 : len l ≤ 64
  · have c1 : ¬ (64 : Int) < len l := by omega
    have H64 := Lib.hid h64
    go_enter Tryz.func25, Tryz.ntmps25
    go_wp2
    go_loopg [4] (len l) (fun gg i wr => ∃ m : Nat, gg + m = len l ∧ i = .int .i64 (m : Nat) ∧ wr = w ∧ Hid (∀ j, j < m → 0 < (tth l j).size ∧ (tth l j).size ≤ 64))
    case atStart => exact ⟨0, rfl, rfl, rfl, Lib.hid (fun j hj => by omega)⟩
    case round =>
      obtain ⟨m, hm, rfl, rfl, HI⟩ := hrel
      by_cases hlt : m < len l
      · obtain ⟨b, off, rfl, e0⟩ := HC.out m hlt
        have hz := HZ.out m hlt
        have HLT := Lib.hid hlt
        obtain ⟨s, hs⟩ : ∃ s, tth l m = s := ⟨_, rfl⟩
        rw [hs] at e0 hz
        have HS := Lib.hid hs
        have b0 : (m : Int) < len l := by omega
        clear hs
        by_cases q1 : s.size < 1
        · have HNO : Hid (bodsOk l = false) := Lib.hid (bod_no HLT.out (by rw [HS.out]; omega))
          have HE : Hid (txS l = ⟨#[]⟩ ∧ txE l = 2) := Lib.hid ⟨if_neg (by rw [HNO.out]; decide), if_neg (by rw [HNO.out]; decide)⟩
          have q2 : (s.size : Int) < 1 := by omega
          clear q1
          go_wp2
          go_ret2
          exact ⟨by rw [HE.out.1, HE.out.2]; rfl, Below.refl _ _⟩
        · have q2 : ¬ (s.size : Int) < 1 := by omega
          by_cases q3 : s.size ≤ 64
          · have q4 : ¬ (64 : Int) < s.size := by omega
            have HG : Hid (0 < s.size ∧ s.size ≤ 64) := Lib.hid (by omega)
            clear q1 q3
            go_wp2
            go_roundg (gk - 1)
            case rel => exact ⟨m + 1, by omega, by go_num, rfl, Lib.hid (fun j hj => by
              by_cases e : j = m
              · subst e; rw [HS.out]; exact HG.out
              · exact HI.out j (by omega))⟩
            case measure => omega
          · have q4 : (64 : Int) < s.size := by omega
            have HNO : Hid (bodsOk l = false) := Lib.hid (bod_no HLT.out (by rw [HS.out]; omega))
            have HE : Hid (txS l = ⟨#[]⟩ ∧ txE l = 2) := Lib.hid ⟨if_neg (by rw [HNO.out]; decide), if_neg (by rw [HNO.out]; decide)⟩
            clear q1 q3
            go_wp2
            go_ret2
            exact ⟨by rw [HE.out.1, HE.out.2]; rfl, Below.refl _ _⟩
      · have b0 : ¬ (m : Int) < len l := by omega
        have HYE : Hid (bodsOk l = true) := Lib.hid (bod_yes H64.out (fun j hj => HI.out j (by omega)))
        have HE : Hid (txS l = treeR l ∧ txE l = 0) := Lib.hid ⟨if_pos HYE.out, if_pos HYE.out⟩
        go_wp2_with fail
        refine (rbuild9_any l a cap _ HC.out HN.out H0.out).mono ?_
        rintro e w2 ⟨b, rfl, ht, hb⟩
        have HT := Lib.hid ht
        have HB := Lib.hid hb
        clear hb ht
        go_wp2_with fail
        refine (rroot9_any l b w2 HN.out (fun i hi => Nat.le_trans (HZ.out i hi) (by decide)) HT.out).mono ?_
        rintro e w3 ⟨rfl, hb⟩
        have HB := Lib.hid (bnext HB.out hb)
        clear hb
        go_wp2
        go_ret2
        exact ⟨by rw [HE.out.1, HE.out.2]; rfl, HB.out⟩
  · have c1 : (64 : Int) < len l := by omega
    have HNO : Hid (bodsOk l = false) := Lib.hid (by unfold bodsOk; rw [decide_eq_false h64]; rfl)
    have HE : Hid (txS l = ⟨#[]⟩ ∧ txE l = 2) := Lib.hid ⟨if_neg (by rw [HNO.out]; decide), if_neg (by rw [HNO.out]; decide)⟩
    go_enter Tryz.func25, Tryz.ntmps25
    go_wp2
    go_ret2
    exact ⟨by rw [HE.out.1, HE.out.2]; rfl, Below.refl _ _⟩
end Go.Proofs.YtpobhbdomldecaaGreatDoor
namespace Go.Proofs.YtpobhbdomldecaaGreatDoor
open Go.RowKit
set_option linter.unusedSimpArgs false
set_option linter.unusedVariables false
def zerN (k : Nat) : ByteArray := ⟨(List.replicate k (0 : UInt8)).toArray⟩
theorem zerN_size (k : Nat) : (zerN k).size = k := by
  show (List.replicate k (0 : UInt8)).toArray.size = k
  simp
def digT (s : ByteArray) : ByteArray := s.extract 0 (min s.size 32) ++ zerN (32 - min s.size 32)
theorem digT_nil : digT ⟨#[]⟩ = zerT := by decide
theorem info_u8h : (Tryz.prog.info? 5).map (fun i => (i.zero, i.size, i.bytes)) = some (some (.int .u8 0), 1, 1) := by kernel_rfl
set_option maxRecDepth 100000 in
theorem make_zb (k : Nat) (kI : Int) (hkI : kI = (k : Int)) (hk : k ≤ 100) (W : World) : ∃ W', (Instr.makeSlice 41 (.int .i64 kI) (.int .i64 kI)).run Tryz.prog W = .ok (.slice (some ⟨W.heap.size, 0, none⟩) k k) W' ∧ Below W.heap.size W W' ∧ (convert 41 9 (.slice (some ⟨W.heap.size, 0, none⟩) k k)).run Tryz.prog W' = .ok (.string (zerN k)) W' := by
  subst hkI
  obtain ⟨i0, hi, hz0, hz1, hz2⟩ := info_parts info_u8h
  have hr := run_make (P := Tryz.prog) W 41 5 i0 (.int .u8 0) Tryz.underlying41 hi hz0 .i64 .i64 k k (by omega) (Int.le_refl _) (by rw [hz2]; omega) (by omega)
  refine ⟨_, hr, balloc (Below.refl _ _) _, ?_⟩
  refine conv_block _ W.heap.size 0 k k (List.replicate k 0) (by simp) (fun i hi2 => ?_)
  rw [Nat.zero_add, block_cell (heap_alloc_new _ _)]
  have e : (List.replicate k (0 : UInt8)).getD i 0 = 0 := by
    rw [List.getD_eq_getElem?_getD, List.getElem?_replicate]
    split <;> rfl
  rw [e, hz1]
  have h2 : (madeCells (Value.int .u8 0).cells (k * 1)).toList[i]? = some (.int .u8 0) := by
    show (madeCells #[.int .u8 0] (k * 1)).toList[i]? = _
    rw [toList_madeCells_one, List.getElem?_replicate]; simp; omega
  rw [Array.getElem?_toList] at h2
  exact h2
set_option maxRecDepth 100000 in
theorem dig23_any (s : ByteArray) (w : World) (hs : s.size ≤ 1000000) : Calls Tryz.prog 26 #[.string s] w fun e w' => e = .returned (.string (digT s)) ∧ Below w.heap.size w w' := by
  obtain ⟨q, hq⟩ : ∃ q : Nat, min s.size 32 = q := ⟨_, rfl⟩
  obtain ⟨t, ht⟩ : ∃ t, s.extract 0 q = t := ⟨_, rfl⟩
  have hts : t.size = q := by rw [← ht, ByteArray.size_extract]; omega
  have HE : Hid (digT s = t ++ zerN (32 - q)) := Lib.hid (by unfold digT; rw [hq, ht])
  obtain ⟨k, hk⟩ : ∃ k, 32 - q = k := ⟨_, rfl⟩
  rw [hk] at HE
  have hk32 : k ≤ 32 := by omega
  obtain ⟨W', mk, hb, cv⟩ := make_zb k ((k : Nat) : Int) rfl (by omega) w
  have HB := Lib.hid hb
  have mn : min ((s.size : Nat) : Int) 32 = ((q : Nat) : Int) := by omega
  have qs : q ≤ s.size := by omega
  have qs2 : ¬ s.size < q := by omega
  have sb : IntKind.i64.wrap (32 - ((q : Nat) : Int)) = ((k : Nat) : Int) := by rw [IntWalk.i64_in _ (by omega)]; omega
  have hzs : (zerN k).size = k := zerN_size k
  clear hq hk hb
  go_enter Tryz.func26, Tryz.ntmps26
  go_wp2
  go_ret
  exact ⟨by rw [HE.out]; rfl, HB.out⟩
set_option maxRecDepth 100000 in
theorem at23_any (n : Int) (p : ByteArray) (w : World) : Calls Tryz.prog 27 #[.int .u64 n, .string p] w fun e w' => e = .returned (hAt n p).val ∧ Below w.heap.size w w' := by
  go_enter Tryz.func27, Tryz.ntmps27
  go_wp2_with fail
  refine (dig23_any ⟨#[]⟩ _ (by decide)).mono ?_
  rintro e w1 ⟨rfl, hb⟩
  rw [digT_nil]
  have H0 := Lib.hid ((hb.block _ (by simp)).trans (heap_alloc_new w _))
  have HB : Hid (Below w.heap.size w w1) := Lib.hid (bnext (balloc (Below.refl _ _) _) hb)
  have c : ∀ o, w1.cell? ⟨w.heap.size, o, none⟩ = _ := block_cell H0.out
  have f : ∀ o, w1.frozen? ⟨w.heap.size, o, none⟩ = false := block_free H0.out
  obtain ⟨z, hz⟩ : ∃ z, zerT = z := ⟨_, rfl⟩
  have HZ := Lib.hid hz
  rw [hz]
  clear hb hz
  go_wp2
  obtain ⟨X, hX⟩ : ∃ X, (((w1.setCell ⟨w.heap.size, 0, none⟩ (.int .u64 n)).setCell ⟨w.heap.size, 1, none⟩ (.string p)).setCell ⟨w.heap.size, 2, none⟩ (.string z)).setCell ⟨w.heap.size, 3, none⟩ (.string z) = X := ⟨_, rfl⟩
  have HX : Hid (X.heap[w.heap.size]? = some (.cells #[.int .u64 n, .string p, .string z, .string z] 33 (0, 0))) := Lib.hid (by rw [← hX]; exact block_setCell (block_setCell (block_setCell (block_setCell H0.out _) _) _) _)
  have HXB : Hid (Below w.heap.size w X) := Lib.hid (by rw [← hX]; exact bset (bset (bset (bset HB.out (Nat.le_refl _) _) (Nat.le_refl _) _) (Nat.le_refl _) _) (Nat.le_refl _) _)
  rw [hX]
  clear hX c f
  have d : ∀ o, X.cell? ⟨w.heap.size, o, none⟩ = _ := block_cell HX.out
  refine bodyPost_ret (v := .agg #[.int .u64 n, .string p, .string z, .string z]) (by simp [results, Tryz.results27, go_sem, d]) rfl ?_
  exact ⟨by rw [← HZ.out]; rfl, HXB.out⟩
set_option maxRecDepth 100000 in
theorem refused_any (B : Nat) (l : List Hdr) (a : Option Addr) (cap : Nat) (w : World) (ht : PT B w) (hc : Hdrs w a l) (ho : ∀ i, (hnth l i).Ok) (hn : len l ≤ 100000) :
    Calls Tryz.prog 28 #[.slice a (len l) cap] w fun e w' => e = .returned (.bool (!elOk l)) ∧ Below w.heap.size w w' := by
  have HT := Lib.hid ht
  have HC := Lib.hid hc
  have HO := Lib.hid ho
  have HN := Lib.hid hn
  have HR := Lib.hid (hroot_any B l a cap w ht hc ho hn)
  clear ht hc ho hn
  cases hel : elOk l with
  | true =>
    have HE : Hid (rtE l = 0) := Lib.hid (if_pos hel)
    clear hel
    go_enter Tryz.func28, Tryz.ntmps28
    go_wp2_with fail
    refine HR.out.mono ?_
    rintro e w1 ⟨rfl, hb⟩
    rw [HE.out]
    have HB := Lib.hid hb
    clear hb
    go_wp2
    go_ret
    exact ⟨rfl, HB.out⟩
  | false =>
    have HE : Hid (rtE l = 2 ∧ rtS l = ⟨#[]⟩) := Lib.hid ⟨if_neg (by rw [hel]; decide), if_neg (by rw [hel]; decide)⟩
    have HL : Hid (linkedH l = false) := Lib.hid (by unfold linkedH; rw [hel]; rfl)
    clear hel
    go_enter Tryz.func28, Tryz.ntmps28
    go_wp2_with fail
    refine HR.out.mono ?_
    rintro e w1 ⟨rfl, hb⟩
    rw [HE.out.1, HE.out.2]
    have HB := Lib.hid hb
    clear hb
    go_wp2_with fail
    refine (hlinked_any B l a cap w1 (HT.out.below HB.out) (HC.out.below HB.out) HO.out HN.out).mono ?_
    rintro e w2 ⟨rfl, hb⟩
    rw [HL.out]
    have HB2 := Lib.hid (bnext HB.out hb)
    clear hb
    go_wp2
    go_ret
    exact ⟨rfl, HB2.out⟩
end Go.Proofs.YtpobhbdomldecaaGreatDoor
namespace Go.Proofs.YtpobhbdomldecaaGreatDoor
open Go.RowKit
set_option linter.unusedSimpArgs false
set_option linter.unusedVariables false
theorem own_setk {base n c g m k : Nat} {w : World} {e : TypeId} {xs : List Value} {u : Value} (h : w.ownsRow base e k (.slice (some ⟨g, 0, none⟩) n c) n xs) : (w.setCell ⟨g, m, none⟩ u).ownsRow base e k (.slice (some ⟨g, 0, none⟩) n c) n (xs.set m u) := by
  refine ⟨by rw [List.length_set]; exact h.1, ?_⟩
  rcases h.2 with ⟨hz, _⟩ | ⟨g9, cap, cur, hv, hg, hh, h1, h2, h3, h4⟩
  · cases hz
  · cases hv
    refine Or.inr ⟨g, c, cur.setIfInBounds m u, rfl, hg, block_setCell hh u, h1, h2, by rw [Array.size_setIfInBounds]; exact h3, ?_⟩
    rw [Array.toList_setIfInBounds, ← h4, List.take_set]
theorem flat_set {α β : Type} (f : α → List β) (k : Nat) (hf : ∀ x, (f x).length = k) {u : β} {x' : α} : ∀ (l : List α) (i j : Nat) (hi : i < l.length), j < k → f x' = (f l[i]).set j u → (l.flatMap f).set (i * k + j) u = (l.set i x').flatMap f
  | x :: l, 0, j, _, hj, hx => by
    simp only [List.flatMap_cons, Nat.zero_mul, Nat.zero_add, List.getElem_cons_zero, List.set_cons_zero] at hx ⊢
    rw [List.set_append_left _ _ (by rw [hf]; exact hj), hx]
  | x :: l, i + 1, j, hi, hj, hx => by
    simp only [List.flatMap_cons, List.getElem_cons_succ, List.set_cons_succ] at hx ⊢
    rw [List.set_append_right _ _ (by rw [hf, Nat.add_mul]; omega), hf, show (i + 1) * k + j - k = i * k + j by rw [Nat.add_mul]; omega]
    rw [flat_set f k hf l i j (by simpa using hi) hj hx]
def OwnH (base g c : Nat) (L : List Hdr) (w : World) : Prop := w.ownsRow base 33 4 (.slice (some ⟨g, 0, none⟩) (len L) c) (len L) (L.flatMap Hdr.cells)
theorem OwnH.below {base g c : Nat} {L : List Hdr} {w w' : World} (h : OwnH base g c L w) (hb : Below w.heap.size w w') : OwnH base g c L w' := own_below h hb
theorem OwnH.set {base g c : Nat} {L : List Hdr} {w : World} (h : OwnH base g c L w) {i j : Nat} {u : Value} {r' : Hdr} (hi : i < len L) (hj : j < 4) (hr : r'.cells = (hnth L i).cells.set j u) : OwnH base g c (L.set i r') (w.setCell ⟨g, i * 4 + j, none⟩ u) := by
  unfold OwnH
  have hl : len (L.set i r') = len L := by rw [len_eq, len_eq, List.length_set]
  rw [hl, ← flat_set Hdr.cells 4 Hdr.cells_len L i j hi hj (by rw [hr, hnth_eq L i hi])]
  exact own_setk h
theorem OwnH.lt {base g c : Nat} {L : List Hdr} {w : World} (h : OwnH base g c L w) : base ≤ g ∧ g < w.heap.size := h.1 |> fun _ => World.ownsRow.lt h g rfl
structure HCells (w : World) (g i : Nat) (r : Hdr) : Prop where
  c0 : w.cell? ⟨g, i * 4, none⟩ = some (.int .u64 r.rnd)
  c1 : w.cell? ⟨g, i * 4 + 1, none⟩ = some (.string r.prev)
  c2 : w.cell? ⟨g, i * 4 + 2, none⟩ = some (.string r.txns)
  c3 : w.cell? ⟨g, i * 4 + 3, none⟩ = some (.string r.seed)
  f : ∀ o, w.frozen? ⟨g, o, none⟩ = false
theorem OwnH.at {base g c : Nat} {L : List Hdr} {w : World} (h : OwnH base g c L w) {i : Nat} (hi : i < len L) : HCells w g i (hnth L i) := by
  obtain ⟨a, cap, e, hh, _⟩ := Hdrs.own h
  cases e
  obtain ⟨b, off, e, ⟨h0, h1, h2, h3⟩⟩ := hh i hi
  cases e
  rw [Nat.zero_add] at h0 h1 h2 h3
  rcases h.2 with ⟨hz, _⟩ | ⟨g9, cap, cur, hv, hg, hb, _⟩
  · cases hz
  · cases hv
    exact ⟨h0, h1, h2, h3, block_free hb⟩
end Go.Proofs.YtpobhbdomldecaaGreatDoor
namespace Go.Proofs.YtpobhbdomldecaaGreatDoor
open Go.RowKit
set_option linter.unusedSimpArgs false
set_option linter.unusedVariables false
def abT : List ByteArray := [⟨#[97]⟩, ⟨#[98]⟩]
theorem abT_txts {w : World} {b : Nat} {t : TypeId} {fr : Nat × Nat} (h : w.heap[b]? = some (.cells #[.string ⟨#[97]⟩, .string ⟨#[98]⟩] t fr)) : Txts w (some ⟨b, 0, none⟩) abT := fun i hi => ⟨b, 0, rfl, by
  have hi : i < 2 := hi
  rw [block_cell h, Nat.zero_add]
  have : i = 0 ∨ i = 1 := by omega
  rcases this with rfl | rfl <;> rfl⟩
theorem abT_size : ∀ i, i < len abT → (tth abT i).size ≤ 1 := fun i hi => by
  have hi : i < 2 := hi
  have : i = 0 ∨ i = 1 := by omega
  rcases this with rfl | rfl <;> decide
theorem one_txts1 {w : World} {b : Nat} {t : TypeId} {fr : Nat × Nat} {s : ByteArray} (h : w.heap[b]? = some (.cells #[.string s] t fr)) : Txts w (some ⟨b, 0, none⟩) [s] := fun i hi => ⟨b, 0, rfl, by
  have hi : i < 1 := hi
  obtain rfl : i = 0 := by omega
  rw [block_cell h]; rfl⟩
theorem bods_nil : bodsOk [] = true := by decide
theorem bods_ab : bodsOk abT = true := by decide
theorem bods_65 : bodsOk [zerN 65] = false := by decide
theorem tree_nil : treeR [] = hashP noneT [] := by
  unfold treeR
  have : depN [] = 0 := by decide
  rw [this]
  rfl
theorem step_h (n : Int) (p : ByteArray) (m : Int) (q : ByteArray) : stepH (hAt n p) (hAt m q) = (decide (n < m) && decide (m - n = 1)) := rfl
theorem follow2 (R : Hdr → Hdr → Bool) (x y : Hdr) : followH R [x, y] = R x y := by
  cases h : R x y with
  | true => exact followH_yes (fun i hi h0 => by
      have hi : i < 2 := hi
      obtain rfl : i = 1 := by omega
      exact h)
  | false => exact followH_no (i := 1) (show 1 < 2 by decide) (by decide) h
theorem follow1 (R : Hdr → Hdr → Bool) (x : Hdr) : followH R [x] = true := followH_yes (fun i hi h0 => by
  have hi : i < 1 := hi
  omega)
theorem elOk2 (n m : Int) (p q : ByteArray) (hp : p.size = 32) (hq : q.size = 32) : elOk [hAt n p, hAt m q] = stepH (hAt n p) (hAt m q) := by
  unfold elOk laysH
  rw [follow2]
  simp [hAt_ok hp, hAt_ok hq, len]
theorem elOk1 (n : Int) (p : ByteArray) (hp : p.size = 32) : elOk [hAt n p] = true := by
  unfold elOk laysH
  rw [follow1]
  simp [hAt_ok hp, len]
theorem linked2 (n m : Int) (p q : ByteArray) (hp : p.size = 32) (hq : q.size = 32) : linkedH [hAt n p, hAt m q] = (stepH (hAt n p) (hAt m q) && decide (q = hdg (hAt n p))) := by
  unfold linkedH
  rw [elOk2 n m p q hp hq, follow2]
  rfl
theorem linked1 (n : Int) (p : ByteArray) (hp : p.size = 32) : linkedH [hAt n p] = true := by
  unfold linkedH
  rw [elOk1 n p hp, follow1]
  rfl
theorem hAt_Ok {n : Int} {p : ByteArray} (hn : U64i n) (hp : p.size = 32) : (hAt n p).Ok := ⟨hn, by show p.size ≤ _; rw [hp]; decide, by show zerT.size ≤ _; decide, by show zerT.size ≤ _; decide⟩
theorem oks2 {x y : Hdr} (hx : x.Ok) (hy : y.Ok) : ∀ i, (hnth [x, y] i).Ok := hoks (fun p hp => by
  rcases List.mem_cons.1 hp with rfl | hp
  · exact hx
  · rw [List.mem_singleton.1 hp]; exact hy)
theorem oks1 {x : Hdr} (hx : x.Ok) : ∀ i, (hnth [x] i).Ok := hoks (fun p hp => by
  rw [List.mem_singleton.1 hp]; exact hx)
set_option maxRecDepth 100000 in
set_option maxHeartbeats 8000000 in
theorem works23_any (B : Nat) (w : World) (ht : PT B w) : Calls Tryz.prog 23 #[] w fun e w' => e = .returned (.bool true) ∧ Below w.heap.size w w' := by
  have HT := Lib.hid ht
  clear ht
  go_enter Tryz.func23, Tryz.ntmps23
  go_wp2_with fail
  refine (dig23_any ⟨#[]⟩ w (by decide)).mono ?_
  rintro e w1 ⟨rfl, hb⟩
  rw [digT_nil]
  have HB1 := Lib.hid hb
  clear hb
  go_wp2_with fail
  refine (at23_any 5 zerT w1).mono ?_
  rintro e w2 ⟨rfl, hb⟩
  have HB2 : Hid (Below w.heap.size w w2) := Lib.hid (bnext HB1.out hb)
  clear hb
  have ok5 : ∀ n p, U64i n → p.size = 32 → (hAt n p).Ok := fun n p => hAt_Ok
  have HW := Lib.hid (fun w9 (h : PT B w9) => hw_yes B (hAt 5 zerT) w9 h (ok5 5 zerT ⟨by decide, by decide⟩ rfl) (hAt_ok rfl))
  have HG := Lib.hid (fun w9 (h : PT B w9) => hdig_any B (hAt 5 zerT) w9 h (ok5 5 zerT ⟨by decide, by decide⟩ rfl))
  unfold DgIs at HG
  have e1 : dgS (hAt 5 zerT) = hdg (hAt 5 zerT) := if_pos (hAt_ok rfl)
  have e2 : dgE (hAt 5 zerT) = 0 := if_pos (hAt_ok rfl)
  rw [e1, e2] at HG
  obtain ⟨d, hd⟩ : ∃ d, hdg (hAt 5 zerT) = d := ⟨_, rfl⟩
  have HDS : Hid (d.size = 32) := Lib.hid (by rw [← hd]; exact hdg_size _)
  have HDN : Hid (¬ zerT = d) := Lib.hid (fun h => five_dg (hd.trans h.symm))
  have HHASH : Hid (hashP hdrT [hbs (hAt 5 zerT)] = d) := Lib.hid hd
  have HBZ : Hid ((hbs (hAt 5 zerT)).size ≤ 1000000) := Lib.hid (Nat.le_trans (hbs_size (hAt_ok rfl)) (by decide))
  obtain ⟨S, hS⟩ : ∃ S, hbs (hAt 5 zerT) = S := ⟨_, rfl⟩
  rw [hS] at HW HHASH HBZ
  rw [hd] at HG
  have lift : ∀ {F : FuncId} (L : List Hdr) (v : Bool) (cs : Array Value), (L.flatMap Hdr.cells).toArray = cs → (∀ (a : Option Addr) (c : Nat) (w9 : World), PT B w9 → Hdrs w9 a L → Calls Tryz.prog F #[.slice a (len L) c] w9 fun e w' => e = .returned (.bool v) ∧ Below w9.heap.size w9 w') →
      ∀ (w9 : World) (b : Nat), PT B w9 → w9.heap[b]? = some (.cells cs 33 (0, 0)) → Calls Tryz.prog F #[.slice (some ⟨b, 0, none⟩) (len L) (len L)] w9 fun e w' => e = .returned (.bool v) ∧ Below w9.heap.size w9 w' :=
    fun L v cs hcs hh w9 b hp hb => hh _ _ w9 hp (Hdrs.block (by rw [hcs]; exact hb))
  have u5 : U64i 5 := ⟨by decide, by decide⟩
  have u6 : U64i 6 := ⟨by decide, by decide⟩
  have u7 : U64i 7 := ⟨by decide, by decide⟩
  have HF7 := Lib.hid (lift (F := 28) [hAt 5 zerT, hAt 7 zerT] true _ rfl (fun a c w9 hp hh => by
    have := refused_any B _ a c w9 hp hh (oks2 (ok5 5 zerT u5 rfl) (ok5 7 zerT u7 rfl)) (by decide)
    rw [elOk2 5 7 zerT zerT rfl rfl, step_h] at this
    exact this))
  have HF5 := Lib.hid (lift (F := 28) [hAt 5 zerT, hAt 5 zerT] true _ rfl (fun a c w9 hp hh => by
    have := refused_any B _ a c w9 hp hh (oks2 (ok5 5 zerT u5 rfl) (ok5 5 zerT u5 rfl)) (by decide)
    rw [elOk2 5 5 zerT zerT rfl rfl, step_h] at this
    exact this))
  have HL1 := Lib.hid (lift (F := 19) [hAt 5 zerT] true _ rfl (fun a c w9 hp hh => by
    have := hlinked_any B _ a c w9 hp hh (oks1 (ok5 5 zerT u5 rfl)) (by decide)
    rw [linked1 5 zerT rfl] at this
    exact this))
  have HL2 := Lib.hid (lift (F := 19) [hAt 5 zerT, hAt 6 zerT] false _ rfl (fun a c w9 hp hh => by
    have := hlinked_any B _ a c w9 hp hh (oks2 (ok5 5 zerT u5 rfl) (ok5 6 zerT u6 rfl)) (by decide)
    rw [linked2 5 6 zerT zerT rfl rfl, step_h, hd, decide_eq_false HDN.out] at this
    exact this))
  have HL3 := Lib.hid (lift (F := 19) [hAt 5 zerT, hAt 6 d] true _ rfl (fun a c w9 hp hh => by
    have := hlinked_any B _ a c w9 hp hh (oks2 (ok5 5 zerT u5 rfl) (ok5 6 d u6 HDS.out)) (show 2 ≤ 100000 by decide)
    rw [linked2 5 6 zerT d rfl HDS.out, step_h, hd, decide_eq_true rfl] at this
    exact this))
  have HR0 := Lib.hid (fun w9 (hp : PT B w9) => refused_any B [] none 0 w9 hp (Hdrs.nil _ _) (hoks (fun p hp => by cases hp)) (by decide))
  have el0 : (!elOk []) = true := by decide
  rw [el0] at HR0
  have HA7 := Lib.hid (fun w9 => at23_any 7 zerT w9)
  have HA5 := Lib.hid (fun w9 => at23_any 5 zerT w9)
  have HA6 := Lib.hid (fun w9 => at23_any 6 zerT w9)
  have HD6 := Lib.hid (fun w9 => at23_any 6 d w9)
  unfold hAt at HW HG HF7 HF5 HL1 HL2 HL3 HA7 HA5 HA6 HD6 ⊢
  obtain ⟨z, hz⟩ : ∃ z, zerT = z := ⟨_, rfl⟩
  rw [hz] at HW HG HF7 HF5 HL1 HL2 HL3 HA7 HA5 HA6 HD6 ⊢
  clear hz lift u5 u6 u7 ok5 e1 e2 hd hS HDN
  go_wp2_with fail
  obtain ⟨V, hV⟩ : ∃ V, w2.alloc (.cells #[.int .u64 5, .string z, .string z, .string z] 33) = V := ⟨_, rfl⟩
  obtain ⟨hb, hhb⟩ : ∃ hb, w2.heap.size = hb := ⟨_, rfl⟩
  have HBV : Hid (Below w.heap.size w V) := Lib.hid (by rw [← hV]; exact balloc HB2.out _)
  have HHB : Hid (V.heap[hb]? = some (.cells #[.int .u64 5, .string z, .string z, .string z] 33 (0, 0))) := Lib.hid (by rw [← hV, ← hhb]; exact heap_alloc_new _ _)
  rw [hV, hhb]
  clear hV hhb
  refine (HW.out V (HT.out.below HBV.out)).mono ?_
  rintro e w3 ⟨rfl, hb3⟩
  have HB3 : Hid (Below w.heap.size w w3) := Lib.hid (bnext HBV.out hb3)
  have HH3 := Lib.hid ((hb3.block _ (lt_of_block HHB.out)).trans HHB.out)
  have c : ∀ o, w3.cell? ⟨hb, o, none⟩ = _ := block_cell HH3.out
  clear hb3
  go_wp2_with fail
  refine (HG.out w3 (HT.out.below HB3.out)).mono ?_
  rintro e w4 ⟨rfl, hb4⟩
  have HB4 : Hid (Below w.heap.size w w4) := Lib.hid (bnext HB3.out hb4)
  have HH4 := Lib.hid ((hb4.block _ (lt_of_block HH3.out)).trans HH3.out)
  clear hb4 c el0
  go_wp2_with fail
  refine (hdig_any B Hdr.zero w4 (HT.out.below HB4.out) Hdr.zero_ok).mono ?_
  rintro e w5 ⟨rfl, hb5⟩
  have z1 : dgS Hdr.zero = ⟨#[]⟩ := if_neg (by decide)
  have z2 : dgE Hdr.zero = 2 := if_neg (by decide)
  rw [z1, z2]
  have HB5 : Hid (Below w.heap.size w w5) := Lib.hid (bnext HB4.out hb5)
  have HH5 := Lib.hid ((hb5.block _ (lt_of_block HH4.out)).trans HH4.out)
  clear hb5 z1 z2
  go_wp2_with fail
  refine (htxns_any [] none 0 w5 (by decide) (Txts.nil _ _) (fun i hi => absurd hi (by simp [len]))).mono ?_
  rintro e w6 ⟨rfl, hb6⟩
  have z1 : txS [] = hashP noneT [] := by rw [← tree_nil]; exact if_pos bods_nil
  have z2 : txE [] = 0 := if_pos bods_nil
  rw [z1, z2]
  obtain ⟨ta, hta⟩ : ∃ ta, hashP noneT [] = ta := ⟨_, rfl⟩
  have HTA := Lib.hid hta
  rw [hta]
  have HB6 : Hid (Below w.heap.size w w6) := Lib.hid (bnext HB5.out hb6)
  have HH6 := Lib.hid ((hb6.block _ (lt_of_block HH5.out)).trans HH5.out)
  clear hb6 z1 z2 hta
  go_wp2_with fail
  refine (htxns_any abT (some ⟨w6.heap.size, 0, none⟩) 2 _ (by decide) (abT_txts (heap_alloc_new _ _)) (fun i hi => Nat.le_trans (abT_size i hi) (by decide))).mono ?_
  rintro e w7 ⟨rfl, hb7⟩
  have z1 : txS abT = treeR abT := if_pos bods_ab
  have z2 : txE abT = 0 := if_pos bods_ab
  rw [z1, z2]
  obtain ⟨tb, htb⟩ : ∃ tb, treeR abT = tb := ⟨_, rfl⟩
  have HTB := Lib.hid htb
  rw [htb]
  have HX7 := Lib.hid (bnext (balloc (Below.refl w6.heap.size w6) _) hb7)
  have HB7 : Hid (Below w.heap.size w w7) := Lib.hid (bnext HB6.out HX7.out)
  have HH7 := Lib.hid ((HX7.out.block _ (lt_of_block HH6.out)).trans HH6.out)
  clear hb7 z1 z2 htb
  obtain ⟨W8, mk, hb8, cv⟩ := make_zb 65 65 rfl (by decide) w7
  obtain ⟨z65, hz65⟩ : ∃ z65, zerN 65 = z65 := ⟨_, rfl⟩
  have HZ65 : Hid (bodsOk [z65] = false ∧ z65.size = 65) := Lib.hid (by rw [← hz65]; exact ⟨bods_65, zerN_size 65⟩)
  rw [hz65] at cv
  have HX8 := Lib.hid hb8
  clear hz65 hb8
  go_wp2_with fail
  refine (htxns_any [z65] (some ⟨W8.heap.size, 0, none⟩) 1 _ (show 1 ≤ 65536 by decide) (one_txts1 (heap_alloc_new _ _)) (fun i hi => by
    have hi : i < 1 := hi
    obtain rfl : i = 0 := by omega
    show z65.size ≤ _
    rw [HZ65.out.2]; decide)).mono ?_
  rintro e w9 ⟨rfl, hb9⟩
  have z1 : txS [z65] = ⟨#[]⟩ := if_neg (by rw [HZ65.out.1]; decide)
  have z2 : txE [z65] = 2 := if_neg (by rw [HZ65.out.1]; decide)
  rw [z1, z2]
  have HX9 := Lib.hid (bnext (balloc HX8.out _) hb9)
  have HB9 : Hid (Below w.heap.size w w9) := Lib.hid (bnext HB7.out HX9.out)
  have HH9 := Lib.hid ((HX9.out.block _ (lt_of_block HH7.out)).trans HH7.out)
  clear hb9 z1 z2 mk cv
  go_wp2_with fail
  refine (build_any abT (some ⟨w9.heap.size, 0, none⟩) 2 _ (abT_txts (heap_alloc_new _ _)) (by decide) (fun i hi => Nat.le_trans (abT_size i hi) (by decide))).mono ?_
  rintro e w10 ⟨tp, rfl, htp, htr, hb10⟩
  have HX10 := Lib.hid (bnext (balloc (Below.refl w9.heap.size w9) _) hb10)
  have HB10 : Hid (Below w.heap.size w w10) := Lib.hid (bnext HB9.out HX10.out)
  have HH10 := Lib.hid ((HX10.out.block _ (lt_of_block HH9.out)).trans HH9.out)
  have HTR := Lib.hid htr
  clear hb10 htp htr
  go_wp2_with fail
  refine (hash1_any hdrT S w10 (by decide) (by decide) HBZ.out).mono ?_
  rintro e w11 ⟨rfl, hb11⟩
  rw [HHASH.out]
  have HB11 : Hid (Below w.heap.size w w11) := Lib.hid (bnext HB10.out hb11)
  have HH11 := Lib.hid ((hb11.block _ (lt_of_block HH10.out)).trans HH10.out)
  have HTR11 := Lib.hid (HTR.out.below hb11)
  have sd : (d.toList != d.toList) = false := by unfold bne; rw [str_beq, decide_eq_true rfl]; rfl
  clear hb11
  go_upto_region 12 with fail
  clear sd
  have c0 : w11.cell? ⟨hb, 0, none⟩ = some (.int .u64 5) := block_cell HH11.out 0
  have c1 : w11.cell? ⟨hb, 1, none⟩ = some (.string z) := block_cell HH11.out 1
  have c2 : w11.cell? ⟨hb, 2, none⟩ = some (.string z) := block_cell HH11.out 2
  have c3 : w11.cell? ⟨hb, 3, none⟩ = some (.string z) := block_cell HH11.out 3
  have sa : (ta.toList == ta.toList) = true := by rw [str_beq]; exact decide_eq_true rfl
  have sb : (tb.toList == tb.toList) = true := by rw [str_beq]; exact decide_eq_true rfl
  have HTW := Lib.hid (HT.out.below HB11.out)
  have HF7 := Lib.hid (fun w9 b (hw : Below w11.heap.size w11 w9) => HF7.out w9 b (HTW.out.below hw))
  have HF5 := Lib.hid (fun w9 b (hw : Below w11.heap.size w11 w9) => HF5.out w9 b (HTW.out.below hw))
  have HL1 := Lib.hid (fun w9 b (hw : Below w11.heap.size w11 w9) => HL1.out w9 b (HTW.out.below hw))
  have HL2 := Lib.hid (fun w9 b (hw : Below w11.heap.size w11 w9) => HL2.out w9 b (HTW.out.below hw))
  have HL3 := Lib.hid (fun w9 b (hw : Below w11.heap.size w11 w9) => HL3.out w9 b (HTW.out.below hw))
  have HR0 := Lib.hid (fun w9 (hw : Below w11.heap.size w11 w9) => HR0.out w9 (HTW.out.below hw))
  have HNO := Lib.hid (fun w9 => hash0_any noneT w9 (by decide) (by decide))
  rw [HTA.out] at HNO
  have HRT := Lib.hid (fun w9 (hw : Below w11.heap.size w11 w9) => (root_any abT tp w9 (HTR11.out.below hw)).mono (fun e w' hh => (⟨hh.1, by rw [hh.2]; exact Below.refl _ _⟩ : e = .returned (.string (treeR abT)) ∧ Below w9.heap.size w9 w')))
  rw [HTB.out] at HRT
  refine wp_region_all 1000 (none) (phis [fun u _ => u = (.bool true), fun u _ => u = (.bool true), fun u _ => u = (.agg #[.int .u64 5, .string z, .string z, .string z]), fun u _ => u = (.string z), fun u _ => u = (.agg #[.int .u64 7, .string z, .string z, .string z]), fun u w' => ∃ b, u = .slice (some ⟨b, 0, none⟩) 2 2 ∧ w'.heap[b]? = some (.cells #[.int .u64 5, .string z, .string z, .string z, .int .u64 7, .string z, .string z, .string z] 33 (0, 0)), fun u _ => u = (.bool true), fun u _ => u = (.bool true), fun u _ => u = (.bool true), fun u _ => u = (.agg #[.int .u64 5, .string z, .string z, .string z]), fun u _ => u = (.string z), fun u _ => u = (.agg #[.int .u64 5, .string z, .string z, .string z]), fun u w' => ∃ b, u = .slice (some ⟨b, 0, none⟩) 2 2 ∧ w'.heap[b]? = some (.cells #[.int .u64 5, .string z, .string z, .string z, .int .u64 5, .string z, .string z, .string z] 33 (0, 0)), fun u _ => u = (.bool true), fun u _ => u = (.bool true), fun u _ => u = (.bool true), fun u _ => u = (.agg #[.int .u64 5, .string z, .string z, .string z]), fun u w' => ∃ b, u = .slice (some ⟨b, 0, none⟩) 1 1 ∧ w'.heap[b]? = some (.cells #[.int .u64 5, .string z, .string z, .string z] 33 (0, 0)), fun u _ => u = (.bool true), fun u _ => u = (.bool true), fun u _ => u = (.bool true), fun u _ => u = (.agg #[.int .u64 5, .string z, .string z, .string z]), fun u _ => u = (.string z), fun u _ => u = (.agg #[.int .u64 6, .string z, .string z, .string z]), fun u w' => ∃ b, u = .slice (some ⟨b, 0, none⟩) 2 2 ∧ w'.heap[b]? = some (.cells #[.int .u64 5, .string z, .string z, .string z, .int .u64 6, .string z, .string z, .string z] 33 (0, 0)), fun u _ => u = (.bool false), fun u _ => u = (.bool true), fun u _ => u = (.bool true), fun u _ => u = (.bool true), fun u _ => u = (.agg #[.int .u64 5, .string z, .string z, .string z]), fun u _ => u = (.string d), fun u _ => u = (.agg #[.int .u64 6, .string d, .string z, .string z]), fun u w' => ∃ b, u = .slice (some ⟨b, 0, none⟩) 2 2 ∧ w'.heap[b]? = some (.cells #[.int .u64 5, .string z, .string z, .string z, .int .u64 6, .string d, .string z, .string z] 33 (0, 0)), fun u _ => u = (.bool true), fun u _ => u = (.bool true), fun u _ => u = (.bool true), fun u _ => u = (.int .i64 0), fun u _ => u = (.bool true), fun u _ => u = (.bool true), fun u _ => u = (.bool true), fun u _ => u = (.string ta), fun u _ => u = (.string ta), fun u _ => u = (.bool true), fun u _ => u = (.bool true), fun u _ => u = (.bool true), fun u _ => u = (.int .i64 0), fun u _ => u = (.bool true), fun u _ => u = (.bool true), fun u _ => u = (.bool true), fun u _ => u = (.string tb), fun u _ => u = (.pointer (some ⟨tp, 0, none⟩)), fun u _ => u = (.string tb), fun u _ => u = (.bool true), fun u _ => u = (.bool true), fun u _ => u = (.bool true), fun u _ => u = (.int .i64 2), fun u _ => u = (.bool true), fun u _ => u = (.bool true), fun u _ => u = (.bool true)]) rfl (by kernel_rfl) (mono_of ⟨mono_eq, mono_eq, mono_eq, mono_eq, mono_eq, ?m5, mono_eq, mono_eq, mono_eq, mono_eq, mono_eq, mono_eq, ?m12, mono_eq, mono_eq, mono_eq, mono_eq, ?m17, mono_eq, mono_eq, mono_eq, mono_eq, mono_eq, mono_eq, ?m24, mono_eq, mono_eq, mono_eq, mono_eq, mono_eq, mono_eq, mono_eq, ?m32, mono_eq, mono_eq, mono_eq, mono_eq, mono_eq, mono_eq, mono_eq, mono_eq, mono_eq, mono_eq, mono_eq, mono_eq, mono_eq, mono_eq, mono_eq, mono_eq, mono_eq, mono_eq, mono_eq, mono_eq, mono_eq, mono_eq, mono_eq, mono_eq, mono_eq, mono_eq, trivial⟩) (steps_of 59 ⟨?s0, ?s1, ?s2, ?s3, ?s4, ?s5, ?s6, ?s7, ?s8, ?s9, ?s10, ?s11, ?s12, ?s13, ?s14, ?s15, ?s16, ?s17, ?s18, ?s19, ?s20, ?s21, ?s22, ?s23, ?s24, ?s25, ?s26, ?s27, ?s28, ?s29, ?s30, ?s31, ?s32, ?s33, ?s34, ?s35, ?s36, ?s37, ?s38, ?s39, ?s40, ?s41, ?s42, ?s43, ?s44, ?s45, ?s46, ?s47, ?s48, ?s49, ?s50, ?s51, ?s52, ?s53, ?s54, ?s55, ?s56, ?s57, ?s58, trivial⟩) ?_
  case m5 =>
    exact ⟨fun u w1 w' h ⟨b, h1, hb⟩ => ⟨b, h1, ext_block h hb⟩, fun _ u w1 w' h ⟨b, h1, hb⟩ => ⟨b, h1, extB_block h (by simp) hb⟩⟩
  case m12 =>
    exact ⟨fun u w1 w' h ⟨b, h1, hb⟩ => ⟨b, h1, ext_block h hb⟩, fun _ u w1 w' h ⟨b, h1, hb⟩ => ⟨b, h1, extB_block h (by simp) hb⟩⟩
  case m17 =>
    exact ⟨fun u w1 w' h ⟨b, h1, hb⟩ => ⟨b, h1, ext_block h hb⟩, fun _ u w1 w' h ⟨b, h1, hb⟩ => ⟨b, h1, extB_block h (by simp) hb⟩⟩
  case m24 =>
    exact ⟨fun u w1 w' h ⟨b, h1, hb⟩ => ⟨b, h1, ext_block h hb⟩, fun _ u w1 w' h ⟨b, h1, hb⟩ => ⟨b, h1, extB_block h (by simp) hb⟩⟩
  case m32 =>
    exact ⟨fun u w1 w' h ⟨b, h1, hb⟩ => ⟨b, h1, ext_block h hb⟩, fun _ u w1 w' h ⟨b, h1, hb⟩ => ⟨b, h1, extB_block h (by simp) hb⟩⟩
  case s0 =>
    refine step_wp (fun av wv hE hS hO hD => ?_)
    refine ⟨rfl, ?_⟩
    refine wp_of_call (v := .bool true) (by simp [go_sem]; rfl) (HR0.out wv (of_drew hE)) (fun w2 hb => ⟨_, rfl, es_of_ext hb, rfl⟩)
  case s1 =>
    refine step_val (v := (.bool true)) (fun av wv hE hS hO hD => ?_) (fun _ => rfl)
    have d81 : av.eval (.tmp 81) = (.bool true) := hD.1 rfl _ rfl
    have f81 := (ev_form av 81).symm.trans d81
    refine ⟨rfl, ?_⟩
    simp [go_sem, f81, sa, sb]
  case s2 =>
    refine step_val (v := (.agg #[.int .u64 5, .string z, .string z, .string z])) (fun av wv hE hS hO hD => ?_) (fun _ => rfl)
    have h2 : av.eval (.tmp 2) = (.pointer (some ⟨hb, 0, none⟩)) := hO.2.2 2 rfl
    have f2 := (ev_form av 2).symm.trans h2
    have d82 : av.eval (.tmp 82) = (.bool true) := hD.1 rfl _ rfl
    have f82 := (ev_form av 82).symm.trans d82
    have c0 := extB_cell hE (by simp) c0
    have c1 := extB_cell hE (by simp) c1
    have c2 := extB_cell hE (by simp) c2
    have c3 := extB_cell hE (by simp) c3
    refine ⟨(wanted_of (d := 82) (b := true) (want := true) rfl rfl rfl d82), ?_⟩
    simp [go_sem, f2, f82, c0, c1, c2, c3, sa, sb]
  case s3 =>
    refine step_val (v := (.string z)) (fun av wv hE hS hO hD => ?_) (fun _ => rfl)
    have h1 : av.eval (.tmp 1) = (.string z) := hO.2.2 1 rfl
    have f1 := (ev_form av 1).symm.trans h1
    have d82 : av.eval (.tmp 82) = (.bool true) := hD.1 rfl _ rfl
    have f82 := (ev_form av 82).symm.trans d82
    refine ⟨(wanted_of (d := 82) (b := true) (want := true) rfl rfl rfl d82), ?_⟩
    simp [go_sem, f1, f82, sa, sb]
  case s4 =>
    refine step_wp (fun av wv hE hS hO hD => ?_)
    have d84 : av.eval (.tmp 84) = (.string z) := hD.1 rfl _ rfl
    have f84 := (ev_form av 84).symm.trans d84
    have d82 : av.eval (.tmp 82) = (.bool true) := hD.2.1 rfl _ rfl
    have f82 := (ev_form av 82).symm.trans d82
    refine ⟨(wanted_of (d := 82) (b := true) (want := true) rfl rfl rfl d82), ?_⟩
    refine wp_of_call (v := .agg #[.int .u64 7, .string z, .string z, .string z]) (by simp [go_sem, f84]) (HA7.out wv) (fun w2 hb => ⟨_, rfl, es_of_ext hb, rfl⟩)
  case s5 =>
    refine step_wp (fun av wv hE hS hO hD => ?_)
    have d83 : av.eval (.tmp 83) = (.agg #[.int .u64 5, .string z, .string z, .string z]) := hD.1 rfl _ rfl
    have f83 := (ev_form av 83).symm.trans d83
    have d85 : av.eval (.tmp 85) = (.agg #[.int .u64 7, .string z, .string z, .string z]) := hD.2.1 rfl _ rfl
    have f85 := (ev_form av 85).symm.trans d85
    have d82 : av.eval (.tmp 82) = (.bool true) := hD.2.2.1 rfl _ rfl
    have f82 := (ev_form av 82).symm.trans d82
    refine ⟨(wanted_of (d := 82) (b := true) (want := true) rfl rfl rfl d82), ?_⟩
    exact wp_of_run (v := .slice (some ⟨wv.heap.size, 0, none⟩) 2 2) (w' := wv.alloc (.cells #[.int .u64 5, .string z, .string z, .string z, .int .u64 7, .string z, .string z, .string z] 33)) (by simp [go_sem, f83, f85]) ⟨_, rfl, es_of_ext (balloc (Ext_refl _) _), wv.heap.size, rfl, heap_alloc_new _ _⟩
  case s6 =>
    refine step_wp (fun av wv hE hS hO hD => ?_)
    have d86 : (fun u w' => ∃ b, u = .slice (some ⟨b, 0, none⟩) 2 2 ∧ w'.heap[b]? = some (.cells #[.int .u64 5, .string z, .string z, .string z, .int .u64 7, .string z, .string z, .string z] 33 (0, 0))) (av.eval (.tmp 86)) wv := hD.1 rfl _ rfl
    have d82 : av.eval (.tmp 82) = (.bool true) := hD.2.2.1 rfl _ rfl
    have f82 := (ev_form av 82).symm.trans d82
    refine ⟨(wanted_of (d := 82) (b := true) (want := true) rfl rfl rfl d82), ?_⟩
    obtain ⟨bq, hq, hcq⟩ := d86
    have fq := (ev_form av 86).symm.trans hq
    refine wp_of_call (v := .bool true) (by simp [go_sem, fq]; rfl) (HF7.out wv bq (of_drew hE) hcq) (fun w2 hb => ⟨_, rfl, es_of_ext hb, rfl⟩)
  case s7 =>
    refine step_val (v := (.bool true)) (fun av wv hE hS hO hD => ?_) (fun _ => rfl)
    have d82 : av.eval (.tmp 82) = (.bool true) := hD.1 rfl _ rfl
    have f82 := (ev_form av 82).symm.trans d82
    have d87 : av.eval (.tmp 87) = (.bool true) := hD.2.1 rfl _ rfl
    have f87 := (ev_form av 87).symm.trans d87
    refine ⟨rfl, ?_⟩
    simp [go_sem, f82, f87, sa, sb]
  case s8 =>
    refine step_val (v := (.bool true)) (fun av wv hE hS hO hD => ?_) (fun _ => rfl)
    have d88 : av.eval (.tmp 88) = (.bool true) := hD.1 rfl _ rfl
    have f88 := (ev_form av 88).symm.trans d88
    refine ⟨rfl, ?_⟩
    simp [go_sem, f88, sa, sb]
  case s9 =>
    refine step_val (v := (.agg #[.int .u64 5, .string z, .string z, .string z])) (fun av wv hE hS hO hD => ?_) (fun _ => rfl)
    have h2 : av.eval (.tmp 2) = (.pointer (some ⟨hb, 0, none⟩)) := hO.2.2 2 rfl
    have f2 := (ev_form av 2).symm.trans h2
    have d89 : av.eval (.tmp 89) = (.bool true) := hD.1 rfl _ rfl
    have f89 := (ev_form av 89).symm.trans d89
    have c0 := extB_cell hE (by simp) c0
    have c1 := extB_cell hE (by simp) c1
    have c2 := extB_cell hE (by simp) c2
    have c3 := extB_cell hE (by simp) c3
    refine ⟨(wanted_of (d := 89) (b := true) (want := true) rfl rfl rfl d89), ?_⟩
    simp [go_sem, f2, f89, c0, c1, c2, c3, sa, sb]
  case s10 =>
    refine step_val (v := (.string z)) (fun av wv hE hS hO hD => ?_) (fun _ => rfl)
    have h1 : av.eval (.tmp 1) = (.string z) := hO.2.2 1 rfl
    have f1 := (ev_form av 1).symm.trans h1
    have d89 : av.eval (.tmp 89) = (.bool true) := hD.1 rfl _ rfl
    have f89 := (ev_form av 89).symm.trans d89
    refine ⟨(wanted_of (d := 89) (b := true) (want := true) rfl rfl rfl d89), ?_⟩
    simp [go_sem, f1, f89, sa, sb]
  case s11 =>
    refine step_wp (fun av wv hE hS hO hD => ?_)
    have d91 : av.eval (.tmp 91) = (.string z) := hD.1 rfl _ rfl
    have f91 := (ev_form av 91).symm.trans d91
    have d89 : av.eval (.tmp 89) = (.bool true) := hD.2.1 rfl _ rfl
    have f89 := (ev_form av 89).symm.trans d89
    refine ⟨(wanted_of (d := 89) (b := true) (want := true) rfl rfl rfl d89), ?_⟩
    refine wp_of_call (v := .agg #[.int .u64 5, .string z, .string z, .string z]) (by simp [go_sem, f91]) (HA5.out wv) (fun w2 hb => ⟨_, rfl, es_of_ext hb, rfl⟩)
  case s12 =>
    refine step_wp (fun av wv hE hS hO hD => ?_)
    have d90 : av.eval (.tmp 90) = (.agg #[.int .u64 5, .string z, .string z, .string z]) := hD.1 rfl _ rfl
    have f90 := (ev_form av 90).symm.trans d90
    have d92 : av.eval (.tmp 92) = (.agg #[.int .u64 5, .string z, .string z, .string z]) := hD.2.1 rfl _ rfl
    have f92 := (ev_form av 92).symm.trans d92
    have d89 : av.eval (.tmp 89) = (.bool true) := hD.2.2.1 rfl _ rfl
    have f89 := (ev_form av 89).symm.trans d89
    refine ⟨(wanted_of (d := 89) (b := true) (want := true) rfl rfl rfl d89), ?_⟩
    exact wp_of_run (v := .slice (some ⟨wv.heap.size, 0, none⟩) 2 2) (w' := wv.alloc (.cells #[.int .u64 5, .string z, .string z, .string z, .int .u64 5, .string z, .string z, .string z] 33)) (by simp [go_sem, f90, f92]) ⟨_, rfl, es_of_ext (balloc (Ext_refl _) _), wv.heap.size, rfl, heap_alloc_new _ _⟩
  case s13 =>
    refine step_wp (fun av wv hE hS hO hD => ?_)
    have d93 : (fun u w' => ∃ b, u = .slice (some ⟨b, 0, none⟩) 2 2 ∧ w'.heap[b]? = some (.cells #[.int .u64 5, .string z, .string z, .string z, .int .u64 5, .string z, .string z, .string z] 33 (0, 0))) (av.eval (.tmp 93)) wv := hD.1 rfl _ rfl
    have d89 : av.eval (.tmp 89) = (.bool true) := hD.2.2.1 rfl _ rfl
    have f89 := (ev_form av 89).symm.trans d89
    refine ⟨(wanted_of (d := 89) (b := true) (want := true) rfl rfl rfl d89), ?_⟩
    obtain ⟨bq, hq, hcq⟩ := d93
    have fq := (ev_form av 93).symm.trans hq
    refine wp_of_call (v := .bool true) (by simp [go_sem, fq]; rfl) (HF5.out wv bq (of_drew hE) hcq) (fun w2 hb => ⟨_, rfl, es_of_ext hb, rfl⟩)
  case s14 =>
    refine step_val (v := (.bool true)) (fun av wv hE hS hO hD => ?_) (fun _ => rfl)
    have d89 : av.eval (.tmp 89) = (.bool true) := hD.1 rfl _ rfl
    have f89 := (ev_form av 89).symm.trans d89
    have d94 : av.eval (.tmp 94) = (.bool true) := hD.2.1 rfl _ rfl
    have f94 := (ev_form av 94).symm.trans d94
    refine ⟨rfl, ?_⟩
    simp [go_sem, f89, f94, sa, sb]
  case s15 =>
    refine step_val (v := (.bool true)) (fun av wv hE hS hO hD => ?_) (fun _ => rfl)
    have d95 : av.eval (.tmp 95) = (.bool true) := hD.1 rfl _ rfl
    have f95 := (ev_form av 95).symm.trans d95
    refine ⟨rfl, ?_⟩
    simp [go_sem, f95, sa, sb]
  case s16 =>
    refine step_val (v := (.agg #[.int .u64 5, .string z, .string z, .string z])) (fun av wv hE hS hO hD => ?_) (fun _ => rfl)
    have h2 : av.eval (.tmp 2) = (.pointer (some ⟨hb, 0, none⟩)) := hO.2.2 2 rfl
    have f2 := (ev_form av 2).symm.trans h2
    have d96 : av.eval (.tmp 96) = (.bool true) := hD.1 rfl _ rfl
    have f96 := (ev_form av 96).symm.trans d96
    have c0 := extB_cell hE (by simp) c0
    have c1 := extB_cell hE (by simp) c1
    have c2 := extB_cell hE (by simp) c2
    have c3 := extB_cell hE (by simp) c3
    refine ⟨(wanted_of (d := 96) (b := true) (want := true) rfl rfl rfl d96), ?_⟩
    simp [go_sem, f2, f96, c0, c1, c2, c3, sa, sb]
  case s17 =>
    refine step_wp (fun av wv hE hS hO hD => ?_)
    have d97 : av.eval (.tmp 97) = (.agg #[.int .u64 5, .string z, .string z, .string z]) := hD.1 rfl _ rfl
    have f97 := (ev_form av 97).symm.trans d97
    have d96 : av.eval (.tmp 96) = (.bool true) := hD.2.1 rfl _ rfl
    have f96 := (ev_form av 96).symm.trans d96
    refine ⟨(wanted_of (d := 96) (b := true) (want := true) rfl rfl rfl d96), ?_⟩
    exact wp_of_run (v := .slice (some ⟨wv.heap.size, 0, none⟩) 1 1) (w' := wv.alloc (.cells #[.int .u64 5, .string z, .string z, .string z] 33)) (by simp [go_sem, f97]) ⟨_, rfl, es_of_ext (balloc (Ext_refl _) _), wv.heap.size, rfl, heap_alloc_new _ _⟩
  case s18 =>
    refine step_wp (fun av wv hE hS hO hD => ?_)
    have d98 : (fun u w' => ∃ b, u = .slice (some ⟨b, 0, none⟩) 1 1 ∧ w'.heap[b]? = some (.cells #[.int .u64 5, .string z, .string z, .string z] 33 (0, 0))) (av.eval (.tmp 98)) wv := hD.1 rfl _ rfl
    have d96 : av.eval (.tmp 96) = (.bool true) := hD.2.1 rfl _ rfl
    have f96 := (ev_form av 96).symm.trans d96
    refine ⟨(wanted_of (d := 96) (b := true) (want := true) rfl rfl rfl d96), ?_⟩
    obtain ⟨bq, hq, hcq⟩ := d98
    have fq := (ev_form av 98).symm.trans hq
    refine wp_of_call (v := .bool true) (by simp [go_sem, fq]; rfl) (HL1.out wv bq (of_drew hE) hcq) (fun w2 hb => ⟨_, rfl, es_of_ext hb, rfl⟩)
  case s19 =>
    refine step_val (v := (.bool true)) (fun av wv hE hS hO hD => ?_) (fun _ => rfl)
    have d96 : av.eval (.tmp 96) = (.bool true) := hD.1 rfl _ rfl
    have f96 := (ev_form av 96).symm.trans d96
    have d99 : av.eval (.tmp 99) = (.bool true) := hD.2.1 rfl _ rfl
    have f99 := (ev_form av 99).symm.trans d99
    refine ⟨rfl, ?_⟩
    simp [go_sem, f96, f99, sa, sb]
  case s20 =>
    refine step_val (v := (.bool true)) (fun av wv hE hS hO hD => ?_) (fun _ => rfl)
    have d100 : av.eval (.tmp 100) = (.bool true) := hD.1 rfl _ rfl
    have f100 := (ev_form av 100).symm.trans d100
    refine ⟨rfl, ?_⟩
    simp [go_sem, f100, sa, sb]
  case s21 =>
    refine step_val (v := (.agg #[.int .u64 5, .string z, .string z, .string z])) (fun av wv hE hS hO hD => ?_) (fun _ => rfl)
    have h2 : av.eval (.tmp 2) = (.pointer (some ⟨hb, 0, none⟩)) := hO.2.2 2 rfl
    have f2 := (ev_form av 2).symm.trans h2
    have d101 : av.eval (.tmp 101) = (.bool true) := hD.1 rfl _ rfl
    have f101 := (ev_form av 101).symm.trans d101
    have c0 := extB_cell hE (by simp) c0
    have c1 := extB_cell hE (by simp) c1
    have c2 := extB_cell hE (by simp) c2
    have c3 := extB_cell hE (by simp) c3
    refine ⟨(wanted_of (d := 101) (b := true) (want := true) rfl rfl rfl d101), ?_⟩
    simp [go_sem, f2, f101, c0, c1, c2, c3, sa, sb]
  case s22 =>
    refine step_val (v := (.string z)) (fun av wv hE hS hO hD => ?_) (fun _ => rfl)
    have h1 : av.eval (.tmp 1) = (.string z) := hO.2.2 1 rfl
    have f1 := (ev_form av 1).symm.trans h1
    have d101 : av.eval (.tmp 101) = (.bool true) := hD.1 rfl _ rfl
    have f101 := (ev_form av 101).symm.trans d101
    refine ⟨(wanted_of (d := 101) (b := true) (want := true) rfl rfl rfl d101), ?_⟩
    simp [go_sem, f1, f101, sa, sb]
  case s23 =>
    refine step_wp (fun av wv hE hS hO hD => ?_)
    have d103 : av.eval (.tmp 103) = (.string z) := hD.1 rfl _ rfl
    have f103 := (ev_form av 103).symm.trans d103
    have d101 : av.eval (.tmp 101) = (.bool true) := hD.2.1 rfl _ rfl
    have f101 := (ev_form av 101).symm.trans d101
    refine ⟨(wanted_of (d := 101) (b := true) (want := true) rfl rfl rfl d101), ?_⟩
    refine wp_of_call (v := .agg #[.int .u64 6, .string z, .string z, .string z]) (by simp [go_sem, f103]) (HA6.out wv) (fun w2 hb => ⟨_, rfl, es_of_ext hb, rfl⟩)
  case s24 =>
    refine step_wp (fun av wv hE hS hO hD => ?_)
    have d102 : av.eval (.tmp 102) = (.agg #[.int .u64 5, .string z, .string z, .string z]) := hD.1 rfl _ rfl
    have f102 := (ev_form av 102).symm.trans d102
    have d104 : av.eval (.tmp 104) = (.agg #[.int .u64 6, .string z, .string z, .string z]) := hD.2.1 rfl _ rfl
    have f104 := (ev_form av 104).symm.trans d104
    have d101 : av.eval (.tmp 101) = (.bool true) := hD.2.2.1 rfl _ rfl
    have f101 := (ev_form av 101).symm.trans d101
    refine ⟨(wanted_of (d := 101) (b := true) (want := true) rfl rfl rfl d101), ?_⟩
    exact wp_of_run (v := .slice (some ⟨wv.heap.size, 0, none⟩) 2 2) (w' := wv.alloc (.cells #[.int .u64 5, .string z, .string z, .string z, .int .u64 6, .string z, .string z, .string z] 33)) (by simp [go_sem, f102, f104]) ⟨_, rfl, es_of_ext (balloc (Ext_refl _) _), wv.heap.size, rfl, heap_alloc_new _ _⟩
  case s25 =>
    refine step_wp (fun av wv hE hS hO hD => ?_)
    have d105 : (fun u w' => ∃ b, u = .slice (some ⟨b, 0, none⟩) 2 2 ∧ w'.heap[b]? = some (.cells #[.int .u64 5, .string z, .string z, .string z, .int .u64 6, .string z, .string z, .string z] 33 (0, 0))) (av.eval (.tmp 105)) wv := hD.1 rfl _ rfl
    have d101 : av.eval (.tmp 101) = (.bool true) := hD.2.2.1 rfl _ rfl
    have f101 := (ev_form av 101).symm.trans d101
    refine ⟨(wanted_of (d := 101) (b := true) (want := true) rfl rfl rfl d101), ?_⟩
    obtain ⟨bq, hq, hcq⟩ := d105
    have fq := (ev_form av 105).symm.trans hq
    refine wp_of_call (v := .bool false) (by simp [go_sem, fq]; rfl) (HL2.out wv bq (of_drew hE) hcq) (fun w2 hb => ⟨_, rfl, es_of_ext hb, rfl⟩)
  case s26 =>
    refine step_val (v := (.bool true)) (fun av wv hE hS hO hD => ?_) (fun _ => rfl)
    have d106 : av.eval (.tmp 106) = (.bool false) := hD.1 rfl _ rfl
    have f106 := (ev_form av 106).symm.trans d106
    have d101 : av.eval (.tmp 101) = (.bool true) := hD.2.1 rfl _ rfl
    have f101 := (ev_form av 101).symm.trans d101
    refine ⟨(wanted_of (d := 101) (b := true) (want := true) rfl rfl rfl d101), ?_⟩
    simp [go_sem, f106, f101, sa, sb]
  case s27 =>
    refine step_val (v := (.bool true)) (fun av wv hE hS hO hD => ?_) (fun _ => rfl)
    have d101 : av.eval (.tmp 101) = (.bool true) := hD.1 rfl _ rfl
    have f101 := (ev_form av 101).symm.trans d101
    have d107 : av.eval (.tmp 107) = (.bool true) := hD.2.1 rfl _ rfl
    have f107 := (ev_form av 107).symm.trans d107
    refine ⟨rfl, ?_⟩
    simp [go_sem, f101, f107, sa, sb]
  case s28 =>
    refine step_val (v := (.bool true)) (fun av wv hE hS hO hD => ?_) (fun _ => rfl)
    have d108 : av.eval (.tmp 108) = (.bool true) := hD.1 rfl _ rfl
    have f108 := (ev_form av 108).symm.trans d108
    refine ⟨rfl, ?_⟩
    simp [go_sem, f108, sa, sb]
  case s29 =>
    refine step_val (v := (.agg #[.int .u64 5, .string z, .string z, .string z])) (fun av wv hE hS hO hD => ?_) (fun _ => rfl)
    have h2 : av.eval (.tmp 2) = (.pointer (some ⟨hb, 0, none⟩)) := hO.2.2 2 rfl
    have f2 := (ev_form av 2).symm.trans h2
    have d109 : av.eval (.tmp 109) = (.bool true) := hD.1 rfl _ rfl
    have f109 := (ev_form av 109).symm.trans d109
    have c0 := extB_cell hE (by simp) c0
    have c1 := extB_cell hE (by simp) c1
    have c2 := extB_cell hE (by simp) c2
    have c3 := extB_cell hE (by simp) c3
    refine ⟨(wanted_of (d := 109) (b := true) (want := true) rfl rfl rfl d109), ?_⟩
    simp [go_sem, f2, f109, c0, c1, c2, c3, sa, sb]
  case s30 =>
    refine step_val (v := (.string d)) (fun av wv hE hS hO hD => ?_) (fun _ => rfl)
    have h5 : av.eval (.tmp 5) = (.string d) := hO.2.2 5 rfl
    have f5 := (ev_form av 5).symm.trans h5
    have d109 : av.eval (.tmp 109) = (.bool true) := hD.1 rfl _ rfl
    have f109 := (ev_form av 109).symm.trans d109
    refine ⟨(wanted_of (d := 109) (b := true) (want := true) rfl rfl rfl d109), ?_⟩
    simp [go_sem, f5, f109, sa, sb]
  case s31 =>
    refine step_wp (fun av wv hE hS hO hD => ?_)
    have d111 : av.eval (.tmp 111) = (.string d) := hD.1 rfl _ rfl
    have f111 := (ev_form av 111).symm.trans d111
    have d109 : av.eval (.tmp 109) = (.bool true) := hD.2.1 rfl _ rfl
    have f109 := (ev_form av 109).symm.trans d109
    refine ⟨(wanted_of (d := 109) (b := true) (want := true) rfl rfl rfl d109), ?_⟩
    refine wp_of_call (v := .agg #[.int .u64 6, .string d, .string z, .string z]) (by simp [go_sem, f111]) (HD6.out wv) (fun w2 hb => ⟨_, rfl, es_of_ext hb, rfl⟩)
  case s32 =>
    refine step_wp (fun av wv hE hS hO hD => ?_)
    have d110 : av.eval (.tmp 110) = (.agg #[.int .u64 5, .string z, .string z, .string z]) := hD.1 rfl _ rfl
    have f110 := (ev_form av 110).symm.trans d110
    have d112 : av.eval (.tmp 112) = (.agg #[.int .u64 6, .string d, .string z, .string z]) := hD.2.1 rfl _ rfl
    have f112 := (ev_form av 112).symm.trans d112
    have d109 : av.eval (.tmp 109) = (.bool true) := hD.2.2.1 rfl _ rfl
    have f109 := (ev_form av 109).symm.trans d109
    refine ⟨(wanted_of (d := 109) (b := true) (want := true) rfl rfl rfl d109), ?_⟩
    exact wp_of_run (v := .slice (some ⟨wv.heap.size, 0, none⟩) 2 2) (w' := wv.alloc (.cells #[.int .u64 5, .string z, .string z, .string z, .int .u64 6, .string d, .string z, .string z] 33)) (by simp [go_sem, f110, f112]) ⟨_, rfl, es_of_ext (balloc (Ext_refl _) _), wv.heap.size, rfl, heap_alloc_new _ _⟩
  case s33 =>
    refine step_wp (fun av wv hE hS hO hD => ?_)
    have d113 : (fun u w' => ∃ b, u = .slice (some ⟨b, 0, none⟩) 2 2 ∧ w'.heap[b]? = some (.cells #[.int .u64 5, .string z, .string z, .string z, .int .u64 6, .string d, .string z, .string z] 33 (0, 0))) (av.eval (.tmp 113)) wv := hD.1 rfl _ rfl
    have d109 : av.eval (.tmp 109) = (.bool true) := hD.2.2.1 rfl _ rfl
    have f109 := (ev_form av 109).symm.trans d109
    refine ⟨(wanted_of (d := 109) (b := true) (want := true) rfl rfl rfl d109), ?_⟩
    obtain ⟨bq, hq, hcq⟩ := d113
    have fq := (ev_form av 113).symm.trans hq
    refine wp_of_call (v := .bool true) (by simp [go_sem, fq]; rfl) (HL3.out wv bq (of_drew hE) hcq) (fun w2 hb => ⟨_, rfl, es_of_ext hb, rfl⟩)
  case s34 =>
    refine step_val (v := (.bool true)) (fun av wv hE hS hO hD => ?_) (fun _ => rfl)
    have d109 : av.eval (.tmp 109) = (.bool true) := hD.1 rfl _ rfl
    have f109 := (ev_form av 109).symm.trans d109
    have d114 : av.eval (.tmp 114) = (.bool true) := hD.2.1 rfl _ rfl
    have f114 := (ev_form av 114).symm.trans d114
    refine ⟨rfl, ?_⟩
    simp [go_sem, f109, f114, sa, sb]
  case s35 =>
    refine step_val (v := (.bool true)) (fun av wv hE hS hO hD => ?_) (fun _ => rfl)
    have d115 : av.eval (.tmp 115) = (.bool true) := hD.1 rfl _ rfl
    have f115 := (ev_form av 115).symm.trans d115
    refine ⟨rfl, ?_⟩
    simp [go_sem, f115, sa, sb]
  case s36 =>
    refine step_val (v := (.int .i64 0)) (fun av wv hE hS hO hD => ?_) (fun _ => rfl)
    have h10 : av.eval (.tmp 10) = (.int .i64 0) := hO.2.2 10 rfl
    have f10 := (ev_form av 10).symm.trans h10
    have d116 : av.eval (.tmp 116) = (.bool true) := hD.1 rfl _ rfl
    have f116 := (ev_form av 116).symm.trans d116
    refine ⟨(wanted_of (d := 116) (b := true) (want := true) rfl rfl rfl d116), ?_⟩
    simp [go_sem, f10, f116, sa, sb]
  case s37 =>
    refine step_val (v := (.bool true)) (fun av wv hE hS hO hD => ?_) (fun _ => rfl)
    have d117 : av.eval (.tmp 117) = (.int .i64 0) := hD.1 rfl _ rfl
    have f117 := (ev_form av 117).symm.trans d117
    have d116 : av.eval (.tmp 116) = (.bool true) := hD.2.1 rfl _ rfl
    have f116 := (ev_form av 116).symm.trans d116
    refine ⟨(wanted_of (d := 116) (b := true) (want := true) rfl rfl rfl d116), ?_⟩
    simp [go_sem, f117, f116, sa, sb]
  case s38 =>
    refine step_val (v := (.bool true)) (fun av wv hE hS hO hD => ?_) (fun _ => rfl)
    have d116 : av.eval (.tmp 116) = (.bool true) := hD.1 rfl _ rfl
    have f116 := (ev_form av 116).symm.trans d116
    have d118 : av.eval (.tmp 118) = (.bool true) := hD.2.1 rfl _ rfl
    have f118 := (ev_form av 118).symm.trans d118
    refine ⟨rfl, ?_⟩
    simp [go_sem, f116, f118, sa, sb]
  case s39 =>
    refine step_val (v := (.bool true)) (fun av wv hE hS hO hD => ?_) (fun _ => rfl)
    have d119 : av.eval (.tmp 119) = (.bool true) := hD.1 rfl _ rfl
    have f119 := (ev_form av 119).symm.trans d119
    refine ⟨rfl, ?_⟩
    simp [go_sem, f119, sa, sb]
  case s40 =>
    refine step_val (v := (.string ta)) (fun av wv hE hS hO hD => ?_) (fun _ => rfl)
    have h9 : av.eval (.tmp 9) = (.string ta) := hO.2.2 9 rfl
    have f9 := (ev_form av 9).symm.trans h9
    have d120 : av.eval (.tmp 120) = (.bool true) := hD.1 rfl _ rfl
    have f120 := (ev_form av 120).symm.trans d120
    refine ⟨(wanted_of (d := 120) (b := true) (want := true) rfl rfl rfl d120), ?_⟩
    simp [go_sem, f9, f120, sa, sb]
  case s41 =>
    refine step_wp (fun av wv hE hS hO hD => ?_)
    have d120 : av.eval (.tmp 120) = (.bool true) := hD.1 rfl _ rfl
    have f120 := (ev_form av 120).symm.trans d120
    refine ⟨(wanted_of (d := 120) (b := true) (want := true) rfl rfl rfl d120), ?_⟩
    refine wp_of_call (v := .string ta) (by simp [go_sem]; rfl) (HNO.out wv) (fun w2 hb => ⟨_, rfl, es_of_ext hb, rfl⟩)
  case s42 =>
    refine step_val (v := (.bool true)) (fun av wv hE hS hO hD => ?_) (fun _ => rfl)
    have d121 : av.eval (.tmp 121) = (.string ta) := hD.1 rfl _ rfl
    have f121 := (ev_form av 121).symm.trans d121
    have d122 : av.eval (.tmp 122) = (.string ta) := hD.2.1 rfl _ rfl
    have f122 := (ev_form av 122).symm.trans d122
    have d120 : av.eval (.tmp 120) = (.bool true) := hD.2.2.1 rfl _ rfl
    have f120 := (ev_form av 120).symm.trans d120
    refine ⟨(wanted_of (d := 120) (b := true) (want := true) rfl rfl rfl d120), ?_⟩
    simp [go_sem, f121, f122, f120, sa, sb]
  case s43 =>
    refine step_val (v := (.bool true)) (fun av wv hE hS hO hD => ?_) (fun _ => rfl)
    have d120 : av.eval (.tmp 120) = (.bool true) := hD.1 rfl _ rfl
    have f120 := (ev_form av 120).symm.trans d120
    have d123 : av.eval (.tmp 123) = (.bool true) := hD.2.1 rfl _ rfl
    have f123 := (ev_form av 123).symm.trans d123
    refine ⟨rfl, ?_⟩
    simp [go_sem, f120, f123, sa, sb]
  case s44 =>
    refine step_val (v := (.bool true)) (fun av wv hE hS hO hD => ?_) (fun _ => rfl)
    have d124 : av.eval (.tmp 124) = (.bool true) := hD.1 rfl _ rfl
    have f124 := (ev_form av 124).symm.trans d124
    refine ⟨rfl, ?_⟩
    simp [go_sem, f124, sa, sb]
  case s45 =>
    refine step_val (v := (.int .i64 0)) (fun av wv hE hS hO hD => ?_) (fun _ => rfl)
    have h12 : av.eval (.tmp 12) = (.int .i64 0) := hO.2.2 12 rfl
    have f12 := (ev_form av 12).symm.trans h12
    have d125 : av.eval (.tmp 125) = (.bool true) := hD.1 rfl _ rfl
    have f125 := (ev_form av 125).symm.trans d125
    refine ⟨(wanted_of (d := 125) (b := true) (want := true) rfl rfl rfl d125), ?_⟩
    simp [go_sem, f12, f125, sa, sb]
  case s46 =>
    refine step_val (v := (.bool true)) (fun av wv hE hS hO hD => ?_) (fun _ => rfl)
    have d126 : av.eval (.tmp 126) = (.int .i64 0) := hD.1 rfl _ rfl
    have f126 := (ev_form av 126).symm.trans d126
    have d125 : av.eval (.tmp 125) = (.bool true) := hD.2.1 rfl _ rfl
    have f125 := (ev_form av 125).symm.trans d125
    refine ⟨(wanted_of (d := 125) (b := true) (want := true) rfl rfl rfl d125), ?_⟩
    simp [go_sem, f126, f125, sa, sb]
  case s47 =>
    refine step_val (v := (.bool true)) (fun av wv hE hS hO hD => ?_) (fun _ => rfl)
    have d125 : av.eval (.tmp 125) = (.bool true) := hD.1 rfl _ rfl
    have f125 := (ev_form av 125).symm.trans d125
    have d127 : av.eval (.tmp 127) = (.bool true) := hD.2.1 rfl _ rfl
    have f127 := (ev_form av 127).symm.trans d127
    refine ⟨rfl, ?_⟩
    simp [go_sem, f125, f127, sa, sb]
  case s48 =>
    refine step_val (v := (.bool true)) (fun av wv hE hS hO hD => ?_) (fun _ => rfl)
    have d128 : av.eval (.tmp 128) = (.bool true) := hD.1 rfl _ rfl
    have f128 := (ev_form av 128).symm.trans d128
    refine ⟨rfl, ?_⟩
    simp [go_sem, f128, sa, sb]
  case s49 =>
    refine step_val (v := (.string tb)) (fun av wv hE hS hO hD => ?_) (fun _ => rfl)
    have h11 : av.eval (.tmp 11) = (.string tb) := hO.2.2 11 rfl
    have f11 := (ev_form av 11).symm.trans h11
    have d129 : av.eval (.tmp 129) = (.bool true) := hD.1 rfl _ rfl
    have f129 := (ev_form av 129).symm.trans d129
    refine ⟨(wanted_of (d := 129) (b := true) (want := true) rfl rfl rfl d129), ?_⟩
    simp [go_sem, f11, f129, sa, sb]
  case s50 =>
    refine step_val (v := (.pointer (some ⟨tp, 0, none⟩))) (fun av wv hE hS hO hD => ?_) (fun _ => rfl)
    have h15 : av.eval (.tmp 15) = (.pointer (some ⟨tp, 0, none⟩)) := hO.2.2 15 rfl
    have f15 := (ev_form av 15).symm.trans h15
    have d129 : av.eval (.tmp 129) = (.bool true) := hD.1 rfl _ rfl
    have f129 := (ev_form av 129).symm.trans d129
    refine ⟨(wanted_of (d := 129) (b := true) (want := true) rfl rfl rfl d129), ?_⟩
    simp [go_sem, f15, f129, sa, sb]
  case s51 =>
    refine step_wp (fun av wv hE hS hO hD => ?_)
    have d131 : av.eval (.tmp 131) = (.pointer (some ⟨tp, 0, none⟩)) := hD.1 rfl _ rfl
    have f131 := (ev_form av 131).symm.trans d131
    have d129 : av.eval (.tmp 129) = (.bool true) := hD.2.1 rfl _ rfl
    have f129 := (ev_form av 129).symm.trans d129
    refine ⟨(wanted_of (d := 129) (b := true) (want := true) rfl rfl rfl d129), ?_⟩
    refine wp_of_call (v := .string tb) (by simp [go_sem, f131]) (HRT.out wv (of_drew hE)) (fun w2 hb => ⟨_, rfl, es_of_ext hb, rfl⟩)
  case s52 =>
    refine step_val (v := (.bool true)) (fun av wv hE hS hO hD => ?_) (fun _ => rfl)
    have d130 : av.eval (.tmp 130) = (.string tb) := hD.1 rfl _ rfl
    have f130 := (ev_form av 130).symm.trans d130
    have d132 : av.eval (.tmp 132) = (.string tb) := hD.2.1 rfl _ rfl
    have f132 := (ev_form av 132).symm.trans d132
    have d129 : av.eval (.tmp 129) = (.bool true) := hD.2.2.1 rfl _ rfl
    have f129 := (ev_form av 129).symm.trans d129
    refine ⟨(wanted_of (d := 129) (b := true) (want := true) rfl rfl rfl d129), ?_⟩
    simp [go_sem, f130, f132, f129, sa, sb]
  case s53 =>
    refine step_val (v := (.bool true)) (fun av wv hE hS hO hD => ?_) (fun _ => rfl)
    have d129 : av.eval (.tmp 129) = (.bool true) := hD.1 rfl _ rfl
    have f129 := (ev_form av 129).symm.trans d129
    have d133 : av.eval (.tmp 133) = (.bool true) := hD.2.1 rfl _ rfl
    have f133 := (ev_form av 133).symm.trans d133
    refine ⟨rfl, ?_⟩
    simp [go_sem, f129, f133, sa, sb]
  case s54 =>
    refine step_val (v := (.bool true)) (fun av wv hE hS hO hD => ?_) (fun _ => rfl)
    have d134 : av.eval (.tmp 134) = (.bool true) := hD.1 rfl _ rfl
    have f134 := (ev_form av 134).symm.trans d134
    refine ⟨rfl, ?_⟩
    simp [go_sem, f134, sa, sb]
  case s55 =>
    refine step_val (v := (.int .i64 2)) (fun av wv hE hS hO hD => ?_) (fun _ => rfl)
    have h14 : av.eval (.tmp 14) = (.int .i64 2) := hO.2.2 14 rfl
    have f14 := (ev_form av 14).symm.trans h14
    have d135 : av.eval (.tmp 135) = (.bool true) := hD.1 rfl _ rfl
    have f135 := (ev_form av 135).symm.trans d135
    refine ⟨(wanted_of (d := 135) (b := true) (want := true) rfl rfl rfl d135), ?_⟩
    simp [go_sem, f14, f135, sa, sb]
  case s56 =>
    refine step_val (v := (.bool true)) (fun av wv hE hS hO hD => ?_) (fun _ => rfl)
    have d136 : av.eval (.tmp 136) = (.int .i64 2) := hD.1 rfl _ rfl
    have f136 := (ev_form av 136).symm.trans d136
    have d135 : av.eval (.tmp 135) = (.bool true) := hD.2.1 rfl _ rfl
    have f135 := (ev_form av 135).symm.trans d135
    refine ⟨(wanted_of (d := 135) (b := true) (want := true) rfl rfl rfl d135), ?_⟩
    simp [go_sem, f136, f135, sa, sb]
  case s57 =>
    refine step_val (v := (.bool true)) (fun av wv hE hS hO hD => ?_) (fun _ => rfl)
    have d135 : av.eval (.tmp 135) = (.bool true) := hD.1 rfl _ rfl
    have f135 := (ev_form av 135).symm.trans d135
    have d137 : av.eval (.tmp 137) = (.bool true) := hD.2.1 rfl _ rfl
    have f137 := (ev_form av 137).symm.trans d137
    refine ⟨rfl, ?_⟩
    simp [go_sem, f135, f137, sa, sb]
  case s58 =>
    refine step_val (v := (.bool true)) (fun av wv hE hS hO hD => ?_) (fun _ => rfl)
    have d138 : av.eval (.tmp 138) = (.bool true) := hD.1 rfl _ rfl
    have f138 := (ev_form av 138).symm.trans d138
    refine ⟨rfl, ?_⟩
    simp [go_sem, f138, sa, sb]
  intro a' w' hE hO hall
  have hA := act_of_outer (ds := [81, 82, 83, 84, 85, 86, 87, 88, 89, 90, 91, 92, 93, 94, 95, 96, 97, 98, 99, 100, 101, 102, 103, 104, 105, 106, 107, 108, 109, 110, 111, 112, 113, 114, 115, 116, 117, 118, 119, 120, 121, 122, 123, 124, 125, 126, 127, 128, 129, 130, 131, 132, 133, 134, 135, 136, 137, 138, 0]) rfl hO (by kernel_rfl)
  have e81 : (fun u _ => u = (.bool true)) (a'.eval (.tmp 81)) w' := hall.1 _ rfl
  have e82 : (fun u _ => u = (.bool true)) (a'.eval (.tmp 82)) w' := hall.2.1 _ rfl
  have e83 : (fun u _ => u = (.agg #[.int .u64 5, .string z, .string z, .string z])) (a'.eval (.tmp 83)) w' := hall.2.2.1 _ rfl
  have e84 : (fun u _ => u = (.string z)) (a'.eval (.tmp 84)) w' := hall.2.2.2.1 _ rfl
  have e85 : (fun u _ => u = (.agg #[.int .u64 7, .string z, .string z, .string z])) (a'.eval (.tmp 85)) w' := hall.2.2.2.2.1 _ rfl
  have e86 : (fun u w' => ∃ b, u = .slice (some ⟨b, 0, none⟩) 2 2 ∧ w'.heap[b]? = some (.cells #[.int .u64 5, .string z, .string z, .string z, .int .u64 7, .string z, .string z, .string z] 33 (0, 0))) (a'.eval (.tmp 86)) w' := hall.2.2.2.2.2.1 _ rfl
  have e87 : (fun u _ => u = (.bool true)) (a'.eval (.tmp 87)) w' := hall.2.2.2.2.2.2.1 _ rfl
  have e88 : (fun u _ => u = (.bool true)) (a'.eval (.tmp 88)) w' := hall.2.2.2.2.2.2.2.1 _ rfl
  have e89 : (fun u _ => u = (.bool true)) (a'.eval (.tmp 89)) w' := hall.2.2.2.2.2.2.2.2.1 _ rfl
  have e90 : (fun u _ => u = (.agg #[.int .u64 5, .string z, .string z, .string z])) (a'.eval (.tmp 90)) w' := hall.2.2.2.2.2.2.2.2.2.1 _ rfl
  have e91 : (fun u _ => u = (.string z)) (a'.eval (.tmp 91)) w' := hall.2.2.2.2.2.2.2.2.2.2.1 _ rfl
  have e92 : (fun u _ => u = (.agg #[.int .u64 5, .string z, .string z, .string z])) (a'.eval (.tmp 92)) w' := hall.2.2.2.2.2.2.2.2.2.2.2.1 _ rfl
  have e93 : (fun u w' => ∃ b, u = .slice (some ⟨b, 0, none⟩) 2 2 ∧ w'.heap[b]? = some (.cells #[.int .u64 5, .string z, .string z, .string z, .int .u64 5, .string z, .string z, .string z] 33 (0, 0))) (a'.eval (.tmp 93)) w' := hall.2.2.2.2.2.2.2.2.2.2.2.2.1 _ rfl
  have e94 : (fun u _ => u = (.bool true)) (a'.eval (.tmp 94)) w' := hall.2.2.2.2.2.2.2.2.2.2.2.2.2.1 _ rfl
  have e95 : (fun u _ => u = (.bool true)) (a'.eval (.tmp 95)) w' := hall.2.2.2.2.2.2.2.2.2.2.2.2.2.2.1 _ rfl
  have e96 : (fun u _ => u = (.bool true)) (a'.eval (.tmp 96)) w' := hall.2.2.2.2.2.2.2.2.2.2.2.2.2.2.2.1 _ rfl
  have e97 : (fun u _ => u = (.agg #[.int .u64 5, .string z, .string z, .string z])) (a'.eval (.tmp 97)) w' := hall.2.2.2.2.2.2.2.2.2.2.2.2.2.2.2.2.1 _ rfl
  have e98 : (fun u w' => ∃ b, u = .slice (some ⟨b, 0, none⟩) 1 1 ∧ w'.heap[b]? = some (.cells #[.int .u64 5, .string z, .string z, .string z] 33 (0, 0))) (a'.eval (.tmp 98)) w' := hall.2.2.2.2.2.2.2.2.2.2.2.2.2.2.2.2.2.1 _ rfl
  have e99 : (fun u _ => u = (.bool true)) (a'.eval (.tmp 99)) w' := hall.2.2.2.2.2.2.2.2.2.2.2.2.2.2.2.2.2.2.1 _ rfl
  have e100 : (fun u _ => u = (.bool true)) (a'.eval (.tmp 100)) w' := hall.2.2.2.2.2.2.2.2.2.2.2.2.2.2.2.2.2.2.2.1 _ rfl
  have e101 : (fun u _ => u = (.bool true)) (a'.eval (.tmp 101)) w' := hall.2.2.2.2.2.2.2.2.2.2.2.2.2.2.2.2.2.2.2.2.1 _ rfl
  have e102 : (fun u _ => u = (.agg #[.int .u64 5, .string z, .string z, .string z])) (a'.eval (.tmp 102)) w' := hall.2.2.2.2.2.2.2.2.2.2.2.2.2.2.2.2.2.2.2.2.2.1 _ rfl
  have e103 : (fun u _ => u = (.string z)) (a'.eval (.tmp 103)) w' := hall.2.2.2.2.2.2.2.2.2.2.2.2.2.2.2.2.2.2.2.2.2.2.1 _ rfl
  have e104 : (fun u _ => u = (.agg #[.int .u64 6, .string z, .string z, .string z])) (a'.eval (.tmp 104)) w' := hall.2.2.2.2.2.2.2.2.2.2.2.2.2.2.2.2.2.2.2.2.2.2.2.1 _ rfl
  have e105 : (fun u w' => ∃ b, u = .slice (some ⟨b, 0, none⟩) 2 2 ∧ w'.heap[b]? = some (.cells #[.int .u64 5, .string z, .string z, .string z, .int .u64 6, .string z, .string z, .string z] 33 (0, 0))) (a'.eval (.tmp 105)) w' := hall.2.2.2.2.2.2.2.2.2.2.2.2.2.2.2.2.2.2.2.2.2.2.2.2.1 _ rfl
  have e106 : (fun u _ => u = (.bool false)) (a'.eval (.tmp 106)) w' := hall.2.2.2.2.2.2.2.2.2.2.2.2.2.2.2.2.2.2.2.2.2.2.2.2.2.1 _ rfl
  have e107 : (fun u _ => u = (.bool true)) (a'.eval (.tmp 107)) w' := hall.2.2.2.2.2.2.2.2.2.2.2.2.2.2.2.2.2.2.2.2.2.2.2.2.2.2.1 _ rfl
  have e108 : (fun u _ => u = (.bool true)) (a'.eval (.tmp 108)) w' := hall.2.2.2.2.2.2.2.2.2.2.2.2.2.2.2.2.2.2.2.2.2.2.2.2.2.2.2.1 _ rfl
  have e109 : (fun u _ => u = (.bool true)) (a'.eval (.tmp 109)) w' := hall.2.2.2.2.2.2.2.2.2.2.2.2.2.2.2.2.2.2.2.2.2.2.2.2.2.2.2.2.1 _ rfl
  have e110 : (fun u _ => u = (.agg #[.int .u64 5, .string z, .string z, .string z])) (a'.eval (.tmp 110)) w' := hall.2.2.2.2.2.2.2.2.2.2.2.2.2.2.2.2.2.2.2.2.2.2.2.2.2.2.2.2.2.1 _ rfl
  have e111 : (fun u _ => u = (.string d)) (a'.eval (.tmp 111)) w' := hall.2.2.2.2.2.2.2.2.2.2.2.2.2.2.2.2.2.2.2.2.2.2.2.2.2.2.2.2.2.2.1 _ rfl
  have e112 : (fun u _ => u = (.agg #[.int .u64 6, .string d, .string z, .string z])) (a'.eval (.tmp 112)) w' := hall.2.2.2.2.2.2.2.2.2.2.2.2.2.2.2.2.2.2.2.2.2.2.2.2.2.2.2.2.2.2.2.1 _ rfl
  have e113 : (fun u w' => ∃ b, u = .slice (some ⟨b, 0, none⟩) 2 2 ∧ w'.heap[b]? = some (.cells #[.int .u64 5, .string z, .string z, .string z, .int .u64 6, .string d, .string z, .string z] 33 (0, 0))) (a'.eval (.tmp 113)) w' := hall.2.2.2.2.2.2.2.2.2.2.2.2.2.2.2.2.2.2.2.2.2.2.2.2.2.2.2.2.2.2.2.2.1 _ rfl
  have e114 : (fun u _ => u = (.bool true)) (a'.eval (.tmp 114)) w' := hall.2.2.2.2.2.2.2.2.2.2.2.2.2.2.2.2.2.2.2.2.2.2.2.2.2.2.2.2.2.2.2.2.2.1 _ rfl
  have e115 : (fun u _ => u = (.bool true)) (a'.eval (.tmp 115)) w' := hall.2.2.2.2.2.2.2.2.2.2.2.2.2.2.2.2.2.2.2.2.2.2.2.2.2.2.2.2.2.2.2.2.2.2.1 _ rfl
  have e116 : (fun u _ => u = (.bool true)) (a'.eval (.tmp 116)) w' := hall.2.2.2.2.2.2.2.2.2.2.2.2.2.2.2.2.2.2.2.2.2.2.2.2.2.2.2.2.2.2.2.2.2.2.2.1 _ rfl
  have e117 : (fun u _ => u = (.int .i64 0)) (a'.eval (.tmp 117)) w' := hall.2.2.2.2.2.2.2.2.2.2.2.2.2.2.2.2.2.2.2.2.2.2.2.2.2.2.2.2.2.2.2.2.2.2.2.2.1 _ rfl
  have e118 : (fun u _ => u = (.bool true)) (a'.eval (.tmp 118)) w' := hall.2.2.2.2.2.2.2.2.2.2.2.2.2.2.2.2.2.2.2.2.2.2.2.2.2.2.2.2.2.2.2.2.2.2.2.2.2.1 _ rfl
  have e119 : (fun u _ => u = (.bool true)) (a'.eval (.tmp 119)) w' := hall.2.2.2.2.2.2.2.2.2.2.2.2.2.2.2.2.2.2.2.2.2.2.2.2.2.2.2.2.2.2.2.2.2.2.2.2.2.2.1 _ rfl
  have e120 : (fun u _ => u = (.bool true)) (a'.eval (.tmp 120)) w' := hall.2.2.2.2.2.2.2.2.2.2.2.2.2.2.2.2.2.2.2.2.2.2.2.2.2.2.2.2.2.2.2.2.2.2.2.2.2.2.2.1 _ rfl
  have e121 : (fun u _ => u = (.string ta)) (a'.eval (.tmp 121)) w' := hall.2.2.2.2.2.2.2.2.2.2.2.2.2.2.2.2.2.2.2.2.2.2.2.2.2.2.2.2.2.2.2.2.2.2.2.2.2.2.2.2.1 _ rfl
  have e122 : (fun u _ => u = (.string ta)) (a'.eval (.tmp 122)) w' := hall.2.2.2.2.2.2.2.2.2.2.2.2.2.2.2.2.2.2.2.2.2.2.2.2.2.2.2.2.2.2.2.2.2.2.2.2.2.2.2.2.2.1 _ rfl
  have e123 : (fun u _ => u = (.bool true)) (a'.eval (.tmp 123)) w' := hall.2.2.2.2.2.2.2.2.2.2.2.2.2.2.2.2.2.2.2.2.2.2.2.2.2.2.2.2.2.2.2.2.2.2.2.2.2.2.2.2.2.2.1 _ rfl
  have e124 : (fun u _ => u = (.bool true)) (a'.eval (.tmp 124)) w' := hall.2.2.2.2.2.2.2.2.2.2.2.2.2.2.2.2.2.2.2.2.2.2.2.2.2.2.2.2.2.2.2.2.2.2.2.2.2.2.2.2.2.2.2.1 _ rfl
  have e125 : (fun u _ => u = (.bool true)) (a'.eval (.tmp 125)) w' := hall.2.2.2.2.2.2.2.2.2.2.2.2.2.2.2.2.2.2.2.2.2.2.2.2.2.2.2.2.2.2.2.2.2.2.2.2.2.2.2.2.2.2.2.2.1 _ rfl
  have e126 : (fun u _ => u = (.int .i64 0)) (a'.eval (.tmp 126)) w' := hall.2.2.2.2.2.2.2.2.2.2.2.2.2.2.2.2.2.2.2.2.2.2.2.2.2.2.2.2.2.2.2.2.2.2.2.2.2.2.2.2.2.2.2.2.2.1 _ rfl
  have e127 : (fun u _ => u = (.bool true)) (a'.eval (.tmp 127)) w' := hall.2.2.2.2.2.2.2.2.2.2.2.2.2.2.2.2.2.2.2.2.2.2.2.2.2.2.2.2.2.2.2.2.2.2.2.2.2.2.2.2.2.2.2.2.2.2.1 _ rfl
  have e128 : (fun u _ => u = (.bool true)) (a'.eval (.tmp 128)) w' := hall.2.2.2.2.2.2.2.2.2.2.2.2.2.2.2.2.2.2.2.2.2.2.2.2.2.2.2.2.2.2.2.2.2.2.2.2.2.2.2.2.2.2.2.2.2.2.2.1 _ rfl
  have e129 : (fun u _ => u = (.bool true)) (a'.eval (.tmp 129)) w' := hall.2.2.2.2.2.2.2.2.2.2.2.2.2.2.2.2.2.2.2.2.2.2.2.2.2.2.2.2.2.2.2.2.2.2.2.2.2.2.2.2.2.2.2.2.2.2.2.2.1 _ rfl
  have e130 : (fun u _ => u = (.string tb)) (a'.eval (.tmp 130)) w' := hall.2.2.2.2.2.2.2.2.2.2.2.2.2.2.2.2.2.2.2.2.2.2.2.2.2.2.2.2.2.2.2.2.2.2.2.2.2.2.2.2.2.2.2.2.2.2.2.2.2.1 _ rfl
  have e131 : (fun u _ => u = (.pointer (some ⟨tp, 0, none⟩))) (a'.eval (.tmp 131)) w' := hall.2.2.2.2.2.2.2.2.2.2.2.2.2.2.2.2.2.2.2.2.2.2.2.2.2.2.2.2.2.2.2.2.2.2.2.2.2.2.2.2.2.2.2.2.2.2.2.2.2.2.1 _ rfl
  have e132 : (fun u _ => u = (.string tb)) (a'.eval (.tmp 132)) w' := hall.2.2.2.2.2.2.2.2.2.2.2.2.2.2.2.2.2.2.2.2.2.2.2.2.2.2.2.2.2.2.2.2.2.2.2.2.2.2.2.2.2.2.2.2.2.2.2.2.2.2.2.1 _ rfl
  have e133 : (fun u _ => u = (.bool true)) (a'.eval (.tmp 133)) w' := hall.2.2.2.2.2.2.2.2.2.2.2.2.2.2.2.2.2.2.2.2.2.2.2.2.2.2.2.2.2.2.2.2.2.2.2.2.2.2.2.2.2.2.2.2.2.2.2.2.2.2.2.2.1 _ rfl
  have e134 : (fun u _ => u = (.bool true)) (a'.eval (.tmp 134)) w' := hall.2.2.2.2.2.2.2.2.2.2.2.2.2.2.2.2.2.2.2.2.2.2.2.2.2.2.2.2.2.2.2.2.2.2.2.2.2.2.2.2.2.2.2.2.2.2.2.2.2.2.2.2.2.1 _ rfl
  have e135 : (fun u _ => u = (.bool true)) (a'.eval (.tmp 135)) w' := hall.2.2.2.2.2.2.2.2.2.2.2.2.2.2.2.2.2.2.2.2.2.2.2.2.2.2.2.2.2.2.2.2.2.2.2.2.2.2.2.2.2.2.2.2.2.2.2.2.2.2.2.2.2.2.1 _ rfl
  have e136 : (fun u _ => u = (.int .i64 2)) (a'.eval (.tmp 136)) w' := hall.2.2.2.2.2.2.2.2.2.2.2.2.2.2.2.2.2.2.2.2.2.2.2.2.2.2.2.2.2.2.2.2.2.2.2.2.2.2.2.2.2.2.2.2.2.2.2.2.2.2.2.2.2.2.2.1 _ rfl
  have e137 : (fun u _ => u = (.bool true)) (a'.eval (.tmp 137)) w' := hall.2.2.2.2.2.2.2.2.2.2.2.2.2.2.2.2.2.2.2.2.2.2.2.2.2.2.2.2.2.2.2.2.2.2.2.2.2.2.2.2.2.2.2.2.2.2.2.2.2.2.2.2.2.2.2.2.1 _ rfl
  have e138 : (fun u _ => u = (.bool true)) (a'.eval (.tmp 138)) w' := hall.2.2.2.2.2.2.2.2.2.2.2.2.2.2.2.2.2.2.2.2.2.2.2.2.2.2.2.2.2.2.2.2.2.2.2.2.2.2.2.2.2.2.2.2.2.2.2.2.2.2.2.2.2.2.2.2.2.1 _ rfl
  have e0 : (fun u _ => u = (.bool true)) (a'.eval (.tmp 0)) w' := hall.2.2.2.2.2.2.2.2.2.2.2.2.2.2.2.2.2.2.2.2.2.2.2.2.2.2.2.2.2.2.2.2.2.2.2.2.2.2.2.2.2.2.2.2.2.2.2.2.2.2.2.2.2.2.2.2.2.2.1 _ rfl
  obtain ⟨v86, hv86⟩ : ∃ v, a'.eval (.tmp 86) = v := ⟨_, rfl⟩
  rw [hv86] at e86
  obtain ⟨v93, hv93⟩ : ∃ v, a'.eval (.tmp 93) = v := ⟨_, rfl⟩
  rw [hv93] at e93
  obtain ⟨v98, hv98⟩ : ∃ v, a'.eval (.tmp 98) = v := ⟨_, rfl⟩
  rw [hv98] at e98
  obtain ⟨v105, hv105⟩ : ∃ v, a'.eval (.tmp 105) = v := ⟨_, rfl⟩
  rw [hv105] at e105
  obtain ⟨v113, hv113⟩ : ∃ v, a'.eval (.tmp 113) = v := ⟨_, rfl⟩
  rw [hv113] at e113
  simp only [List.foldl_cons, List.foldl_nil, Act.put, List.setIfInBounds_toArray, List.set_cons_succ, List.set_cons_zero, e81, e82, e83, e84, e85, hv86, e87, e88, e89, e90, e91, e92, hv93, e94, e95, e96, e97, hv98, e99, e100, e101, e102, e103, e104, hv105, e106, e107, e108, e109, e110, e111, e112, hv113, e114, e115, e116, e117, e118, e119, e120, e121, e122, e123, e124, e125, e126, e127, e128, e129, e130, e131, e132, e133, e134, e135, e136, e137, e138, e0] at hA
  clear hO hall e81 e82 e83 e84 e85 hv86 e87 e88 e89 e90 e91 e92 hv93 e94 e95 e96 e97 hv98 e99 e100 e101 e102 e103 e104 hv105 e106 e107 e108 e109 e110 e111 e112 hv113 e114 e115 e116 e117 e118 e119 e120 e121 e122 e123 e124 e125 e126 e127 e128 e129 e130 e131 e132 e133 e134 e135 e136 e137 e138 e0
  subst hA
  have HBE : Hid (Below w.heap.size w w') := Lib.hid (bnext HB11.out (of_drew hE))
  clear hE
  go_wp2
  go_ret
  exact ⟨rfl, HBE.out⟩
end Go.Proofs.YtpobhbdomldecaaGreatDoor
namespace Go.Proofs.YtpobhbdomldecaaGreatDoor
open Go.RowKit
set_option linter.unusedSimpArgs false
set_option linter.unusedVariables false
set_option maxRecDepth 100000 in
set_option maxHeartbeats 8000000 in
theorem txns23_law (B : Nat) (l : List ByteArray) (a : Option Addr) (cap : Nat) (w : World) (ht : PT B w) (hl : Txts w a l) (hn : len l ≤ 9223372036854775807) : Calls Tryz.prog 4 #[.slice a (len l) cap] w fun e w' => e = .returned (.bool true) ∧ Below w.heap.size w w' := by
  have HT := Lib.hid ht
  have HL := Lib.hid hl
  have HN := Lib.hid hn
  obtain ⟨i0, hi, hz0, hz1, hz2⟩ := info_parts info_str
  have HZ := Lib.hid hz0
  clear ht hl hn hz0
  go_enter Tryz.func4, Tryz.ntmps4
  go_wp2
  go_loopg [4, 3] 70 (fun g i v wr => ∃ (m : Nat) (L : List ByteArray), g + m = 70 ∧ i = .int .i64 m ∧ Hid (wr.ownsRow w.heap.size 9 1 v (len L) (L.map Value.string)) ∧ Hid (len L = m ∧ m ≤ len l ∧ ∀ x ∈ L, x.size ≤ 80) ∧ Hid (Below w.heap.size w wr))
  case atStart => exact ⟨0, [], rfl, rfl, Lib.hid (World.ownsRow_nil _ _ _ _), Lib.hid ⟨rfl, Nat.zero_le _, fun x hx => by cases hx⟩, Lib.hid (Below.refl _ _)⟩
  case round =>
    obtain ⟨m, L, hm, rfl, HO, HI, HW⟩ := hrel
    by_cases hlt : m < len l
    · by_cases h40 : m < 70
      · have b0 : (m : Int) < len l := by omega
        have b1 : (m : Int) < 70 := by omega
        obtain ⟨pb, po, rfl, cs⟩ := (HL.out.below HW.out) m hlt
        have hpl : pb < w.heap.size := by
          obtain ⟨b9, o9, e9, h9⟩ := HL.out m hlt
          cases e9
          exact lt_of_cell h9
        have hne : some pb ≠ u3.ownBlock := own_lo HO.out hpl
        obtain ⟨x, hx⟩ : ∃ x, tth l m = x := ⟨_, rfl⟩
        rw [hx] at cs
        obtain ⟨k, hk⟩ : ∃ k : Nat, min x.size 80 = k := ⟨_, rfl⟩
        have HK : Hid (k ≤ 80 ∧ k ≤ x.size) := Lib.hid (by omega)
        have kx : ¬ x.size < k := by omega
        have mk : min ((x.size : Nat) : Int) 80 = ((k : Nat) : Int) := by omega
        have bl : ¬ len l ≤ m := by omega
        have hil := HI.out.1
        have HM40 := Lib.hid h40
        have HMLT := Lib.hid hlt
        clear hx hk
        go_upto_region 5 with fail
        refine wp_region_tail 14 13 (u3.ownBlock) (phis [fun u _ => u = (u3), fun u _ => u = (.slice (some ⟨pb, po, none⟩) (len l) cap), fun u _ => u = (.int .i64 (m : Nat)), fun u _ => u = (.pointer (some ⟨pb, po + m, none⟩)), fun u _ => u = (.string x), fun u _ => u = (.slice (some ⟨pb, po, none⟩) (len l) cap), fun u _ => u = (.int .i64 (m : Nat)), fun u _ => u = (.pointer (some ⟨pb, po + m, none⟩)), fun u _ => u = (.string x), fun u _ => u = (.int .i64 (x.size : Nat)), fun u _ => u = (.int .i64 (k : Nat)), fun u _ => u = (.string (x.extract 0 k)), fun u w' => ∃ b, u = .slice (some ⟨b, 0, none⟩) 1 1 ∧ some b ≠ u3.ownBlock ∧ w'.heap[b]? = some (.cells #[.string (x.extract 0 k)] 9 (0, 0)), fun u w' => w'.ownsRow w.heap.size 9 1 u (len L + 1) (L.map Value.string ++ [.string (x.extract 0 k)])]) rfl (by kernel_rfl) (by kernel_rfl) (mono_of ⟨mono_eq, mono_eq, mono_eq, mono_eq, mono_eq, mono_eq, mono_eq, mono_eq, mono_eq, mono_eq, mono_eq, mono_eq, ?m12, ?m13, trivial⟩) (steps_of 14 ⟨?s0, ?s1, ?s2, ?s3, ?s4, ?s5, ?s6, ?s7, ?s8, ?s9, ?s10, ?s11, ?s12, ?s13, trivial⟩) ?_
        case m12 =>
          exact ⟨fun u w1 w' h ⟨b, h1, hb, hb'⟩ => ⟨b, h1, hb, ext_block h hb'⟩, fun _ u w1 w' h ⟨b, h1, hb, hb'⟩ => ⟨b, h1, hb, extB_block h hb hb'⟩⟩
        case m13 =>
          exact ⟨fun u w1 w' h hu => own_below hu h, fun hn => absurd rfl hn⟩
        case s0 =>
          refine step_val (v := (u3)) (fun av wv hE hS hO hD => ?_) (fun _ => rfl)
          have h3 : av.eval (.tmp 3) = (u3) := hO.2.2 3 rfl
          have f3 := (ev_form av 3).symm.trans h3
          refine ⟨rfl, ?_⟩
          simp [go_sem, f3, bl, mk, kx]
        case s1 =>
          refine step_val (v := (.slice (some ⟨pb, po, none⟩) (len l) cap)) (fun av wv hE hS hO hD => ?_) (fun _ => rfl)
          have h0 : av.eval (.tmp 0) = (.slice (some ⟨pb, po, none⟩) (len l) cap) := hO.2.2 0 rfl
          have f0 := (ev_form av 0).symm.trans h0
          refine ⟨rfl, ?_⟩
          simp [go_sem, f0, bl, mk, kx]
        case s2 =>
          refine step_val (v := (.int .i64 (m : Nat))) (fun av wv hE hS hO hD => ?_) (fun _ => rfl)
          have h4 : av.eval (.tmp 4) = (.int .i64 (m : Nat)) := hO.2.2 4 rfl
          have f4 := (ev_form av 4).symm.trans h4
          refine ⟨rfl, ?_⟩
          simp [go_sem, f4, bl, mk, kx]
        case s3 =>
          refine step_val (v := (.pointer (some ⟨pb, po + m, none⟩))) (fun av wv hE hS hO hD => ?_) (fun _ => rfl)
          have d20 : av.eval (.tmp 20) = (.slice (some ⟨pb, po, none⟩) (len l) cap) := hD.1 rfl _ rfl
          have f20 := (ev_form av 20).symm.trans d20
          have d21 : av.eval (.tmp 21) = (.int .i64 (m : Nat)) := hD.2.1 rfl _ rfl
          have f21 := (ev_form av 21).symm.trans d21
          refine ⟨rfl, ?_⟩
          simp [go_sem, f20, f21, bl, mk, kx]
        case s4 =>
          refine step_val (v := (.string x)) (fun av wv hE hS hO hD => ?_) (fun _ => rfl)
          have d22 : av.eval (.tmp 22) = (.pointer (some ⟨pb, po + m, none⟩)) := hD.1 rfl _ rfl
          have f22 := (ev_form av 22).symm.trans d22
          have cs := extB_cell hE hne cs
          refine ⟨rfl, ?_⟩
          simp [go_sem, f22, cs, bl, mk, kx]
        case s5 =>
          refine step_val (v := (.slice (some ⟨pb, po, none⟩) (len l) cap)) (fun av wv hE hS hO hD => ?_) (fun _ => rfl)
          have h0 : av.eval (.tmp 0) = (.slice (some ⟨pb, po, none⟩) (len l) cap) := hO.2.2 0 rfl
          have f0 := (ev_form av 0).symm.trans h0
          refine ⟨rfl, ?_⟩
          simp [go_sem, f0, bl, mk, kx]
        case s6 =>
          refine step_val (v := (.int .i64 (m : Nat))) (fun av wv hE hS hO hD => ?_) (fun _ => rfl)
          have h4 : av.eval (.tmp 4) = (.int .i64 (m : Nat)) := hO.2.2 4 rfl
          have f4 := (ev_form av 4).symm.trans h4
          refine ⟨rfl, ?_⟩
          simp [go_sem, f4, bl, mk, kx]
        case s7 =>
          refine step_val (v := (.pointer (some ⟨pb, po + m, none⟩))) (fun av wv hE hS hO hD => ?_) (fun _ => rfl)
          have d24 : av.eval (.tmp 24) = (.slice (some ⟨pb, po, none⟩) (len l) cap) := hD.1 rfl _ rfl
          have f24 := (ev_form av 24).symm.trans d24
          have d25 : av.eval (.tmp 25) = (.int .i64 (m : Nat)) := hD.2.1 rfl _ rfl
          have f25 := (ev_form av 25).symm.trans d25
          refine ⟨rfl, ?_⟩
          simp [go_sem, f24, f25, bl, mk, kx]
        case s8 =>
          refine step_val (v := (.string x)) (fun av wv hE hS hO hD => ?_) (fun _ => rfl)
          have d26 : av.eval (.tmp 26) = (.pointer (some ⟨pb, po + m, none⟩)) := hD.1 rfl _ rfl
          have f26 := (ev_form av 26).symm.trans d26
          have cs := extB_cell hE hne cs
          refine ⟨rfl, ?_⟩
          simp [go_sem, f26, cs, bl, mk, kx]
        case s9 =>
          refine step_val (v := (.int .i64 (x.size : Nat))) (fun av wv hE hS hO hD => ?_) (fun _ => rfl)
          have d27 : av.eval (.tmp 27) = (.string x) := hD.1 rfl _ rfl
          have f27 := (ev_form av 27).symm.trans d27
          refine ⟨rfl, ?_⟩
          simp [go_sem, f27, bl, mk, kx]
        case s10 =>
          refine step_val (v := (.int .i64 (k : Nat))) (fun av wv hE hS hO hD => ?_) (fun _ => rfl)
          have d28 : av.eval (.tmp 28) = (.int .i64 (x.size : Nat)) := hD.1 rfl _ rfl
          have f28 := (ev_form av 28).symm.trans d28
          refine ⟨rfl, ?_⟩
          simp [go_sem, f28, bl, mk, kx]
        case s11 =>
          refine step_val (v := (.string (x.extract 0 k))) (fun av wv hE hS hO hD => ?_) (fun _ => rfl)
          have d23 : av.eval (.tmp 23) = (.string x) := hD.1 rfl _ rfl
          have f23 := (ev_form av 23).symm.trans d23
          have d29 : av.eval (.tmp 29) = (.int .i64 (k : Nat)) := hD.2.1 rfl _ rfl
          have f29 := (ev_form av 29).symm.trans d29
          refine ⟨rfl, ?_⟩
          simp [go_sem, f23, f29, bl, mk, kx]
        case s12 =>
          refine step_wp (fun av wv hE hS hO hD => ?_)
          have d30 : av.eval (.tmp 30) = (.string (x.extract 0 k)) := hD.1 rfl _ rfl
          have f30 := (ev_form av 30).symm.trans d30
          refine ⟨rfl, ?_⟩
          refine wp_of_run (v := .slice (some ⟨wv.heap.size, 0, none⟩) 1 1) (w' := wv.alloc (.cells #[.string (x.extract 0 k)] 9)) (by simp [go_sem, f30]) ⟨_, rfl, es_of_ext (balloc (Ext_refl _) _), wv.heap.size, rfl, ?_, heap_alloc_new _ _⟩
          exact own_ge HO.out (by have := hE.size; simp at this; omega)
        case s13 =>
          refine step_wp (fun av wv hE hS hO hD => ?_)
          have d19 : av.eval (.tmp 19) = (u3) := hD.1 rfl _ rfl
          have f19 := (ev_form av 19).symm.trans d19
          have d31 : (fun u w' => ∃ b, u = .slice (some ⟨b, 0, none⟩) 1 1 ∧ some b ≠ u3.ownBlock ∧ w'.heap[b]? = some (.cells #[.string (x.extract 0 k)] 9 (0, 0))) (av.eval (.tmp 31)) wv := hD.2.1 rfl _ rfl
          refine ⟨rfl, ?_⟩
          obtain ⟨b27, h27, hb27, hc27⟩ := d31
          have hown1 : wv.ownsRow w.heap.size 9 1 u3 (len L) (L.map Value.string) := own_below (w := wr.drew) HO.out (hS rfl)
          refine wp_append_lies wv _ _ _ rfl w.heap.size 9 i0 (.string ⟨#[]⟩) 1 16 Tryz.underlying36 hi HZ.out hz1 hz2 rfl (by decide) u3 (len L) _ d19 hown1 ⟨b27, 0, none⟩ 1 1 [.string (x.extract 0 k)] (by exact h27) rfl (World.news_of_block hc27) (by intro u hu; simp at hu; rcases hu with rfl; rfl) (by decide) (by unfold maxLen; omega) (by omega) (by have := hE.size; have := HW.out.size; simp at *; omega) _ rfl ?_
          intro g2 cap2 w2 hown2 hgrow hat hlt2
          exact ⟨_, rfl, es_sp hgrow, hown2⟩
        intro a' w' hE hO hall
        have hA := act_of_outer (ds := [19, 20, 21, 22, 23, 24, 25, 26, 27, 28, 29, 30, 31, 32]) rfl hO (by kernel_rfl)
        have e19 : (fun u _ => u = (u3)) (a'.eval (.tmp 19)) w' := hall.1 _ rfl
        have e20 : (fun u _ => u = (.slice (some ⟨pb, po, none⟩) (len l) cap)) (a'.eval (.tmp 20)) w' := hall.2.1 _ rfl
        have e21 : (fun u _ => u = (.int .i64 (m : Nat))) (a'.eval (.tmp 21)) w' := hall.2.2.1 _ rfl
        have e22 : (fun u _ => u = (.pointer (some ⟨pb, po + m, none⟩))) (a'.eval (.tmp 22)) w' := hall.2.2.2.1 _ rfl
        have e23 : (fun u _ => u = (.string x)) (a'.eval (.tmp 23)) w' := hall.2.2.2.2.1 _ rfl
        have e24 : (fun u _ => u = (.slice (some ⟨pb, po, none⟩) (len l) cap)) (a'.eval (.tmp 24)) w' := hall.2.2.2.2.2.1 _ rfl
        have e25 : (fun u _ => u = (.int .i64 (m : Nat))) (a'.eval (.tmp 25)) w' := hall.2.2.2.2.2.2.1 _ rfl
        have e26 : (fun u _ => u = (.pointer (some ⟨pb, po + m, none⟩))) (a'.eval (.tmp 26)) w' := hall.2.2.2.2.2.2.2.1 _ rfl
        have e27 : (fun u _ => u = (.string x)) (a'.eval (.tmp 27)) w' := hall.2.2.2.2.2.2.2.2.1 _ rfl
        have e28 : (fun u _ => u = (.int .i64 (x.size : Nat))) (a'.eval (.tmp 28)) w' := hall.2.2.2.2.2.2.2.2.2.1 _ rfl
        have e29 : (fun u _ => u = (.int .i64 (k : Nat))) (a'.eval (.tmp 29)) w' := hall.2.2.2.2.2.2.2.2.2.2.1 _ rfl
        have e30 : (fun u _ => u = (.string (x.extract 0 k))) (a'.eval (.tmp 30)) w' := hall.2.2.2.2.2.2.2.2.2.2.2.1 _ rfl
        have e31 : (fun u w' => ∃ b, u = .slice (some ⟨b, 0, none⟩) 1 1 ∧ some b ≠ u3.ownBlock ∧ w'.heap[b]? = some (.cells #[.string (x.extract 0 k)] 9 (0, 0))) (a'.eval (.tmp 31)) w' := hall.2.2.2.2.2.2.2.2.2.2.2.2.1 _ rfl
        have e32 : (fun u w' => w'.ownsRow w.heap.size 9 1 u (len L + 1) (L.map Value.string ++ [.string (x.extract 0 k)])) (a'.eval (.tmp 32)) w' := hall.2.2.2.2.2.2.2.2.2.2.2.2.2.1 _ rfl
        obtain ⟨v31, hv31⟩ : ∃ v, a'.eval (.tmp 31) = v := ⟨_, rfl⟩
        rw [hv31] at e31
        obtain ⟨v32, hv32⟩ : ∃ v, a'.eval (.tmp 32) = v := ⟨_, rfl⟩
        rw [hv32] at e32
        simp only [List.foldl_cons, List.foldl_nil, Act.put, List.setIfInBounds_toArray, List.set_cons_succ, List.set_cons_zero, e19, e20, e21, e22, e23, e24, e25, e26, e27, e28, e29, e30, hv31, hv32] at hA
        clear hO hall e19 e20 e21 e22 e23 e24 e25 e26 e27 e28 e29 e30 hv31 hv32
        subst hA
        have HO2 : Hid (w'.ownsRow w.heap.size 9 1 v32 (len (L ++ [x.extract 0 k])) ((L ++ [x.extract 0 k]).map Value.string)) := Lib.hid (by
          have e9 : len (L ++ [x.extract 0 k]) = len L + 1 := by rw [len_eq, List.length_append]; rfl
          rw [List.map_append, e9]
          exact e32)
        have HW2 : Hid (Below w.heap.size w w') := Lib.hid (grownBy_below (bdrew HW.out) hE (fun k9 hk' => (HO.out.lt k9 hk').1))
        have HI2 : Hid (len (L ++ [x.extract 0 k]) = m + 1 ∧ m + 1 ≤ len l ∧ ∀ y ∈ L ++ [x.extract 0 k], y.size ≤ 80) := Lib.hid ⟨by rw [len_eq, List.length_append, ← len_eq, hil]; rfl, HMLT.out, fun y hy => by
          rw [List.mem_append, List.mem_singleton] at hy
          rcases hy with hy | rfl
          · exact HI.out.2.2 y hy
          · rw [ByteArray.size_extract]; have := HK.out; omega⟩
        clear e31 e32 hE cs bl mk kx hil hne
        go_wp2
        go_roundg (70 - (m + 1))
        case rel => exact ⟨m + 1, L ++ [x.extract 0 k], by omega, by go_num, HO2, HI2, HW2⟩
        case measure => omega
      · obtain rfl : m = 70 := by omega
        have b0 : ((70 : Nat) : Int) < len l := by omega
        have b1 : ¬ ((70 : Nat) : Int) < 70 := by decide
        have HLL : Hid (len L ≤ 70) := Lib.hid (by have := HI.out.1; omega)
        have HLS : Hid (∀ i, i < len L → (tth L i).size ≤ 1000000) := Lib.hid (fun i hi => by
          rw [tth_eq L i hi]
          exact Nat.le_trans (HI.out.2.2 _ (List.getElem_mem hi)) (by decide))
        obtain ⟨a9, c9, rfl, ht9, _, h09⟩ := TextsAre.own HO.out
        have HTX := Lib.hid ht9
        have H09 := Lib.hid h09
        clear ht9 h09
        go_wp2_with fail
        refine (htxns_any L a9 c9 wr (by have := HLL.out; omega) HTX.out HLS.out).mono ?_
        rintro e x1 ⟨rfl, hb⟩
        have HX1 : Hid (Below w.heap.size w x1) := Lib.hid (bnext HW.out hb)
        have HTX1 := Lib.hid (HTX.out.below hb)
        clear hb
        go_wp2_with fail
        refine (rtxns_any L a9 c9 x1 (by have := HLL.out; omega) HTX1.out HLS.out H09.out).mono ?_
        rintro e x2 ⟨rfl, hb⟩
        have HX2 : Hid (Below w.heap.size w x2) := Lib.hid (bnext HX1.out hb)
        obtain ⟨S, hS⟩ : ∃ S, txS L = S := ⟨_, rfl⟩
        obtain ⟨E, hE⟩ : ∃ E, txE L = E := ⟨_, rfl⟩
        rw [hS, hE]
        have s1 : (S.toList == S.toList) = true := by rw [str_beq]; exact decide_eq_true rfl
        clear hb hS hE
        go_wp2_with fail
        refine (works23_any B x2 (HT.out.below HX2.out)).mono ?_
        rintro e x3 ⟨rfl, hb⟩
        have HX3 : Hid (Below w.heap.size w x3) := Lib.hid (bnext HX2.out hb)
        clear hb
        go_wp2
        go_ret
        exact ⟨rfl, HX3.out⟩
    · have b0 : ¬ (m : Int) < len l := by omega
      have HLL : Hid (len L ≤ 70) := Lib.hid (by have := HI.out.1; omega)
      have HLS : Hid (∀ i, i < len L → (tth L i).size ≤ 1000000) := Lib.hid (fun i hi => by
        rw [tth_eq L i hi]
        exact Nat.le_trans (HI.out.2.2 _ (List.getElem_mem hi)) (by decide))
      obtain ⟨a9, c9, rfl, ht9, _, h09⟩ := TextsAre.own HO.out
      have HTX := Lib.hid ht9
      have H09 := Lib.hid h09
      clear ht9 h09
      go_wp2_with fail
      refine (htxns_any L a9 c9 wr (by have := HLL.out; omega) HTX.out HLS.out).mono ?_
      rintro e x1 ⟨rfl, hb⟩
      have HX1 : Hid (Below w.heap.size w x1) := Lib.hid (bnext HW.out hb)
      have HTX1 := Lib.hid (HTX.out.below hb)
      clear hb
      go_wp2_with fail
      refine (rtxns_any L a9 c9 x1 (by have := HLL.out; omega) HTX1.out HLS.out H09.out).mono ?_
      rintro e x2 ⟨rfl, hb⟩
      have HX2 : Hid (Below w.heap.size w x2) := Lib.hid (bnext HX1.out hb)
      obtain ⟨S, hS⟩ : ∃ S, txS L = S := ⟨_, rfl⟩
      obtain ⟨E, hE⟩ : ∃ E, txE L = E := ⟨_, rfl⟩
      rw [hS, hE]
      have s1 : (S.toList == S.toList) = true := by rw [str_beq]; exact decide_eq_true rfl
      clear hb hS hE
      go_wp2_with fail
      refine (works23_any B x2 (HT.out.below HX2.out)).mono ?_
      rintro e x3 ⟨rfl, hb⟩
      have HX3 : Hid (Below w.heap.size w x3) := Lib.hid (bnext HX2.out hb)
      clear hb
      go_wp2
      go_ret
      exact ⟨rfl, HX3.out⟩
end Go.Proofs.YtpobhbdomldecaaGreatDoor
namespace Go.Proofs.YtpobhbdomldecaaGreatDoor
set_option linter.unusedSimpArgs false
set_option linter.unusedVariables false
open Go.RowKit Go.ChangeShapes Go.WideShapes Go.ChangeAt Go.Deep
section
variable {H : Type} {enc : TypeId × Value → H} {P : Program} {w : World}
theorem below_trodAll (hl : laidOutB P = true) {W W' : World} (hb : Below W.heap.size W W') : ∀ {ts : List TypeId} {vs : List Value} {ds : List (DataW H)} {ps : List MemPlace},
    (∀ t ∈ ts, P.readableRec t = true ∧ t < P.types.size) → DataW.TrodAll enc P W 0 (fun _ => true) true ts vs ds ps → DataW.TrodAll enc P W' 0 (fun b => decide (b < W.heap.size)) true ts vs ds ps
  | [], vs, ds, ps, _, h => by
    obtain ⟨rfl, rfl, rfl⟩ := trodAll_nil h
    exact trodAll_mk0
  | t :: ts, vs, ds, ps, ht, h => by
    obtain ⟨v, vs', d, ds', p, q, rfl, rfl, rfl, h0, r0⟩ := trodAll_cons h
    have lt0 : ∀ x ∈ p, x.block < W.heap.size := by obtain ⟨m, hm⟩ := h0; exact DataW.trod_lt m _ _ _ hm
    exact trodAll_cons_mk (Below.trod hl (ht t (List.mem_cons_self ..)).1 (ht t (List.mem_cons_self ..)).2 h0 hb lt0) (below_trodAll hl hb (fun t' h' => ht t' (List.mem_cons_of_mem _ h')) r0)
theorem list_of {α : Type} {n : Nat} {p : Nat → α → Prop} (h : ∀ i, i < n → ∃ x, p i x) : ∃ l : List α, l.length = n ∧ ∀ i (hi : i < l.length), p i l[i] := by
  induction n with
  | zero => exact ⟨[], rfl, fun i hi => by simp at hi⟩
  | succ n ih =>
    obtain ⟨l, hl, hp⟩ := ih (fun i hi => h i (by omega))
    obtain ⟨x, hx⟩ := h n (by omega)
    refine ⟨l ++ [x], by simp [hl], fun i hi => ?_⟩
    rcases Nat.lt_or_ge i l.length with h' | h'
    · rw [List.getElem_append_left h']; exact hp i h'
    · have e : i = l.length := by simp at hi; omega
      subst e
      simp only [List.getElem_append_right (Nat.le_refl _), Nat.sub_self, List.getElem_cons_zero]
      rw [hl]; exact hx
theorem open_elems {α : Type} {t e : TypeId} (k : Nat) (cells : α → List Value) (ok : α → Prop) (ht : P.underlying t = some (.slice e)) (hC : P.cellsOf e = k) (hk : 0 < k)
    (hel : ∀ n cs' y, cs'.length = k → DataW.trod enc P w 0 (fun _ => true) true n e cs' = some y → ∃ x, cs' = cells x ∧ ok x)
    {v : Value} {d : DataW H} {p : List MemPlace} {r : Reach} {base : Nat} (hv : Value.okWide P w r base t v) (h : DataW.Trod enc P w 0 (fun _ => true) true t v d p) :
    ∃ a c, ∃ l : List α, v = .slice a (len l) c ∧ len l ≤ c ∧ c ≤ maxLen ∧ ∀ i (hi : i < l.length), ok l[i] ∧ ∃ b off, a = some ⟨b, off, none⟩ ∧ ∀ j, j < k → w.cell? ⟨b, off + i * k + j, none⟩ = (cells l[i])[j]? := by
  obtain ⟨a0, n0, c0, rfl⟩ := okWide_slice ht hv
  obtain ⟨fuel, hf⟩ := h
  rcases open_slice ht hf with ⟨hcs, _⟩ | ⟨a, n, c, m, q, D, Pl, hcs, _, hl, hm, hmm, _, hi⟩
  · simp [Value.cells] at hcs
    obtain ⟨rfl, rfl, rfl⟩ := hcs
    exact ⟨none, 0, [], rfl, Nat.le_refl _, Nat.zero_le _, fun i hi => by simp at hi⟩
  · simp [Value.cells] at hcs
    obtain ⟨rfl, rfl, rfl⟩ := hcs
    have hnm : n0 ≤ m := by rw [hmm]; simp; exact hl
    have each : ∀ i, i < n0 → ∃ x, ok x ∧ ∃ b off, some a = some ⟨b, off, none⟩ ∧ ∀ j, j < k → w.cell? ⟨b, off + i * k + j, none⟩ = (cells x)[j]? := by
      intro i hin
      obtain ⟨cs', hc, htr⟩ := hi i (by omega)
      rw [hC] at hc
      obtain ⟨_, hcl, hat⟩ := World.cells?_some hc
      obtain ⟨x, rfl, hx⟩ := hel q cs' _ hcl htr
      obtain ⟨b, off, spot⟩ := a
      have hspot : spot = none := by
        obtain ⟨cs0, hc0, htr0⟩ := hi 0 (by omega)
        rw [hC] at hc0
        obtain ⟨_, hcl0, hat0⟩ := World.cells?_some hc0
        have h1 := hat0 0 hk
        have h2 : cs0[0]? = some (cs0[0]'(by omega)) := List.getElem?_eq_getElem (by omega)
        rw [h2] at h1
        simpa [Addr.add] using World.cell?_spot h1
      subst hspot
      refine ⟨x, hx, b, off, rfl, fun j hj => ?_⟩
      have h1 := hat j hj
      rw [Go.Deep.add_add] at h1
      have e : (⟨b, off, none⟩ : Addr).add (i * k + j) = ⟨b, off + i * k + j, none⟩ := by
        unfold Addr.add; split
        · rename_i h0; simp <;> omega
        · simp [Nat.add_assoc]
      rw [e] at h1; exact h1
    obtain ⟨l, hll, hp⟩ := list_of each
    subst hll
    exact ⟨some a, c0, l, rfl, hl, hm, hp⟩
end
end Go.Proofs.YtpobhbdomldecaaGreatDoor
namespace Go.Proofs.YtpobhbdomldecaaGreatDoor
set_option linter.unusedSimpArgs false
set_option linter.unusedVariables false
open Go.RowKit Go.ChangeShapes Go.WideShapes Go.ChangeAt
theorem own : ownKnob Tryz.prog.godebug = none := by kernel_rfl
theorem laidOut : laidOutB Tryz.prog = true := by kernel_rfl
end Go.Proofs.YtpobhbdomldecaaGreatDoor
namespace Go.Proofs.YtpobhbdomldecaaGreatDoor
set_option linter.unusedSimpArgs false
set_option linter.unusedVariables false
open Go.RowKit Go.ChangeShapes Go.WideShapes Go.ChangeAt Go.ChangeMaps
section
variable {P : Program} {H : Type} {enc : TypeId × Value → H} {w : World}
theorem str_readx {n : Nat} {e : TypeId} {v : Value} {y : DataW H × List MemPlace} (he : P.underlying e = some .string) (h : DataW.trod enc P w 0 (fun _ => true) true n e [v] = some y) : ∃ s : ByteArray, v = .string s ∧ s.size ≤ maxLen := by
  obtain ⟨s, hx, _, hw⟩ := DataW.trod_string he h
  exact ⟨s, by simpa using hx, hw⟩
theorem open_txts {t e : TypeId} (ht : P.underlying t = some (.slice e)) (he : P.underlying e = some .string) (hC : P.cellsOf e = 1)
    {v : Value} {d : DataW H} {p : List MemPlace} {r : Reach} {base : Nat} (hv : Value.okWide P w r base t v) (h : DataW.Trod enc P w 0 (fun _ => true) true t v d p) :
    ∃ a c, ∃ l : List ByteArray, v = .slice a (len l) c ∧ len l ≤ c ∧ c ≤ maxLen ∧ Txts w a l := by
  obtain ⟨a, c, l, rfl, h1, h2, h3⟩ := open_elems 1 (fun x => [Value.string x]) (fun _ => True) ht hC (by decide) (fun n cs' y hl hy => by
    match cs', hl with
    | [v0], _ =>
      obtain ⟨s, rfl, _⟩ := str_readx he hy
      exact ⟨s, rfl, trivial⟩) hv h
  refine ⟨a, c, l, rfl, h1, h2, fun i hi => ?_⟩
  obtain ⟨_, b, off, e1, e2⟩ := h3 i hi
  refine ⟨b, off, e1, ?_⟩
  have := e2 0 (by decide)
  rw [Nat.mul_one, Nat.add_zero] at this
  rw [this, tth_eq l i hi]; rfl
end
end Go.Proofs.YtpobhbdomldecaaGreatDoor
namespace Go.Proofs.YtpobhbdomldecaaGreatDoor
set_option linter.unusedSimpArgs false
set_option linter.unusedVariables false
open Go.RowKit Go.ChangeShapes Go.WideShapes Go.ChangeAt
def rowD5 (r : PRow) : DataW Unit := .agg [.lit (.int .u64 r.below), .lit (.int .u8 r.first), .lit (.int .i64 r.size)]
set_option maxRecDepth 100000 in
theorem laid_prow {w : World} {fuel : Nat} {cs' : List Value} {r : PRow} {q : List MemPlace} (hl : cs'.length = 3) (h : DataW.trod (fun _ => ()) Tryz.prog w 0 (fun _ => true) false fuel 336 cs' = some (rowD5 r, q)) : cs' = r.cells := by
  match cs', hl with
  | [v0, v1, v2], _ =>
    obtain ⟨xs, m, _, e, _, hxl, hx⟩ := DataW.trod_struct Tryz.underlying336 h
    have cu : Tryz.prog.cellsOf 5 = 1 := by kernel_rfl
    have ci : Tryz.prog.cellsOf 3 = 1 := by kernel_rfl
    have cq : Tryz.prog.cellsOf 23 = 1 := by kernel_rfl
    have hxl' : xs.length = 3 := hxl
    have h0 : DataW.trod (fun _ => ()) Tryz.prog w 0 (fun _ => true) false m 23 (([v0, v1, v2].drop 0).take (Tryz.prog.cellsOf 23)) = xs[0]? := hx 0 _ rfl
    have h1 : DataW.trod (fun _ => ()) Tryz.prog w 0 (fun _ => true) false m 5 (([v0, v1, v2].drop 1).take (Tryz.prog.cellsOf 5)) = xs[1]? := hx 1 _ rfl
    have h2 : DataW.trod (fun _ => ()) Tryz.prog w 0 (fun _ => true) false m 3 (([v0, v1, v2].drop 2).take (Tryz.prog.cellsOf 3)) = xs[2]? := hx 2 _ rfl
    rw [cq] at h0
    rw [cu] at h1
    rw [ci] at h2
    match xs, hxl' with
    | [x0, x1, x2], _ =>
      obtain ⟨n0, e0, y0, _⟩ := DataW.trod_int Tryz.underlying23 (show DataW.trod (fun _ => ()) Tryz.prog w 0 (fun _ => true) false m 23 [v0] = some x0 from h0)
      obtain ⟨n1, e1, y1, _⟩ := DataW.trod_int Tryz.underlying5 (show DataW.trod (fun _ => ()) Tryz.prog w 0 (fun _ => true) false m 5 [v1] = some x1 from h1)
      obtain ⟨n2, e2, y2, _⟩ := DataW.trod_int Tryz.underlying3 (show DataW.trod (fun _ => ()) Tryz.prog w 0 (fun _ => true) false m 3 [v2] = some x2 from h2)
      subst y0 y1 y2
      simp [rowD5] at e e0 e1 e2
      obtain ⟨⟨a0, a1, a2⟩, _⟩ := e
      subst e0 e1 e2
      unfold PRow.cells
      rw [a0, a1, a2]
set_option maxRecDepth 100000 in
theorem laid_prows {w : World} {fuel : Nat} {cs : List Value} {l : List PRow} {p : List MemPlace} (h : DataW.trod (fun _ => ()) Tryz.prog w 0 (fun _ => true) false fuel 338 cs = some (.slice (l.map rowD5) [], p)) (hl : 0 < len l) :
    ∃ tb tq rc, cs = [.slice (some ⟨tb, tq, none⟩) (len l) rc] ∧ PRows w (some ⟨tb, tq, none⟩) l := by
  have hC : Tryz.prog.cellsOf 336 = 3 := by kernel_rfl
  rcases Go.Deep.open_slice Tryz.underlying338 h with ⟨_, hx⟩ | ⟨a, n, c, m, q, D, Pl, hcs, _, hln, hm, hmm, hx, hi⟩
  · simp at hx
  · simp only [Prod.mk.injEq, DataW.slice.injEq] at hx
    obtain ⟨⟨hD, _⟩, _⟩ := hx
    have hn : len l = n := by have := congrArg List.length hD; simpa [len] using this
    have hnm : n ≤ m := by rw [hmm]; simp; exact hln
    have each : ∀ i, i < len l → ∃ b off, a = ⟨b, off, none⟩ ∧ PRowAt w b (off + i * 3) (prth l i) := fun i hil => by
      obtain ⟨cs', hc, htr⟩ := hi i (by omega)
      rw [hC] at hc
      obtain ⟨_, hcl, hat⟩ := World.cells?_some hc
      have hDi : D i = rowD5 (prth l i) := by
        have h1 : (l.map rowD5)[i]? = ((List.range n).map D)[i]? := by rw [hD]
        have hil' : i < l.length := hil
        rw [List.getElem?_map, List.getElem?_map, List.getElem?_eq_getElem hil', List.getElem?_range (by omega)] at h1
        rw [prth_eq l i hil]
        exact (Option.some.inj h1).symm
      rw [hDi] at htr
      have hcs' := laid_prow hcl htr
      obtain ⟨b, off, spot⟩ := a
      have hat0 := hat 0 (by decide)
      rw [hcs'] at hat
      have hspot : spot = none := by
        obtain ⟨cs0, hc0, htr0⟩ := hi 0 (by omega)
        rw [hC] at hc0
        obtain ⟨_, hcl0, hat0⟩ := World.cells?_some hc0
        have h1 := hat0 0 (by decide)
        have h2 : cs0[0]? = some (cs0[0]'(by omega)) := List.getElem?_eq_getElem (by omega)
        rw [h2] at h1
        simpa [Addr.add] using World.cell?_spot h1
      subst hspot
      have key : ∀ j, j < 3 → w.cell? ⟨b, off + i * 3 + j, none⟩ = (prth l i).cells[j]? := fun j hj => by
        have h1 := hat j hj
        rw [Go.Deep.add_add] at h1
        have e : (⟨b, off, none⟩ : Addr).add (i * 3 + j) = ⟨b, off + i * 3 + j, none⟩ := by
          unfold Addr.add; split
          · rename_i h0; simp <;> omega
          · simp [Nat.add_assoc]
        rw [e] at h1; exact h1
      exact ⟨b, off, rfl, key 0 (by decide), key 1 (by decide), key 2 (by decide)⟩
    obtain ⟨b, off, rfl, _⟩ := each 0 hl
    refine ⟨b, off, c, by rw [hn]; exact hcs, fun i hil => ?_⟩
    obtain ⟨b', off', e, hR⟩ := each i hil
    cases e
    exact ⟨b, off, rfl, hR⟩
def tabD5 : DataW Unit := .agg ([0, 1, 2, 3, 4].map fun k => .slice ((hrowsP k).map rowD5) [])
set_option maxRecDepth 100000 in
theorem ptab_of {W : World} {g : Nat} {cs : Array Value} {fuel : Nat} {p : List MemPlace} (hgg : g = 5) (hg : Tryz.prog.globalNamed "sextant/pack.rows" = some g) (hv : W.var? Tryz.prog "sextant/pack.rows" = some cs)
    (h : DataW.trod (fun _ => ()) Tryz.prog W 0 (fun _ => true) false fuel 339 cs.toList = some (tabD5, p)) : PTab W.heap.size W := by
  obtain ⟨xs, m, _, e, hcl, hxl, hx⟩ := DataW.trod_array Tryz.underlying339 h
  have hC : Tryz.prog.cellsOf 338 = 1 := by kernel_rfl
  have hC5 : Tryz.prog.cellsOf 339 = 5 := by kernel_rfl
  rw [hC5] at hcl
  rw [hC] at hx
  have hd : tabD5 = .agg (xs.map (·.1)) := congrArg Prod.fst e
  unfold tabD5 at hd
  have hd2 : ([0, 1, 2, 3, 4].map fun k => (DataW.slice ((hrowsP k).map rowD5) [] : DataW Unit)) = xs.map (·.1) := by injection hd
  subst hgg
  have key : ∀ k, k < 5 → ∃ tb tq rc, cs[k]? = some (.slice (some ⟨tb, tq, none⟩) (len (hrowsP k)) rc) ∧ PRows W (some ⟨tb, tq, none⟩) (hrowsP k) := fun k hk => by
    have hxk : k < xs.length := by omega
    have h1 := hx k hk
    rw [List.getElem?_eq_getElem hxk] at h1
    have h2 : (xs[k]'hxk).1 = .slice ((hrowsP k).map rowD5) [] := by
      have h3 : (xs.map (·.1))[k]? = some (xs[k]'hxk).1 := by rw [List.getElem?_map, List.getElem?_eq_getElem hxk]; rfl
      rw [← hd2, List.getElem?_map] at h3
      have h4 : [0, 1, 2, 3, 4][k]? = some k := by
        have : k = 0 ∨ k = 1 ∨ k = 2 ∨ k = 3 ∨ k = 4 := by omega
        rcases this with rfl | rfl | rfl | rfl | rfl <;> rfl
      rw [h4] at h3
      exact (Option.some.inj h3).symm
    have h5 : DataW.trod (fun _ => ()) Tryz.prog W 0 (fun _ => true) false m 338 ((cs.toList.drop (k * 1)).take 1) = some (.slice ((hrowsP k).map rowD5) [], (xs[k]'hxk).2) := by rw [h1, ← h2]
    obtain ⟨tb, tq, rc, hcs, hr⟩ := laid_prows h5 (rowsP_pos k)
    refine ⟨tb, tq, rc, ?_, hr⟩
    have h6 : ((cs.toList.drop (k * 1)).take 1)[0]? = some (.slice (some ⟨tb, tq, none⟩) (len (hrowsP k)) rc) := by rw [hcs]; rfl
    rw [List.getElem?_take, if_pos (by decide), List.getElem?_drop] at h6
    simpa using h6
  have hlt : 5 < W.heap.size := by
    obtain ⟨tb, tq, rc, h1, h2⟩ := key 0 (by decide)
    have := World.var?_cell hg hv 0
    exact lt_of_cell (this.trans h1)
  refine ⟨hlt, Nat.le_refl _, fun k hk => ?_⟩
  obtain ⟨tb, tq, rc, h1, h2⟩ := key k hk
  refine ⟨tb, tq, rc, ?_, (World.var?_cell hg hv k).trans h1, h2⟩
  obtain ⟨b, off, e, hR⟩ := h2 0 (rowsP_pos k)
  cases e
  exact lt_of_cell hR.c0
end Go.Proofs.YtpobhbdomldecaaGreatDoor
namespace Go.Proofs.YtpobhbdomldecaaGreatDoor
set_option linter.unusedSimpArgs false
set_option linter.unusedVariables false
open Go.RowKit Go.ChangeShapes Go.WideShapes Go.ChangeAt
set_option maxRecDepth 100000 in
theorem of_laidHd {W : World} (h : laidMetH Tryz.prog Rows.headerRootsRow.laid W) : PT W.heap.size W := by
  have h' : laidMet Tryz.prog Rows.headerRootsRow.laid W := h
  obtain ⟨ps, ⟨g0, t0, cs0, f0, p0, q0, hg0, ht0, hv0, hd0, _⟩, _⟩ := h'
  obtain rfl : 5 = g0 := Option.some.inj ((show _ = some 5 by kernel_rfl).symm.trans hg0)
  obtain rfl : 339 = t0 := Option.some.inj ((show _ = some 339 by kernel_rfl).symm.trans ht0)
  exact ⟨ptab_of rfl hg0 hv0 hd0, Nat.le_refl _⟩
end Go.Proofs.YtpobhbdomldecaaGreatDoor
namespace Go.Proofs.YtpobhbdomldecaaGreatDoor.htxns
set_option linter.unusedSimpArgs false
set_option linter.unusedVariables false
open Go.RowKit Go.ChangeShapes Go.WideShapes Go.ChangeAt
theorem door_met (os : Os) (args : Array Value) : laidMetH Tryz.prog Rows.headerTxnsRow.laid ((World.doorLaid Tryz.prog 72 os).forCall (fun _ _ => 0) ⟨#[], args, []⟩).memory :=
  laidMetH_of_parts3 (fuel := 8) (laidMet_of_run' 8 (by kernel_rfl) (by kernel_rfl)) (by kernel_rfl) (by kernel_rfl)
set_option maxRecDepth 100000 in
theorem lifted (os : Os) (started : os.Started) (H : Type) (enc : TypeId × Value → H) :
    ReturnsInHanded {} Tryz.checked os 4 .any (fun w args => (Rows.headerTxnsSpec.pre enc Tryz.prog Tryz.f4 [] false w args ∧ laidMetH Tryz.prog Rows.headerTxnsRow.laid w) ∧ sizedMet enc Tryz.prog Tryz.f4 (OpenSpec.ofChange Rows.headerTxnsSpec) false w args)
      (Rows.headerTxnsSpec.post enc Tryz.prog Tryz.f4 false true false false) := by
  refine returnsInHanded_of_change_and (C := Tryz.checked) (X := fun w _ => laidMetH Tryz.prog Rows.headerTxnsRow.laid w) (fun _ _ _ hh h => h.of_heap hh) own started (by kernel_rfl) Tryz.func4
    (ChangeSpec.witness_shaped (enc := enc) (C := Tryz.checked) (os := os) (X := fun w _ => laidMetH Tryz.prog Rows.headerTxnsRow.laid w) false (World.doorLaid Tryz.prog 72 os) #[.slice none 0 0] 8 rfl (World.shaped_of_RefB (by kernel_rfl) (by kernel_rfl)) (by kernel_rfl) (by kernel_rfl) (by kernel_rfl) (door_met os _)) ?_
  intro W base args ds gs before hval0 hW _ _ hL _
  have hval : ∀ (j : Nat) t v, Tryz.f4.params[j]? = some t → args[j]? = some v → Value.okWide Tryz.prog W .any base t v := hval0
  have hW' := hW
  obtain ⟨p, q, hA0, hV, rfl, hfz, hnd⟩ := hW
  have hA : DataW.TrodAll enc Tryz.prog W 0 (fun _ => true) true Tryz.f4.params.toList args.toList ds p := hA0
  rw [Tryz.params4] at hA hval
  have hAA := hA
  obtain ⟨v0, vs0, d0, ds0, p0, q0, hargs, rfl, rfl, h0, r0⟩ := trodAll_cons hA
  obtain ⟨rfl, rfl, rfl⟩ := trodAll_nil r0
  obtain rfl : args = #[v0] := by cases args; simp_all
  obtain ⟨rfl, rfl⟩ := trodVars_none hV
  obtain ⟨a0, c0, l0, rfl, lc0, cm0, o0⟩ := open_txts Tryz.underlying36 Tryz.underlying9 (by kernel_rfl) (hval 0 _ _ rfl rfl) h0
  have hT := of_laidHd (show laidMetH Tryz.prog Rows.headerRootsRow.laid W from hL)
  unfold maxLen at cm0
  clear hA0 hval0
  refine (txns23_law W.heap.size l0 a0 c0 W hT o0 (by omega)).mono fun e W' ⟨he, bel⟩ => ?_
  subst he
  have hback := below_trodAll laidOut bel (fun t ht => ⟨by revert t; exact of_decide_eq_true (by kernel_rfl), by revert t; exact of_decide_eq_true (by kernel_rfl)⟩) hAA
  exact ⟨_, rfl, _, _, _, [], _, [], hW', trodAll_mk1 (shut_bool Tryz.underlying4 _), hback, rfl, bel.frame _, fun h => by cases h⟩
end Go.Proofs.YtpobhbdomldecaaGreatDoor.htxns
