/- Parts of the proof, one behind the other. -/
import Derived.Test.YtoafjbillcooiaaGreatLvfP5
import Derived.ProofKit
import Derived.OpenShut
import Derived.ShutString
import Derived.ChangeOld
import Derived.Deep.Slices
import Derived.Deep.Fields
import Derived.ChangeMaps5
namespace Go.Proofs.YtoafjbillcooiaaGreat
open Go.RowKit
set_option linter.unusedSimpArgs false
set_option linter.unusedVariables false
theorem ladR_one (seed : ByteArray) : ladR seed 1 = hashP leafT [num8S 0 ++ publicP seed 0] := by
  unfold ladR treeR
  have e : depN (rungL seed 1) = 0 := by unfold depN; rw [rungL_len]; rfl
  rw [e]
  unfold plD
  have e2 : revOf 0 0 = 0 := rfl
  rw [e2, if_pos (by rw [rungL_len]; decide), rungL_at _ _ _ (by decide)]
  rfl
theorem wk_new : newE 32 7 3 1 = 0 := by decide
theorem wk_key7 : keyO 7 3 1 7 = some 0 := by decide
theorem wk_key9 : keyO 7 3 1 9 = some 0 := by decide
theorem wk_key10 : keyO 7 3 1 10 = none := by decide
theorem wk_ver (seed dg : ByteArray) (hd : dg.size = 32) (r : Nat) : verE (ladR seed 1) 7 3 1 r dg (signD seed 7 3 1 9 dg) = match keyO 7 3 1 r with | none => 16 | some j => if j = 0 then 0 else 10 :=
  holds_verE hd (by decide) (by decide) (by decide) wk_key9
theorem SignIs.lit {S : SigD} {E : Int} {w w' : World} {e : Ending} (h : SignIs S E w e w') : ∃ wa wc pa pc, e = .returned (.tuple #[.agg #[.int .u64 S.ix, .slice wa (len S.ws) wc, .slice pa (len S.ps) pc], .int .i64 E]) ∧ Txts w' wa S.ws ∧ Txts w' pa S.ps ∧ len S.ps ≤ pc ∧ Below w.heap.size w w' := by
  obtain ⟨v, p, rfl, ⟨wa, wc, rfl, h1, -⟩, ⟨pa, pc, rfl, h2, h3, -⟩, hb⟩ := h
  exact ⟨wa, wc, pa, pc, rfl, h1, h2, h3, hb⟩
set_option maxRecDepth 100000 in
set_option maxHeartbeats 8000000 in
theorem works14_any (w : World) : Calls Tryz.prog 29 #[] w fun e w' => e = .returned (.bool true) ∧ Below w.heap.size w w' := by
  go_enter Tryz.func29, Tryz.ntmps29
  go_wp2_with fail
  refine (text14_any 115 32 w (by decide) (by decide)).mono ?_
  rintro e w1 ⟨rfl, hb1⟩
  have HB1 := Lib.hid hb1
  clear hb1
  go_wp2_with fail
  refine (text14_any 100 32 w1 (by decide) (by decide)).mono ?_
  rintro e w2 ⟨rfl, hb2⟩
  have HB2 := Lib.hid (bnext HB1.out hb2)
  obtain ⟨seed, hseed⟩ : ∃ s, textN 115 32 = s := ⟨_, rfl⟩
  obtain ⟨dg, hdg⟩ : ∃ s, textN 100 32 = s := ⟨_, rfl⟩
  have HSS : Hid (seed.size = 32) := Lib.hid (by rw [← hseed]; exact textN_size _ _)
  have HDS : Hid (dg.size = 32) := Lib.hid (by rw [← hdg]; exact textN_size _ _)
  rw [hseed, hdg]
  clear hb2 hseed hdg
  go_wp2_with fail
  refine (new14_any seed 7 3 1 w2 (by decide)).mono ?_
  rintro e w3 ⟨hn, hb3⟩
  have HB3 := Lib.hid (bnext HB2.out hb3)
  rw [HSS.out, wk_new] at hn
  obtain ⟨h9, -⟩ | ⟨-, lb, tb, rfl, hl, -⟩ := hn
  · exact absurd rfl h9
  have HL : Hid (LadAt seed 7 3 1 lb tb w3) := Lib.hid hl
  clear hb3 hl
  go_wp2_with fail
  have hsg := sign14_any seed dg 7 3 1 lb tb 9 w3 HL.out (by decide) (by decide) (by decide) (by decide) (by rw [HSS.out]; decide)
  refine hsg.mono ?_
  rintro e w4 hs
  obtain ⟨wa, wc, pa, pc, rfl, htw, htp, hpc, hb4⟩ := hs.lit
  have hsd := signD_ok (seed := seed) (d := dg) wk_key9 HDS.out
  have HV := Lib.hid (wk_ver seed dg HDS.out)
  obtain ⟨ws, hws⟩ : ∃ ws, (signD seed 7 3 1 9 dg).ws = ws := ⟨_, rfl⟩
  obtain ⟨ps, hps⟩ : ∃ ps, (signD seed 7 3 1 9 dg).ps = ps := ⟨_, rfl⟩
  have hix : (signD seed 7 3 1 9 dg).ix = 0 := by rw [hsd.1]; rfl
  have HSD : Hid (signD seed 7 3 1 9 dg = ⟨0, ws, ps⟩) := Lib.hid (by rw [← hws, ← hps, ← hix])
  have hl67 : len ws = 67 := by rw [← hws, hsd.1]; show len (sgL seed 0 dg) = 67; unfold sgL; rw [if_pos HDS.out]; exact chL_len _ _
  have hl0 : len ps = 0 := by rw [← hps, hsd.1]; show len (oneD (rungL seed 1) 0) = 0; rw [oneD_len (by rw [rungL_len]; decide)]; unfold depN; rw [rungL_len]; rfl
  rw [hws, hps, hix, hsd.2, hl67, hl0]
  rw [hws] at htw
  rw [hps] at htp hpc
  have HL67 := Lib.hid hl67
  have HL0 := Lib.hid hl0
  have HTW := Lib.hid htw
  have HTP := Lib.hid htp
  have HB4 := Lib.hid (bnext HB3.out hb4)
  have HL4 := Lib.hid (HL.out.below hb4)
  clear hsg hs hsd hws hps hix hl67 hl0 htw htp hpc hb4
  go_upto_region 6 with fail
  obtain ⟨sb, hsb⟩ : ∃ sb, w4.heap.size = sb := ⟨_, rfl⟩
  obtain ⟨V, hV⟩ : ∃ V, w4.alloc (.cells #[.int .u64 0, .slice wa 67 wc, .slice pa 0 pc] 54) = V := ⟨_, rfl⟩
  have HSB : Hid (V.heap[sb]? = some (.cells #[.int .u64 0, .slice wa 67 wc, .slice pa 0 pc] 54 (0, 0))) := Lib.hid (by rw [← hV]; exact alloc_new_at _ hsb)
  have hbv : Below w4.heap.size w4 V := by rw [← hV]; exact balloc (Below.refl _ _) _
  have HBV := Lib.hid (bnext HB4.out hbv)
  have HLV := Lib.hid (HL4.out.below hbv)
  have HTWV := Lib.hid (HTW.out.below hbv)
  have HTPV := Lib.hid (HTP.out.below hbv)
  rw [hV, hsb]
  clear hV hsb hbv
  go_wp2_with fail
  refine (lpart_any seed 7 3 1 lb tb 5 V HLV.out).mono ?_
  rintro e w5 ⟨rfl, hb5⟩
  obtain ⟨RT, hrt⟩ : ∃ rt, ladR seed 1 = rt := ⟨_, rfl⟩
  rw [hrt]
  have HSB5 := Lib.hid ((hb5.block _ (lt_of_block HSB.out)).trans HSB.out)
  have HB5 := Lib.hid (bnext HBV.out hb5)
  have HL5 := Lib.hid (HLV.out.below hb5)
  have HTW5 := Lib.hid (HTWV.out.below hb5)
  have HTP5 := Lib.hid (HTPV.out.below hb5)
  have HV9 := HV.out
  rw [hrt, HSD.out] at HV9
  have HVV := Lib.hid HV9
  have HRQ := Lib.hid (ladR_one seed)
  rw [hrt] at HRQ
  have HLR : Hid (∀ wv lb' tb', LadAt seed 7 3 1 lb' tb' wv → Calls Tryz.prog 35 #[.pointer (some ⟨lb', 0, none⟩)] wv fun e w' => e = .returned (.string RT) ∧ Below wv.heap.size wv w') := Lib.hid (fun wv b1 b2 h => by rw [← hrt]; exact lroot14_any seed 7 3 1 b1 b2 wv h)
  clear hb5 HV9 hrt
  go_upto_region 7 with fail
  obtain ⟨pb, hpb⟩ : ∃ pb, w5.heap.size = pb := ⟨_, rfl⟩
  obtain ⟨W, hW⟩ : ∃ W, w5.alloc (.cells #[.string RT, .int .u64 5, .int .u64 7, .int .u64 3, .int .u64 1] 62) = W := ⟨_, rfl⟩
  have hpw : W.heap[pb]? = some (.cells #[.string RT, .int .u64 5, .int .u64 7, .int .u64 3, .int .u64 1] 62 (0, 0)) := by rw [← hW]; exact alloc_new_at _ hpb
  have hbw : Below w5.heap.size w5 W := by rw [← hW]; exact balloc (Below.refl _ _) _
  have hsw := (hbw.block _ (lt_of_block HSB5.out)).trans HSB5.out
  have s0 : W.cell? ⟨sb, 0, none⟩ = some (.int .u64 0) := block_cell hsw 0
  have s1 : W.cell? ⟨sb, 1, none⟩ = some (.slice wa 67 wc) := block_cell hsw 1
  have s2 : W.cell? ⟨sb, 2, none⟩ = some (.slice pa 0 pc) := block_cell hsw 2
  have t0 : W.cell? ⟨pb, 0, none⟩ = some (.string RT) := block_cell hpw 0
  have t1 : W.cell? ⟨pb, 1, none⟩ = some (.int .u64 5) := block_cell hpw 1
  have t2 : W.cell? ⟨pb, 2, none⟩ = some (.int .u64 7) := block_cell hpw 2
  have t3 : W.cell? ⟨pb, 3, none⟩ = some (.int .u64 3) := block_cell hpw 3
  have t4 : W.cell? ⟨pb, 4, none⟩ = some (.int .u64 1) := block_cell hpw 4
  have HBW := Lib.hid (bnext HB5.out hbw)
  have HLW := Lib.hid (HL5.out.below hbw)
  have HTWW := Lib.hid (HTW5.out.below hbw)
  have HTPW := Lib.hid (HTP5.out.below hbw)
  rw [hW, hpb]
  clear hW hpb hpw hbw hsw
  obtain ⟨P, hP⟩ : ∃ P, num8S 0 = P := ⟨_, rfl⟩
  obtain ⟨Q, hQ⟩ : ∃ Q, publicP seed 0 = Q := ⟨_, rfl⟩
  have qz : P.size + Q.size ≤ 9223372036854775807 := by rw [← hP, ← hQ, num8S_size, publicP_size]; decide
  have qb : (RT.toList == RT.toList) = true := by rw [str_beq]; exact decide_eq_true rfl
  have HRT : Hid (∀ wv, Below W.heap.size W wv → Calls Tryz.prog 35 #[.pointer (some ⟨lb, 0, none⟩)] wv fun e w' => e = .returned (.string RT) ∧ Below wv.heap.size wv w') := Lib.hid (fun wv hb => HLR.out wv lb tb (HLW.out.below hb))
  have HNM : Hid (∀ wv, Calls Tryz.prog 40 #[.int .u64 0] wv fun e w' => e = .returned (.string P) ∧ Below wv.heap.size wv w') := Lib.hid (fun wv => by rw [← hP]; exact dnum_any 0 wv (by decide))
  have HPB : Hid (∀ wv, Calls Tryz.prog 41 #[.string seed, .int .u64 0] wv fun e w' => e = .returned (.string Q) ∧ Below wv.heap.size wv w') := Lib.hid (fun wv => by rw [← hQ]; exact public_any seed 0 wv (by decide) (by rw [HSS.out]; decide))
  have HHS : Hid (∀ wv b, wv.heap[b]? = some (.cells #[.string (P ++ Q)] 9 (0, 0)) → Calls Tryz.prog 53 #[.string leafT, .slice (some ⟨b, 0, none⟩) 1 1] wv fun e w' => e = .returned (.string RT) ∧ Below wv.heap.size wv w') := Lib.hid (fun wv b h => by
    rw [HRQ.out, hP, hQ]
    exact hash_any leafT [P ++ Q] (some ⟨b, 0, none⟩) 1 wv (by decide) (by decide) (txts1 h) (by
      have e : (P ++ Q).size = 40 := by rw [ByteArray.size_append, ← hP, ← hQ, num8S_size, publicP_size]
      simp [partsL, partL_len, e]))
  have hver : ∀ r, r < 18446744073709551616 → ∀ wv, Below W.heap.size W wv → Calls Tryz.prog 27 #[.agg #[.string RT, .int .u64 5, .int .u64 7, .int .u64 3, .int .u64 1], .int .u64 (r : Nat), .string dg, .agg #[.int .u64 0, .slice wa 67 wc, .slice pa 0 pc]] wv fun e w' => e = .returned (.int .i64 (verE RT 7 3 1 r dg ⟨0, ws, ps⟩)) ∧ Below wv.heap.size wv w' := fun r hr wv hb => by
    have h9 := verify_any RT dg 5 7 3 1 r 0 ws ps wa pa wc pc wv (HTWW.out.below hb) (HTPW.out.below hb) (by decide) hr (by rw [HL67.out]; decide) (by rw [HL0.out]; decide) (by rw [HL0.out]; exact Nat.zero_le _)
    rw [HL67.out, HL0.out] at h9
    exact h9
  have HV7 : Hid (∀ wv, Below W.heap.size W wv → Calls Tryz.prog 27 #[.agg #[.string RT, .int .u64 5, .int .u64 7, .int .u64 3, .int .u64 1], .int .u64 7, .string dg, .agg #[.int .u64 0, .slice wa 67 wc, .slice pa 0 pc]] wv fun e w' => e = .returned (.int .i64 0) ∧ Below wv.heap.size wv w') := Lib.hid (fun wv hb => by
    have h9 := hver 7 (by decide) wv hb
    rw [HVV.out 7, wk_key7] at h9
    exact h9)
  have HV10 : Hid (∀ wv, Below W.heap.size W wv → Calls Tryz.prog 27 #[.agg #[.string RT, .int .u64 5, .int .u64 7, .int .u64 3, .int .u64 1], .int .u64 10, .string dg, .agg #[.int .u64 0, .slice wa 67 wc, .slice pa 0 pc]] wv fun e w' => e = .returned (.int .i64 16) ∧ Below wv.heap.size wv w') := Lib.hid (fun wv hb => by
    have h9 := hver 10 (by decide) wv hb
    rw [HVV.out 10, wk_key10] at h9
    exact h9)
  clear hver hP hQ
  refine wp_region_all 1000 (none) (phis [fun u _ => u = (.pointer (some ⟨lb, 0, none⟩)), fun u _ => u = (.string RT), fun u _ => u = (.string P), fun u _ => u = (.string seed), fun u _ => u = (.string Q), fun u _ => u = (.string (P ++ Q)), fun u w' => ∃ b, u = .slice (some ⟨b, 0, none⟩) 1 1 ∧ w'.heap[b]? = some (.cells #[.string (P ++ Q)] 9 (0, 0)), fun u _ => u = (.string RT), fun u _ => u = (.bool true), fun u _ => u = (.bool true), fun u _ => u = (.int .i64 0), fun u _ => u = (.bool true), fun u _ => u = (.bool true), fun u _ => u = (.bool true), fun u _ => u = (.pointer (some ⟨sb, 1, none⟩)), fun u _ => u = (.slice wa 67 wc), fun u _ => u = (.int .i64 67), fun u _ => u = (.bool true), fun u _ => u = (.bool true), fun u _ => u = (.bool true), fun u _ => u = (.pointer (some ⟨sb, 2, none⟩)), fun u _ => u = (.slice pa 0 pc), fun u _ => u = (.int .i64 0), fun u _ => u = (.bool true), fun u _ => u = (.bool true), fun u _ => u = (.bool true), fun u _ => u = (.agg #[.string RT, .int .u64 5, .int .u64 7, .int .u64 3, .int .u64 1]), fun u _ => u = (.pointer (some ⟨lb, 0, none⟩)), fun u _ => u = (.string RT), fun u _ => u = (.agg #[.string RT, .int .u64 5, .int .u64 7, .int .u64 3, .int .u64 1]), fun u _ => u = (.bool true), fun u _ => u = (.bool true), fun u _ => u = (.bool true), fun u _ => u = (.agg #[.string RT, .int .u64 5, .int .u64 7, .int .u64 3, .int .u64 1]), fun u _ => u = (.string dg), fun u _ => u = (.agg #[.int .u64 0, .slice wa 67 wc, .slice pa 0 pc]), fun u _ => u = (.int .i64 0), fun u _ => u = (.bool true), fun u _ => u = (.bool true), fun u _ => u = (.bool true), fun u _ => u = (.agg #[.string RT, .int .u64 5, .int .u64 7, .int .u64 3, .int .u64 1]), fun u _ => u = (.string dg), fun u _ => u = (.agg #[.int .u64 0, .slice wa 67 wc, .slice pa 0 pc]), fun u _ => u = (.int .i64 16), fun u _ => u = (.bool true), fun u _ => u = (.bool true), fun u _ => u = (.bool true)]) rfl (by kernel_rfl) (mono_of ⟨mono_eq, mono_eq, mono_eq, mono_eq, mono_eq, mono_eq, ?m6, mono_eq, mono_eq, mono_eq, mono_eq, mono_eq, mono_eq, mono_eq, mono_eq, mono_eq, mono_eq, mono_eq, mono_eq, mono_eq, mono_eq, mono_eq, mono_eq, mono_eq, mono_eq, mono_eq, mono_eq, mono_eq, mono_eq, mono_eq, mono_eq, mono_eq, mono_eq, mono_eq, mono_eq, mono_eq, mono_eq, mono_eq, mono_eq, mono_eq, mono_eq, mono_eq, mono_eq, mono_eq, mono_eq, mono_eq, mono_eq, trivial⟩) (steps_of 47 ⟨?s0, ?s1, ?s2, ?s3, ?s4, ?s5, ?s6, ?s7, ?s8, ?s9, ?s10, ?s11, ?s12, ?s13, ?s14, ?s15, ?s16, ?s17, ?s18, ?s19, ?s20, ?s21, ?s22, ?s23, ?s24, ?s25, ?s26, ?s27, ?s28, ?s29, ?s30, ?s31, ?s32, ?s33, ?s34, ?s35, ?s36, ?s37, ?s38, ?s39, ?s40, ?s41, ?s42, ?s43, ?s44, ?s45, ?s46, trivial⟩) ?_
  case m6 =>
    exact ⟨fun u w1 w' h ⟨b, h1, hb⟩ => ⟨b, h1, ext_block h hb⟩, fun _ u w1 w' h ⟨b, h1, hb⟩ => ⟨b, h1, extB_block h (by simp) hb⟩⟩
  case s0 =>
    refine qV (fun _ => rfl) rfl fun av wv hE hO hD => ?_
    simp [go_sem, qF av 3 (.pointer (some ⟨lb, 0, none⟩)) (hO.2.2 3 rfl), qz, qb]
  case s1 =>
    refine step_wp (fun av wv hE hS hO hD => ⟨rfl, ?_⟩)
    have f29 := qE (hD.1 rfl _ rfl)
    refine wp_of_call (v := .string RT) (by simp [go_sem, f29]) (HRT.out wv (of_drew hE)) (fun w2 hb => ⟨_, rfl, es_of_ext hb, rfl⟩)
  case s2 =>
    refine step_wp (fun av wv hE hS hO hD => ⟨rfl, ?_⟩)
    refine wp_of_call (v := .string P) (by simp [go_sem]) (HNM.out wv) (fun w2 hb => ⟨_, rfl, es_of_ext hb, rfl⟩)
  case s3 =>
    refine qV (fun _ => rfl) rfl fun av wv hE hO hD => ?_
    simp [go_sem, qF av 1 (.string seed) (hO.2.2 1 rfl), qz, qb]
  case s4 =>
    refine step_wp (fun av wv hE hS hO hD => ⟨rfl, ?_⟩)
    have f32 := qE (hD.1 rfl _ rfl)
    refine wp_of_call (v := .string Q) (by simp [go_sem, f32]) (HPB.out wv) (fun w2 hb => ⟨_, rfl, es_of_ext hb, rfl⟩)
  case s5 =>
    refine qV (fun _ => rfl) rfl fun av wv hE hO hD => ?_
    simp [go_sem, qE (hD.1 rfl _ rfl), qE (hD.2.1 rfl _ rfl), qz, qb]
  case s6 =>
    refine step_wp (fun av wv hE hS hO hD => ⟨rfl, ?_⟩)
    have f34 := qE (hD.1 rfl _ rfl)
    exact wp_of_run (v := .slice (some ⟨wv.heap.size, 0, none⟩) 1 1) (w' := wv.alloc (.cells #[.string (P ++ Q)] 9)) (by simp [go_sem, f34]) ⟨_, rfl, es_of_ext (balloc (Ext_refl _) _), wv.heap.size, rfl, heap_alloc_new _ _⟩
  case s7 =>
    refine step_wp (fun av wv hE hS hO hD => ⟨rfl, ?_⟩)
    have d35 : (fun u w' => ∃ b, u = .slice (some ⟨b, 0, none⟩) 1 1 ∧ w'.heap[b]? = some (.cells #[.string (P ++ Q)] 9 (0, 0))) (av.eval (.tmp 35)) wv := hD.1 rfl _ rfl
    obtain ⟨b, hq, hcq⟩ := d35
    have fq := (ev_form av 35).symm.trans hq
    refine wp_of_call (v := .string RT) (by simp [go_sem, fq, leafT]) (HHS.out wv b hcq) (fun w2 hb => ⟨_, rfl, es_of_ext hb, rfl⟩)
  case s8 =>
    refine qV (fun _ => rfl) rfl fun av wv hE hO hD => ?_
    simp [go_sem, qE (hD.1 rfl _ rfl), qE (hD.2.1 rfl _ rfl), qz, qb]
  case s9 =>
    refine qV (fun _ => rfl) rfl fun av wv hE hO hD => ?_
    simp [go_sem, qE (hD.1 rfl _ rfl), qz, qb]
  case s10 =>
    refine step_val (fun av wv hE hS hO hD => ⟨(wY rfl rfl rfl (hD.1 rfl _ rfl)), ?_⟩) (fun _ => rfl)
    simp [go_sem, qF av 6 (.int .i64 0) (hO.2.2 6 rfl), qE (hD.1 rfl _ rfl), qz, qb]
  case s11 =>
    refine step_val (fun av wv hE hS hO hD => ⟨(wY rfl rfl rfl (hD.2.1 rfl _ rfl)), ?_⟩) (fun _ => rfl)
    simp [go_sem, qE (hD.1 rfl _ rfl), qE (hD.2.1 rfl _ rfl), qz, qb]
  case s12 =>
    refine qV (fun _ => rfl) rfl fun av wv hE hO hD => ?_
    simp [go_sem, qE (hD.1 rfl _ rfl), qE (hD.2.1 rfl _ rfl), qz, qb]
  case s13 =>
    refine qV (fun _ => rfl) rfl fun av wv hE hO hD => ?_
    simp [go_sem, qE (hD.1 rfl _ rfl), qz, qb]
  case s14 =>
    refine step_val (fun av wv hE hS hO hD => ⟨(wY rfl rfl rfl (hD.1 rfl _ rfl)), ?_⟩) (fun _ => rfl)
    simp [go_sem, qF av 5 (.pointer (some ⟨sb, 0, none⟩)) (hO.2.2 5 rfl), qE (hD.1 rfl _ rfl), qz, qb]
  case s15 =>
    refine step_val (fun av wv hE hS hO hD => ⟨(wY rfl rfl rfl (hD.2.1 rfl _ rfl)), ?_⟩) (fun _ => rfl)
    simp [go_sem, qE (hD.1 rfl _ rfl), qE (hD.2.1 rfl _ rfl), extB_cell hE (by simp) s0, extB_cell hE (by simp) s1, extB_cell hE (by simp) s2, extB_cell hE (by simp) t0, extB_cell hE (by simp) t1, extB_cell hE (by simp) t2, extB_cell hE (by simp) t3, extB_cell hE (by simp) t4, qz, qb]
  case s16 =>
    refine step_val (fun av wv hE hS hO hD => ⟨(wY rfl rfl rfl (hD.2.1 rfl _ rfl)), ?_⟩) (fun _ => rfl)
    simp [go_sem, qE (hD.1 rfl _ rfl), qE (hD.2.1 rfl _ rfl), qz, qb]
  case s17 =>
    refine step_val (fun av wv hE hS hO hD => ⟨(wY rfl rfl rfl (hD.2.1 rfl _ rfl)), ?_⟩) (fun _ => rfl)
    simp [go_sem, qE (hD.1 rfl _ rfl), qE (hD.2.1 rfl _ rfl), qz, qb]
  case s18 =>
    refine qV (fun _ => rfl) rfl fun av wv hE hO hD => ?_
    simp [go_sem, qE (hD.1 rfl _ rfl), qE (hD.2.1 rfl _ rfl), qz, qb]
  case s19 =>
    refine qV (fun _ => rfl) rfl fun av wv hE hO hD => ?_
    simp [go_sem, qE (hD.1 rfl _ rfl), qz, qb]
  case s20 =>
    refine step_val (fun av wv hE hS hO hD => ⟨(wY rfl rfl rfl (hD.1 rfl _ rfl)), ?_⟩) (fun _ => rfl)
    simp [go_sem, qF av 5 (.pointer (some ⟨sb, 0, none⟩)) (hO.2.2 5 rfl), qE (hD.1 rfl _ rfl), qz, qb]
  case s21 =>
    refine step_val (fun av wv hE hS hO hD => ⟨(wY rfl rfl rfl (hD.2.1 rfl _ rfl)), ?_⟩) (fun _ => rfl)
    simp [go_sem, qE (hD.1 rfl _ rfl), qE (hD.2.1 rfl _ rfl), extB_cell hE (by simp) s0, extB_cell hE (by simp) s1, extB_cell hE (by simp) s2, extB_cell hE (by simp) t0, extB_cell hE (by simp) t1, extB_cell hE (by simp) t2, extB_cell hE (by simp) t3, extB_cell hE (by simp) t4, qz, qb]
  case s22 =>
    refine step_val (fun av wv hE hS hO hD => ⟨(wY rfl rfl rfl (hD.2.1 rfl _ rfl)), ?_⟩) (fun _ => rfl)
    simp [go_sem, qE (hD.1 rfl _ rfl), qE (hD.2.1 rfl _ rfl), qz, qb]
  case s23 =>
    refine step_val (fun av wv hE hS hO hD => ⟨(wY rfl rfl rfl (hD.2.1 rfl _ rfl)), ?_⟩) (fun _ => rfl)
    simp [go_sem, qE (hD.1 rfl _ rfl), qE (hD.2.1 rfl _ rfl), qz, qb]
  case s24 =>
    refine qV (fun _ => rfl) rfl fun av wv hE hO hD => ?_
    simp [go_sem, qE (hD.1 rfl _ rfl), qE (hD.2.1 rfl _ rfl), qz, qb]
  case s25 =>
    refine qV (fun _ => rfl) rfl fun av wv hE hO hD => ?_
    simp [go_sem, qE (hD.1 rfl _ rfl), qz, qb]
  case s26 =>
    refine step_val (fun av wv hE hS hO hD => ⟨(wY rfl rfl rfl (hD.1 rfl _ rfl)), ?_⟩) (fun _ => rfl)
    simp [go_sem, qF av 7 (.pointer (some ⟨pb, 0, none⟩)) (hO.2.2 7 rfl), qE (hD.1 rfl _ rfl), extB_cell hE (by simp) s0, extB_cell hE (by simp) s1, extB_cell hE (by simp) s2, extB_cell hE (by simp) t0, extB_cell hE (by simp) t1, extB_cell hE (by simp) t2, extB_cell hE (by simp) t3, extB_cell hE (by simp) t4, qz, qb]
  case s27 =>
    refine step_val (fun av wv hE hS hO hD => ⟨(wY rfl rfl rfl (hD.1 rfl _ rfl)), ?_⟩) (fun _ => rfl)
    simp [go_sem, qF av 3 (.pointer (some ⟨lb, 0, none⟩)) (hO.2.2 3 rfl), qE (hD.1 rfl _ rfl), qz, qb]
  case s28 =>
    refine step_wp (fun av wv hE hS hO hD => ⟨(wY rfl rfl rfl (hD.2.1 rfl _ rfl)), ?_⟩)
    have f56 := qE (hD.1 rfl _ rfl)
    refine wp_of_call (v := .string RT) (by simp [go_sem, f56]) (HRT.out wv (of_drew hE)) (fun w2 hb => ⟨_, rfl, es_of_ext hb, rfl⟩)
  case s29 =>
    refine step_val (fun av wv hE hS hO hD => ⟨(wY rfl rfl rfl (hD.2.1 rfl _ rfl)), ?_⟩) (fun _ => rfl)
    simp [go_sem, qE (hD.1 rfl _ rfl), qE (hD.2.1 rfl _ rfl), qz, qb]
  case s30 =>
    refine step_val (fun av wv hE hS hO hD => ⟨(wY rfl rfl rfl (hD.2.2.1 rfl _ rfl)), ?_⟩) (fun _ => rfl)
    simp [go_sem, qE (hD.1 rfl _ rfl), qE (hD.2.1 rfl _ rfl), qE (hD.2.2.1 rfl _ rfl), qz, qb]
  case s31 =>
    refine qV (fun _ => rfl) rfl fun av wv hE hO hD => ?_
    simp [go_sem, qE (hD.1 rfl _ rfl), qE (hD.2.1 rfl _ rfl), qz, qb]
  case s32 =>
    refine qV (fun _ => rfl) rfl fun av wv hE hO hD => ?_
    simp [go_sem, qE (hD.1 rfl _ rfl), qz, qb]
  case s33 =>
    refine step_val (fun av wv hE hS hO hD => ⟨(wY rfl rfl rfl (hD.1 rfl _ rfl)), ?_⟩) (fun _ => rfl)
    simp [go_sem, qF av 7 (.pointer (some ⟨pb, 0, none⟩)) (hO.2.2 7 rfl), qE (hD.1 rfl _ rfl), extB_cell hE (by simp) s0, extB_cell hE (by simp) s1, extB_cell hE (by simp) s2, extB_cell hE (by simp) t0, extB_cell hE (by simp) t1, extB_cell hE (by simp) t2, extB_cell hE (by simp) t3, extB_cell hE (by simp) t4, qz, qb]
  case s34 =>
    refine step_val (fun av wv hE hS hO hD => ⟨(wY rfl rfl rfl (hD.1 rfl _ rfl)), ?_⟩) (fun _ => rfl)
    simp [go_sem, qF av 2 (.string dg) (hO.2.2 2 rfl), qE (hD.1 rfl _ rfl), qz, qb]
  case s35 =>
    refine step_val (fun av wv hE hS hO hD => ⟨(wY rfl rfl rfl (hD.1 rfl _ rfl)), ?_⟩) (fun _ => rfl)
    simp [go_sem, qF av 5 (.pointer (some ⟨sb, 0, none⟩)) (hO.2.2 5 rfl), qE (hD.1 rfl _ rfl), extB_cell hE (by simp) s0, extB_cell hE (by simp) s1, extB_cell hE (by simp) s2, extB_cell hE (by simp) t0, extB_cell hE (by simp) t1, extB_cell hE (by simp) t2, extB_cell hE (by simp) t3, extB_cell hE (by simp) t4, qz, qb]
  case s36 =>
    refine step_wp (fun av wv hE hS hO hD => ⟨(wY rfl rfl rfl (hD.2.2.2.1 rfl _ rfl)), ?_⟩)
    have f62 := qE (hD.1 rfl _ rfl)
    have f63 := qE (hD.2.1 rfl _ rfl)
    have f64 := qE (hD.2.2.1 rfl _ rfl)
    refine wp_of_call (v := .int .i64 0) (by simp [go_sem, f62, f63, f64]) (HV7.out wv (of_drew hE)) (fun w2 hb => ⟨_, rfl, es_of_ext hb, rfl⟩)
  case s37 =>
    refine step_val (fun av wv hE hS hO hD => ⟨(wY rfl rfl rfl (hD.2.1 rfl _ rfl)), ?_⟩) (fun _ => rfl)
    simp [go_sem, qE (hD.1 rfl _ rfl), qE (hD.2.1 rfl _ rfl), qz, qb]
  case s38 =>
    refine qV (fun _ => rfl) rfl fun av wv hE hO hD => ?_
    simp [go_sem, qE (hD.1 rfl _ rfl), qE (hD.2.1 rfl _ rfl), qz, qb]
  case s39 =>
    refine qV (fun _ => rfl) rfl fun av wv hE hO hD => ?_
    simp [go_sem, qE (hD.1 rfl _ rfl), qz, qb]
  case s40 =>
    refine step_val (fun av wv hE hS hO hD => ⟨(wY rfl rfl rfl (hD.1 rfl _ rfl)), ?_⟩) (fun _ => rfl)
    simp [go_sem, qF av 7 (.pointer (some ⟨pb, 0, none⟩)) (hO.2.2 7 rfl), qE (hD.1 rfl _ rfl), extB_cell hE (by simp) s0, extB_cell hE (by simp) s1, extB_cell hE (by simp) s2, extB_cell hE (by simp) t0, extB_cell hE (by simp) t1, extB_cell hE (by simp) t2, extB_cell hE (by simp) t3, extB_cell hE (by simp) t4, qz, qb]
  case s41 =>
    refine step_val (fun av wv hE hS hO hD => ⟨(wY rfl rfl rfl (hD.1 rfl _ rfl)), ?_⟩) (fun _ => rfl)
    simp [go_sem, qF av 2 (.string dg) (hO.2.2 2 rfl), qE (hD.1 rfl _ rfl), qz, qb]
  case s42 =>
    refine step_val (fun av wv hE hS hO hD => ⟨(wY rfl rfl rfl (hD.1 rfl _ rfl)), ?_⟩) (fun _ => rfl)
    simp [go_sem, qF av 5 (.pointer (some ⟨sb, 0, none⟩)) (hO.2.2 5 rfl), qE (hD.1 rfl _ rfl), extB_cell hE (by simp) s0, extB_cell hE (by simp) s1, extB_cell hE (by simp) s2, extB_cell hE (by simp) t0, extB_cell hE (by simp) t1, extB_cell hE (by simp) t2, extB_cell hE (by simp) t3, extB_cell hE (by simp) t4, qz, qb]
  case s43 =>
    refine step_wp (fun av wv hE hS hO hD => ⟨(wY rfl rfl rfl (hD.2.2.2.1 rfl _ rfl)), ?_⟩)
    have f69 := qE (hD.1 rfl _ rfl)
    have f70 := qE (hD.2.1 rfl _ rfl)
    have f71 := qE (hD.2.2.1 rfl _ rfl)
    refine wp_of_call (v := .int .i64 16) (by simp [go_sem, f69, f70, f71]) (HV10.out wv (of_drew hE)) (fun w2 hb => ⟨_, rfl, es_of_ext hb, rfl⟩)
  case s44 =>
    refine step_val (fun av wv hE hS hO hD => ⟨(wY rfl rfl rfl (hD.2.1 rfl _ rfl)), ?_⟩) (fun _ => rfl)
    simp [go_sem, qE (hD.1 rfl _ rfl), qE (hD.2.1 rfl _ rfl), qz, qb]
  case s45 =>
    refine qV (fun _ => rfl) rfl fun av wv hE hO hD => ?_
    simp [go_sem, qE (hD.1 rfl _ rfl), qE (hD.2.1 rfl _ rfl), qz, qb]
  case s46 =>
    refine qV (fun _ => rfl) rfl fun av wv hE hO hD => ?_
    simp [go_sem, qE (hD.1 rfl _ rfl), qz, qb]
  intro a' w' hE hO hall
  have hA := act_of_outer (ds := [29, 30, 31, 32, 33, 34, 35, 36, 37, 38, 39, 40, 41, 42, 43, 44, 45, 46, 47, 48, 49, 50, 51, 52, 53, 54, 55, 56, 57, 58, 59, 60, 61, 62, 63, 64, 65, 66, 67, 68, 69, 70, 71, 72, 73, 74, 0]) rfl hO (by kernel_rfl)
  obtain ⟨j0, j1, j2, j3, j4, j5, j6, j7, j8, j9, j10, j11, j12, j13, j14, j15, j16, j17, j18, j19, j20, j21, j22, j23, j24, j25, j26, j27, j28, j29, j30, j31, j32, j33, j34, j35, j36, j37, j38, j39, j40, j41, j42, j43, j44, j45, j46, -⟩ := hall
  have e35 : (fun u w' => ∃ b, u = .slice (some ⟨b, 0, none⟩) 1 1 ∧ w'.heap[b]? = some (.cells #[.string (P ++ Q)] 9 (0, 0))) (a'.eval (.tmp 35)) w' := j6 _ rfl
  obtain ⟨v35, hv35⟩ : ∃ v, a'.eval (.tmp 35) = v := ⟨_, rfl⟩
  rw [hv35] at e35
  simp only [List.foldl_cons, List.foldl_nil, Act.put, List.setIfInBounds_toArray, List.set_cons_succ, List.set_cons_zero, qJ 29 (j0 _ rfl), qJ 30 (j1 _ rfl), qJ 31 (j2 _ rfl), qJ 32 (j3 _ rfl), qJ 33 (j4 _ rfl), qJ 34 (j5 _ rfl), hv35, qJ 36 (j7 _ rfl), qJ 37 (j8 _ rfl), qJ 38 (j9 _ rfl), qJ 39 (j10 _ rfl), qJ 40 (j11 _ rfl), qJ 41 (j12 _ rfl), qJ 42 (j13 _ rfl), qJ 43 (j14 _ rfl), qJ 44 (j15 _ rfl), qJ 45 (j16 _ rfl), qJ 46 (j17 _ rfl), qJ 47 (j18 _ rfl), qJ 48 (j19 _ rfl), qJ 49 (j20 _ rfl), qJ 50 (j21 _ rfl), qJ 51 (j22 _ rfl), qJ 52 (j23 _ rfl), qJ 53 (j24 _ rfl), qJ 54 (j25 _ rfl), qJ 55 (j26 _ rfl), qJ 56 (j27 _ rfl), qJ 57 (j28 _ rfl), qJ 58 (j29 _ rfl), qJ 59 (j30 _ rfl), qJ 60 (j31 _ rfl), qJ 61 (j32 _ rfl), qJ 62 (j33 _ rfl), qJ 63 (j34 _ rfl), qJ 64 (j35 _ rfl), qJ 65 (j36 _ rfl), qJ 66 (j37 _ rfl), qJ 67 (j38 _ rfl), qJ 68 (j39 _ rfl), qJ 69 (j40 _ rfl), qJ 70 (j41 _ rfl), qJ 71 (j42 _ rfl), qJ 72 (j43 _ rfl), qJ 73 (j44 _ rfl), qJ 74 (j45 _ rfl), qJ 0 (j46 _ rfl)] at hA
  clear hO j6 j0 j1 j2 j3 j4 j5 hv35 j7 j8 j9 j10 j11 j12 j13 j14 j15 j16 j17 j18 j19 j20 j21 j22 j23 j24 j25 j26 j27 j28 j29 j30 j31 j32 j33 j34 j35 j36 j37 j38 j39 j40 j41 j42 j43 j44 j45 j46
  subst hA
  have HE := Lib.hid (of_drew hE)
  clear hE s0 s1 s2 t0 t1 t2 t3 t4 qz qb
  go_wp2
  go_ret
  exact ⟨rfl, bnext HBW.out HE.out⟩
end Go.Proofs.YtoafjbillcooiaaGreat
namespace Go.Proofs.YtoafjbillcooiaaGreat
open Go.RowKit
set_option linter.unusedSimpArgs false
set_option linter.unusedVariables false
def madeV (s d z : Nat) (F0 L0 : Nat) (K0 : Int) (r wt : Nat) : List Value := [.int .u8 (s : Nat), .int .u8 (d : Nat), .int .u8 (z : Nat), .int .u64 (F0 : Nat), .int .u64 (L0 : Nat), .int .i64 K0, .int .u64 (r : Nat), .int .u64 (wt : Nat)]
end Go.Proofs.YtoafjbillcooiaaGreat
namespace Go.Proofs.YtoafjbillcooiaaGreat
open Go.RowKit
set_option linter.unusedSimpArgs false
set_option linter.unusedVariables false
def NwF (seed : ByteArray) (F L : Nat) (K : Int) (u : Value) (w : World) : Prop := newE seed.size F L K ≠ 0 ∧ u = .pointer none ∨ newE seed.size F L K = 0 ∧ ∃ b tb, u = .pointer (some ⟨b, 0, none⟩) ∧ LadAt seed F L K.toNat b tb w
def NwP (seed : ByteArray) (F L : Nat) (K : Int) (u : Value) (w : World) : Prop := ∃ p, u = .tuple #[p, .int .i64 (newE seed.size F L K)] ∧ NwF seed F L K p w
theorem NwF.below {seed : ByteArray} {F L : Nat} {K : Int} {u : Value} {w w' : World} (h : NwF seed F L K u w) (hb : Below w.heap.size w w') : NwF seed F L K u w' := by
  rcases h with h | ⟨h1, b, tb, h2, h3⟩
  · exact Or.inl h
  · exact Or.inr ⟨h1, b, tb, h2, h3.below hb⟩
theorem NwP.below {seed : ByteArray} {F L : Nat} {K : Int} {u : Value} {w w' : World} (h : NwP seed F L K u w) (hb : Below w.heap.size w w') : NwP seed F L K u w' := by
  obtain ⟨p, h1, h2⟩ := h
  exact ⟨p, h1, h2.below hb⟩
theorem NwP.pair {seed : ByteArray} {F L : Nat} {K : Int} {u : Value} {w : World} (h : NwP seed F L K u w) : ∃ p, u = .tuple #[p, .int .i64 (newE seed.size F L K)] ∧ NwF seed F L K p w := h
def RNwF (seed : ByteArray) (F L : Nat) (K : Int) (u : Value) (w : World) : Prop := newE seed.size F L K ≠ 0 ∧ u = .pointer none ∨ newE seed.size F L K = 0 ∧ ∃ b la lc, u = .pointer (some ⟨b, 0, none⟩) ∧ RLadAt seed F L K.toNat b la lc w
def RNwP (seed : ByteArray) (F L : Nat) (K : Int) (u : Value) (w : World) : Prop := ∃ p, u = .tuple #[p, .int .i64 (newE seed.size F L K)] ∧ RNwF seed F L K p w
theorem RNwF.below {seed : ByteArray} {F L : Nat} {K : Int} {u : Value} {w w' : World} (h : RNwF seed F L K u w) (hb : Below w.heap.size w w') : RNwF seed F L K u w' := by
  rcases h with h | ⟨h1, b, la, lc, h2, h3⟩
  · exact Or.inl h
  · exact Or.inr ⟨h1, b, la, lc, h2, h3.below hb⟩
theorem RNwP.below {seed : ByteArray} {F L : Nat} {K : Int} {u : Value} {w w' : World} (h : RNwP seed F L K u w) (hb : Below w.heap.size w w') : RNwP seed F L K u w' := by
  obtain ⟨p, h1, h2⟩ := h
  exact ⟨p, h1, h2.below hb⟩
theorem RNwP.pair {seed : ByteArray} {F L : Nat} {K : Int} {u : Value} {w : World} (h : RNwP seed F L K u w) : ∃ p, u = .tuple #[p, .int .i64 (newE seed.size F L K)] ∧ RNwF seed F L K p w := h
theorem rnewP_any (seed : ByteArray) (F L : Nat) (K : Int) (w : World) (hf : F < 18446744073709551616) (hL : L < 18446744073709551616) : Calls Tryz.prog 22 #[.string seed, .int .u64 (F : Nat), .int .u64 (L : Nat), .int .i64 K] w fun e w' => ∃ u, e = .returned u ∧ RNwP seed F L K u w' ∧ Below w.heap.size w w' := by
  cases h : mayL seed.size L K with
  | true =>
    have hK : 1 ≤ K := (mayL_K h).1
    obtain ⟨k, rfl⟩ : ∃ k : Nat, K = (k : Int) := ⟨K.toNat, by omega⟩
    refine (rnew14_main seed F L k w h hf hL).mono ?_
    rintro e w' ⟨⟨h0, rfl⟩ | ⟨h0, b, la, lc, rfl, hl, -⟩, hb⟩
    · exact ⟨_, rfl, ⟨_, rfl, Or.inl ⟨h0, rfl⟩⟩, hb⟩
    · exact ⟨_, rfl, ⟨_, by rw [h0], Or.inr ⟨h0, b, la, lc, rfl, hl⟩⟩, hb⟩
  | false =>
    have h2 := rnewE_may (f := F) h
    refine (rnew14_may seed F L K w h).mono ?_
    rintro e w' ⟨rfl, hb⟩
    exact ⟨_, rfl, ⟨_, by rw [h2], Or.inl ⟨by rw [h2]; decide, rfl⟩⟩, hb⟩
end Go.Proofs.YtoafjbillcooiaaGreat
namespace Go.Proofs.YtoafjbillcooiaaGreat
open Go.RowKit
set_option linter.unusedSimpArgs false
set_option linter.unusedVariables false
theorem txts_setN {w : World} {a : Option Addr} {l : List ByteArray} {g o : Nat} {cs : Array Value} {ty : TypeId} {fr : Nat × Nat} (h : Txts w a l) (hg : w.heap[g]? = some (.cells cs ty fr)) (hk : ∀ (k : Nat) (s : ByteArray), cs[k]? ≠ some (.string s)) (u : Value) : Txts (w.setCell ⟨g, o, none⟩ u) a l := fun i hi => by
  obtain ⟨b, off, e1, e2⟩ := h i hi
  refine ⟨b, off, e1, ?_⟩
  have hne : b ≠ g := fun e => by
    subst e
    rw [block_cell hg] at e2
    exact hk _ _ e2
  rw [World.cell?_of_block (w := w) (a := ⟨b, off + i, none⟩) (Below.heap_setCell _ _ _ _ hne)]
  exact e2
theorem len_takeT (l : List ByteArray) (m : Nat) (h : m ≤ len l) : len (l.take m) = m := by
  rw [len_eq, List.length_take]
  rw [len_eq] at h
  omega
set_option maxRecDepth 100000 in
set_option maxHeartbeats 8000000 in
theorem verifies14_law (s d z F L r wt x a y : Nat) (K0 oi : Int) (os op : List ByteArray) (oa pa : Option Addr) (oc pc : Nat) (w : World) (hs : s ≤ 255) (hd : d ≤ 255) (hF : F < 18446744073709551616) (hL : L < 18446744073709551616) (hK : -9223372036854775808 ≤ K0 ∧ K0 ≤ 9223372036854775807) (hr : r < 18446744073709551616) (hw : wt < 18446744073709551616) (hx : x ≤ 255) (ha : a ≤ 255) (hy : y ≤ 255) (ho : Txts w oa os ∧ len os ≤ oc ∧ oc ≤ maxLen) (hp : Txts w pa op ∧ len op ≤ pc ∧ pc ≤ maxLen) :
    Calls Tryz.prog 5 #[.agg (madeV s d z F L K0 r wt).toArray, .agg #[.int .u8 (x : Nat), .int .u8 (a : Nat), .int .u8 (y : Nat)], .agg #[.int .u64 oi, .slice oa (len os) oc, .slice pa (len op) pc]] w fun e w' => e = .returned (.bool true) ∧ Below w.heap.size w w' := by
  have HSD := Lib.hid (And.intro hs hd)
  have HFL : Hid (F < 18446744073709551616 ∧ L < 18446744073709551616 ∧ r < 18446744073709551616 ∧ wt < 18446744073709551616) := Lib.hid ⟨hF, hL, hr, hw⟩
  have HXA : Hid (x ≤ 255 ∧ a ≤ 255 ∧ y ≤ 255) := Lib.hid ⟨hx, ha, hy⟩
  have HK := Lib.hid hK
  have HO := Lib.hid ho
  have HP := Lib.hid hp
  unfold madeV
  obtain ⟨no, hno⟩ : ∃ no, len os = no := ⟨_, rfl⟩
  obtain ⟨np, hnp⟩ : ∃ np, len op = np := ⟨_, rfl⟩
  have HNO : Hid (len os = no ∧ len op = np) := Lib.hid ⟨hno, hnp⟩
  rw [hno, hnp]
  clear hs hd hF hL hK hr hw hx ha hy ho hp hno hnp
  go_enter Tryz.func5, Tryz.ntmps5
  obtain ⟨mb, hmb⟩ : ∃ mb, w.heap.size = mb := ⟨_, rfl⟩
  go_upto_region 1 with fail
  obtain ⟨V, hV⟩ : ∃ V, ((w.alloc (.cells #[.int .u8 (s : Nat), .int .u8 (d : Nat), .int .u8 (z : Nat), .int .u64 (F : Nat), .int .u64 (L : Nat), .int .i64 K0, .int .u64 (r : Nat), .int .u64 (wt : Nat)] 50)).alloc (.cells #[.int .u8 (x : Nat), .int .u8 (a : Nat), .int .u8 (y : Nat)] 52)).alloc (.cells #[.int .u64 oi, .slice oa no oc, .slice pa np pc] 54) = V := ⟨_, rfl⟩
  have HM0 : Hid (V.heap[mb]? = some (.cells #[.int .u8 (s : Nat), .int .u8 (d : Nat), .int .u8 (z : Nat), .int .u64 (F : Nat), .int .u64 (L : Nat), .int .i64 K0, .int .u64 (r : Nat), .int .u64 (wt : Nat)] 50 (0, 0))) := Lib.hid (by rw [← hV]; exact block_alloc (block_alloc (alloc_new_at _ hmb) _) _)
  have HX0 : Hid (V.heap[mb + 1]? = some (.cells #[.int .u8 (x : Nat), .int .u8 (a : Nat), .int .u8 (y : Nat)] 52 (0, 0))) := Lib.hid (by rw [← hV]; exact block_alloc (alloc_new_at _ (by simp [hmb])) _)
  have HO0 : Hid (V.heap[mb + 1 + 1]? = some (.cells #[.int .u64 oi, .slice oa no oc, .slice pa np pc] 54 (0, 0))) := Lib.hid (by rw [← hV]; exact alloc_new_at _ (by simp [hmb]))
  have HB0 : Hid (Below w.heap.size w V) := Lib.hid (by rw [← hV]; exact balloc (balloc (balloc (Below.refl _ _) _) _) _)
  have HWM : Hid (w.heap.size ≤ mb) := Lib.hid (Nat.le_of_eq hmb)
  rw [hV]
  clear hV hmb
  obtain ⟨xb, hxb⟩ : ∃ xb, mb + 1 = xb := ⟨_, rfl⟩
  obtain ⟨ob, hob⟩ : ∃ ob, xb + 1 = ob := ⟨_, rfl⟩
  have HBL : Hid (mb < xb ∧ xb < ob) := Lib.hid (by omega)
  rw [hxb] at HX0 HO0 ⊢
  rw [hob] at HO0 ⊢
  clear hxb hob
  obtain ⟨k, hk⟩ : ∃ k : Nat, 1 + max 0 K0 % 8 = (k : Int) := ⟨(1 + max 0 K0 % 8).toNat, by omega⟩
  obtain ⟨f, hf⟩ : ∃ f : Nat, ((F : Nat) : Int) / 4 = (f : Int) := ⟨F / 4, by omega⟩
  obtain ⟨l, hl⟩ : ∃ l : Nat, 1 + ((L : Nat) : Int) % 1000 = (l : Int) := ⟨1 + L % 1000, by omega⟩
  have HKK : Hid (1 ≤ k ∧ k ≤ 8 ∧ 1 ≤ l ∧ l ≤ 1000 ∧ f < 4611686018427387904) := Lib.hid (by have := HFL.out; omega)
  have HKE := Lib.hid hk
  have HFE := Lib.hid hf
  have HLE := Lib.hid hl
  clear hk hf hl
  have cm := fun o => block_cell HM0.out o
  have cf : ∀ o, V.frozen? ⟨mb, o, none⟩ = false := block_free HM0.out
  have cl : mb < V.heap.size := lt_of_block HM0.out
  go_upto_region 2 with fail
  have hk1 := block_setCell HM0.out (o := 2) (.int .u8 0)
  obtain ⟨V1, hV1⟩ : ∃ W9, V.setCell ⟨mb, 2, none⟩ (.int .u8 0) = W9 := ⟨_, rfl⟩
  have HM1 : Hid (V1.heap[mb]? = some (.cells #[.int .u8 (s : Nat), .int .u8 (d : Nat), .int .u8 0, .int .u64 (F : Nat), .int .u64 (L : Nat), .int .i64 K0, .int .u64 (r : Nat), .int .u64 (wt : Nat)] 50 (0, 0))) := Lib.hid (by rw [← hV1]; exact hk1)
  have HX1 : Hid (V1.heap[xb]? = some (.cells #[.int .u8 (x : Nat), .int .u8 (a : Nat), .int .u8 (y : Nat)] 52 (0, 0))) := Lib.hid (by rw [← hV1]; exact block_setCell_ne HX0.out (by show ¬ (xb = mb); have := HBL.out; omega) _)
  have HO1 : Hid (V1.heap[ob]? = some (.cells #[.int .u64 oi, .slice oa no oc, .slice pa np pc] 54 (0, 0))) := Lib.hid (by rw [← hV1]; exact block_setCell_ne HO0.out (by show ¬ (ob = mb); have := HBL.out; omega) _)
  have HB1 : Hid (Below w.heap.size w V1) := Lib.hid (by rw [← hV1]; exact bset HB0.out HWM.out _)
  rw [hV1]
  clear hk1 hV1 cm cf cl HM0 HX0 HO0 HB0
  have cm := fun o => block_cell HM1.out o
  have cf : ∀ o, V1.frozen? ⟨mb, o, none⟩ = false := block_free HM1.out
  have cl : mb < V1.heap.size := lt_of_block HM1.out
  go_upto_region 3 with fail
  rw [HKE.out]
  have hk1 := block_setCell HM1.out (o := 5) (.int .i64 (k : Nat))
  obtain ⟨V2, hV1⟩ : ∃ W9, V1.setCell ⟨mb, 5, none⟩ (.int .i64 (k : Nat)) = W9 := ⟨_, rfl⟩
  have HM2 : Hid (V2.heap[mb]? = some (.cells #[.int .u8 (s : Nat), .int .u8 (d : Nat), .int .u8 0, .int .u64 (F : Nat), .int .u64 (L : Nat), .int .i64 (k : Nat), .int .u64 (r : Nat), .int .u64 (wt : Nat)] 50 (0, 0))) := Lib.hid (by rw [← hV1]; exact hk1)
  have HX2 : Hid (V2.heap[xb]? = some (.cells #[.int .u8 (x : Nat), .int .u8 (a : Nat), .int .u8 (y : Nat)] 52 (0, 0))) := Lib.hid (by rw [← hV1]; exact block_setCell_ne HX1.out (by show ¬ (xb = mb); have := HBL.out; omega) _)
  have HO2 : Hid (V2.heap[ob]? = some (.cells #[.int .u64 oi, .slice oa no oc, .slice pa np pc] 54 (0, 0))) := Lib.hid (by rw [← hV1]; exact block_setCell_ne HO1.out (by show ¬ (ob = mb); have := HBL.out; omega) _)
  have HB2 : Hid (Below w.heap.size w V2) := Lib.hid (by rw [← hV1]; exact bset HB1.out HWM.out _)
  rw [hV1]
  clear hk1 hV1 cm cf cl HM1 HX1 HO1 HB1
  have cm := fun o => block_cell HM2.out o
  have cf : ∀ o, V2.frozen? ⟨mb, o, none⟩ = false := block_free HM2.out
  have cl : mb < V2.heap.size := lt_of_block HM2.out
  go_upto_region 4 with fail
  rw [HFE.out, IntWalk.u64_in ((f : Nat) : Int) (by have := HKK.out; omega)]
  have hk1 := block_setCell HM2.out (o := 3) (.int .u64 (f : Nat))
  obtain ⟨V3, hV1⟩ : ∃ W9, V2.setCell ⟨mb, 3, none⟩ (.int .u64 (f : Nat)) = W9 := ⟨_, rfl⟩
  have HM3 : Hid (V3.heap[mb]? = some (.cells #[.int .u8 (s : Nat), .int .u8 (d : Nat), .int .u8 0, .int .u64 (f : Nat), .int .u64 (L : Nat), .int .i64 (k : Nat), .int .u64 (r : Nat), .int .u64 (wt : Nat)] 50 (0, 0))) := Lib.hid (by rw [← hV1]; exact hk1)
  have HX3 : Hid (V3.heap[xb]? = some (.cells #[.int .u8 (x : Nat), .int .u8 (a : Nat), .int .u8 (y : Nat)] 52 (0, 0))) := Lib.hid (by rw [← hV1]; exact block_setCell_ne HX2.out (by show ¬ (xb = mb); have := HBL.out; omega) _)
  have HO3 : Hid (V3.heap[ob]? = some (.cells #[.int .u64 oi, .slice oa no oc, .slice pa np pc] 54 (0, 0))) := Lib.hid (by rw [← hV1]; exact block_setCell_ne HO2.out (by show ¬ (ob = mb); have := HBL.out; omega) _)
  have HB3 : Hid (Below w.heap.size w V3) := Lib.hid (by rw [← hV1]; exact bset HB2.out HWM.out _)
  rw [hV1]
  clear hk1 hV1 cm cf cl HM2 HX2 HO2 HB2
  have cm := fun o => block_cell HM3.out o
  have cf : ∀ o, V3.frozen? ⟨mb, o, none⟩ = false := block_free HM3.out
  have cl : mb < V3.heap.size := lt_of_block HM3.out
  go_upto_region 5 with fail
  rw [HLE.out]
  try rw [IntWalk.u64_in ((l : Nat) : Int) (by have := HKK.out; omega)]
  have hk1 := block_setCell HM3.out (o := 4) (.int .u64 (l : Nat))
  obtain ⟨V4, hV1⟩ : ∃ W9, V3.setCell ⟨mb, 4, none⟩ (.int .u64 (l : Nat)) = W9 := ⟨_, rfl⟩
  have HM4 : Hid (V4.heap[mb]? = some (.cells #[.int .u8 (s : Nat), .int .u8 (d : Nat), .int .u8 0, .int .u64 (f : Nat), .int .u64 (l : Nat), .int .i64 (k : Nat), .int .u64 (r : Nat), .int .u64 (wt : Nat)] 50 (0, 0))) := Lib.hid (by rw [← hV1]; exact hk1)
  have HX4 : Hid (V4.heap[xb]? = some (.cells #[.int .u8 (x : Nat), .int .u8 (a : Nat), .int .u8 (y : Nat)] 52 (0, 0))) := Lib.hid (by rw [← hV1]; exact block_setCell_ne HX3.out (by show ¬ (xb = mb); have := HBL.out; omega) _)
  have HO4 : Hid (V4.heap[ob]? = some (.cells #[.int .u64 oi, .slice oa no oc, .slice pa np pc] 54 (0, 0))) := Lib.hid (by rw [← hV1]; exact block_setCell_ne HO3.out (by show ¬ (ob = mb); have := HBL.out; omega) _)
  have HB4 : Hid (Below w.heap.size w V4) := Lib.hid (by rw [← hV1]; exact bset HB3.out HWM.out _)
  rw [hV1]
  clear hk1 hV1 cm cf cl HM3 HX3 HO3 HB3
  obtain ⟨seed, hseed⟩ : ∃ q, textN s 32 = q := ⟨_, rfl⟩
  obtain ⟨dg, hdg⟩ : ∃ q, textN d 32 = q := ⟨_, rfl⟩
  have HSZ : Hid (seed.size = 32 ∧ dg.size = 32) := Lib.hid ⟨by rw [← hseed, textN_size], by rw [← hdg, textN_size]⟩
  have HT1 : Hid (∀ wv, Calls Tryz.prog 23 #[.int .u8 (s : Nat), .int .i64 32] wv fun e w' => e = .returned (.string seed) ∧ Below wv.heap.size wv w') := Lib.hid (fun wv => by rw [← hseed]; exact text14_any s 32 wv HSD.out.1 (by decide))
  have HT2 : Hid (∀ wv, Calls Tryz.prog 23 #[.int .u8 (d : Nat), .int .i64 32] wv fun e w' => e = .returned (.string dg) ∧ Below wv.heap.size wv w') := Lib.hid (fun wv => by rw [← hdg]; exact text14_any d 32 wv HSD.out.2 (by decide))
  clear hseed hdg
  have HEE : Hid (newE seed.size f l (k : Nat) = 0) := Lib.hid (by
    have h := HKK.out
    refine rnewE_ok ?_ ((fitsL_iff (by omega) (by omega)).2 ?_)
    · unfold mayL
      rw [HSZ.out.1]
      simp
      omega
    · have : k * l ≤ 8 * 1000 := Nat.mul_le_mul h.2.1 h.2.2.2.1
      omega)
  have HRN := Lib.hid (fun wv => rnewP_any seed f l (k : Nat) wv (by have := HKK.out; omega) (by have := HKK.out; omega))
  have m0 : V4.cell? ⟨mb, 0, none⟩ = some (.int .u8 (s : Nat)) := block_cell HM4.out 0
  have m3 : V4.cell? ⟨mb, 3, none⟩ = some (.int .u64 (f : Nat)) := block_cell HM4.out 3
  have m4 : V4.cell? ⟨mb, 4, none⟩ = some (.int .u64 (l : Nat)) := block_cell HM4.out 4
  have m5 : V4.cell? ⟨mb, 5, none⟩ = some (.int .i64 (k : Nat)) := block_cell HM4.out 5
  refine wp_region_all 1000 (none) (phis [fun u _ => u = (.pointer (some ⟨mb, 0, none⟩)), fun u _ => u = (.int .u8 (s : Nat)), fun u _ => u = (.string seed), fun u _ => u = (.pointer (some ⟨mb, 3, none⟩)), fun u _ => u = (.int .u64 (f : Nat)), fun u _ => u = (.pointer (some ⟨mb, 4, none⟩)), fun u _ => u = (.int .u64 (l : Nat)), fun u _ => u = (.pointer (some ⟨mb, 5, none⟩)), fun u _ => u = (.int .i64 (k : Nat)), fun u w' => RNwP seed f l (k : Nat) u w', fun u w' => RNwP seed f l (k : Nat) u w', fun u w' => RNwF seed f l (k : Nat) u w', fun u _ => u = (.int .i64 0), fun u w' => RNwF seed f l (k : Nat) u w', fun u _ => u = (.int .i64 0)]) rfl (by kernel_rfl) (mono_of ⟨mono_eq, mono_eq, mono_eq, mono_eq, mono_eq, mono_eq, mono_eq, mono_eq, mono_eq, ?m9, ?m10, ?m11, mono_eq, ?m13, mono_eq, trivial⟩) (steps_of 15 ⟨?s0, ?s1, ?s2, ?s3, ?s4, ?s5, ?s6, ?s7, ?s8, ?s9, ?s10, ?s11, ?s12, ?s13, ?s14, trivial⟩) ?_
  case m9 =>
    exact ⟨fun u w1 w' h h1 => h1.below h, fun _ u w1 w' h h1 => h1.below (extB_none h)⟩
  case m10 =>
    exact ⟨fun u w1 w' h h1 => h1.below h, fun _ u w1 w' h h1 => h1.below (extB_none h)⟩
  case m11 =>
    exact ⟨fun u w1 w' h h1 => h1.below h, fun _ u w1 w' h h1 => h1.below (extB_none h)⟩
  case m13 =>
    exact ⟨fun u w1 w' h h1 => h1.below h, fun _ u w1 w' h h1 => h1.below (extB_none h)⟩
  case s0 =>
    refine qV (fun _ => rfl) rfl fun av wv hE hO hD => ?_
    simp [go_sem, qF av 3 (.pointer (some ⟨mb, 0, none⟩)) (hO.2.2 3 rfl)]
  case s1 =>
    refine qV (fun _ => rfl) rfl fun av wv hE hO hD => ?_
    simp [go_sem, qE (hD.1 rfl _ rfl), extB_cell hE (by simp) m0, extB_cell hE (by simp) m3, extB_cell hE (by simp) m4, extB_cell hE (by simp) m5]
  case s2 =>
    refine step_wp (fun av wv hE hS hO hD => ⟨rfl, ?_⟩)
    have f36 := qE (hD.1 rfl _ rfl)
    refine wp_of_call (v := .string seed) (by simp [go_sem, f36]) (HT1.out wv) (fun w2 hb => ⟨_, rfl, es_of_ext hb, rfl⟩)
  case s3 =>
    refine qV (fun _ => rfl) rfl fun av wv hE hO hD => ?_
    simp [go_sem, qF av 3 (.pointer (some ⟨mb, 0, none⟩)) (hO.2.2 3 rfl)]
  case s4 =>
    refine qV (fun _ => rfl) rfl fun av wv hE hO hD => ?_
    simp [go_sem, qE (hD.1 rfl _ rfl), extB_cell hE (by simp) m0, extB_cell hE (by simp) m3, extB_cell hE (by simp) m4, extB_cell hE (by simp) m5]
  case s5 =>
    refine qV (fun _ => rfl) rfl fun av wv hE hO hD => ?_
    simp [go_sem, qF av 3 (.pointer (some ⟨mb, 0, none⟩)) (hO.2.2 3 rfl)]
  case s6 =>
    refine qV (fun _ => rfl) rfl fun av wv hE hO hD => ?_
    simp [go_sem, qE (hD.1 rfl _ rfl), extB_cell hE (by simp) m0, extB_cell hE (by simp) m3, extB_cell hE (by simp) m4, extB_cell hE (by simp) m5]
  case s7 =>
    refine qV (fun _ => rfl) rfl fun av wv hE hO hD => ?_
    simp [go_sem, qF av 3 (.pointer (some ⟨mb, 0, none⟩)) (hO.2.2 3 rfl)]
  case s8 =>
    refine qV (fun _ => rfl) rfl fun av wv hE hO hD => ?_
    simp [go_sem, qE (hD.1 rfl _ rfl), extB_cell hE (by simp) m0, extB_cell hE (by simp) m3, extB_cell hE (by simp) m4, extB_cell hE (by simp) m5]
  case s9 =>
    refine step_wp (fun av wv hE hS hO hD => ⟨rfl, ?_⟩)
    have f37 := qE (hD.1 rfl _ rfl)
    have f39 := qE (hD.2.1 rfl _ rfl)
    have f41 := qE (hD.2.2.1 rfl _ rfl)
    have f43 := qE (hD.2.2.2.1 rfl _ rfl)
    refine wp_of_callV (R := fun u w2 => RNwP seed f l (k : Nat) u w2 ∧ Below wv.heap.size wv w2) (f := 22) (args := #[.string seed, .int .u64 (f : Nat), .int .u64 (l : Nat), .int .i64 (k : Nat)]) (by simp [go_sem, f37, f39, f41, f43]) (HRN.out wv) (fun v w2 h => ⟨_, rfl, es_of_ext h.2, h.1⟩)
  case s10 =>
    refine step_wp (fun av wv hE hS hO hD => ⟨rfl, ?_⟩)
    have d44 : (fun u w' => RNwP seed f l (k : Nat) u w') (av.eval (.tmp 44)) wv := hD.1 rfl _ rfl
    obtain ⟨u, hu⟩ : ∃ u, av.eval (.tmp 44) = u := ⟨_, rfl⟩
    rw [hu] at d44
    have fu := (ev_form av 44).symm.trans hu
    exact wp_of_run (v := u) (w' := wv) (by simp [go_sem, fu]) ⟨_, rfl, es_of_ext (Ext_refl _), d44⟩
  case s11 =>
    refine step_wp (fun av wv hE hS hO hD => ⟨rfl, ?_⟩)
    have d34 : (fun u w' => RNwP seed f l (k : Nat) u w') (av.eval (.tmp 34)) wv := hD.1 rfl _ rfl
    obtain ⟨p, hp, hq⟩ := d34.pair
    have fu := (ev_form av 34).symm.trans hp
    exact wp_of_run (v := p) (w' := wv) (by simp [go_sem, fu]) ⟨_, rfl, es_of_ext (Ext_refl _), hq⟩
  case s12 =>
    refine step_wp (fun av wv hE hS hO hD => ⟨rfl, ?_⟩)
    have d34 : (fun u w' => RNwP seed f l (k : Nat) u w') (av.eval (.tmp 34)) wv := hD.1 rfl _ rfl
    obtain ⟨p, hp, hq⟩ := d34.pair
    rw [HEE.out] at hp
    have fu := (ev_form av 34).symm.trans hp
    exact wp_of_run (v := .int .i64 0) (w' := wv) (by simp [go_sem, fu]) ⟨_, rfl, es_of_ext (Ext_refl _), rfl⟩
  case s13 =>
    refine step_wp (fun av wv hE hS hO hD => ⟨rfl, ?_⟩)
    have d45 : (fun u w' => RNwF seed f l (k : Nat) u w') (av.eval (.tmp 45)) wv := hD.1 rfl _ rfl
    obtain ⟨u, hu⟩ : ∃ u, av.eval (.tmp 45) = u := ⟨_, rfl⟩
    rw [hu] at d45
    have fu := (ev_form av 45).symm.trans hu
    exact wp_of_run (v := u) (w' := wv) (by simp [go_sem, fu]) ⟨_, rfl, es_of_ext (Ext_refl _), d45⟩
  case s14 =>
    refine qV (fun _ => rfl) rfl fun av wv hE hO hD => ?_
    simp [go_sem, qE (hD.1 rfl _ rfl)]
  intro a' w' hE hO hall
  have hA := act_of_outer (ds := [35, 36, 37, 38, 39, 40, 41, 42, 43, 44, 34, 45, 46, 7, 8]) rfl hO (by kernel_rfl)
  obtain ⟨j0, j1, j2, j3, j4, j5, j6, j7, j8, j9, j10, j11, j12, j13, j14, -⟩ := hall
  have e44 : (fun u w' => RNwP seed f l (k : Nat) u w') (a'.eval (.tmp 44)) w' := j9 _ rfl
  have e34 : (fun u w' => RNwP seed f l (k : Nat) u w') (a'.eval (.tmp 34)) w' := j10 _ rfl
  have e45 : (fun u w' => RNwF seed f l (k : Nat) u w') (a'.eval (.tmp 45)) w' := j11 _ rfl
  have e7 : (fun u w' => RNwF seed f l (k : Nat) u w') (a'.eval (.tmp 7)) w' := j13 _ rfl
  obtain ⟨v44, hv44⟩ : ∃ v, a'.eval (.tmp 44) = v := ⟨_, rfl⟩
  rw [hv44] at e44
  obtain ⟨v34, hv34⟩ : ∃ v, a'.eval (.tmp 34) = v := ⟨_, rfl⟩
  rw [hv34] at e34
  obtain ⟨v45, hv45⟩ : ∃ v, a'.eval (.tmp 45) = v := ⟨_, rfl⟩
  rw [hv45] at e45
  obtain ⟨v7, hv7⟩ : ∃ v, a'.eval (.tmp 7) = v := ⟨_, rfl⟩
  rw [hv7] at e7
  simp only [List.foldl_cons, List.foldl_nil, Act.put, List.setIfInBounds_toArray, List.set_cons_succ, List.set_cons_zero, qJ 35 (j0 _ rfl), qJ 36 (j1 _ rfl), qJ 37 (j2 _ rfl), qJ 38 (j3 _ rfl), qJ 39 (j4 _ rfl), qJ 40 (j5 _ rfl), qJ 41 (j6 _ rfl), qJ 42 (j7 _ rfl), qJ 43 (j8 _ rfl), hv44, hv34, hv45, qJ 46 (j12 _ rfl), hv7, qJ 8 (j14 _ rfl)] at hA
  clear hO j9 j10 j11 j13 j0 j1 j2 j3 j4 j5 j6 j7 j8 hv44 hv34 hv45 j12 hv7 j14
  subst hA
  have hb := of_drew hE
  obtain ⟨W5, hW5⟩ : ∃ W5, w' = W5 := ⟨_, rfl⟩
  have HM5 : Hid (W5.heap[mb]? = some (.cells #[.int .u8 (s : Nat), .int .u8 (d : Nat), .int .u8 0, .int .u64 (f : Nat), .int .u64 (l : Nat), .int .i64 (k : Nat), .int .u64 (r : Nat), .int .u64 (wt : Nat)] 50 (0, 0))) := Lib.hid (by rw [← hW5]; exact (hb.block _ (lt_of_block HM4.out)).trans HM4.out)
  have HX5 : Hid (W5.heap[xb]? = some (.cells #[.int .u8 (x : Nat), .int .u8 (a : Nat), .int .u8 (y : Nat)] 52 (0, 0))) := Lib.hid (by rw [← hW5]; exact (hb.block _ (lt_of_block HX4.out)).trans HX4.out)
  have HO5 : Hid (W5.heap[ob]? = some (.cells #[.int .u64 oi, .slice oa no oc, .slice pa np pc] 54 (0, 0))) := Lib.hid (by rw [← hW5]; exact (hb.block _ (lt_of_block HO4.out)).trans HO4.out)
  have HB5 : Hid (Below w.heap.size w W5) := Lib.hid (by rw [← hW5]; exact bnext HB4.out hb)
  obtain ⟨rb, la, lc, rfl, hrl⟩ : ∃ rb la lc, v7 = .pointer (some ⟨rb, 0, none⟩) ∧ RLadAt seed f l k rb la lc w' := by
    rcases e7 with ⟨h9, -⟩ | ⟨-, b, la, lc, h1, h2⟩
    · exact absurd HEE.out h9
    · exact ⟨b, la, lc, h1, by rw [Int.toNat_natCast] at h2; exact h2⟩
  have HRL : Hid (RLadAt seed f l k rb la lc W5) := Lib.hid (by rw [← hW5]; exact hrl)
  rw [hW5]
  clear hE hb hrl hW5 e44 e34 e45 e7 m0 m3 m4 m5 HM4 HX4 HO4 HB4
  have m1 : W5.cell? ⟨mb, 1, none⟩ = some (.int .u8 (d : Nat)) := block_cell HM5.out 1
  go_wp2_with fail
  refine (HT2.out W5).mono ?_
  rintro e W6 ⟨rfl, hb⟩
  have HM6 := Lib.hid ((hb.block _ (lt_of_block HM5.out)).trans HM5.out)
  have HX6 := Lib.hid ((hb.block _ (lt_of_block HX5.out)).trans HX5.out)
  have HO6 := Lib.hid ((hb.block _ (lt_of_block HO5.out)).trans HO5.out)
  have HB6 := Lib.hid (bnext HB5.out hb)
  have HL6 := Lib.hid (HRL.out.below hb)
  clear hb m1 HM5 HX5 HO5 HB5 HRL
  go_upto_region 9 with fail
  obtain ⟨A, hA⟩ : ∃ A, l * k = A := ⟨_, rfl⟩
  obtain ⟨q, hq⟩ : ∃ q, r % A = q := ⟨_, rfl⟩
  obtain ⟨R1, hR1⟩ : ∃ R1, f + q = R1 := ⟨_, rfl⟩
  have HA : Hid (l * k = A ∧ 1 ≤ A ∧ A ≤ 8000) := Lib.hid ⟨hA, by
    have h := HKK.out
    rw [← hA]
    exact ⟨Nat.mul_le_mul h.2.2.1 h.1, Nat.mul_le_mul h.2.2.2.1 h.2.1⟩⟩
  have HQ : Hid (q < A) := Lib.hid (by rw [← hq]; exact Nat.mod_lt _ (by have := HA.out; omega))
  have HR1 : Hid (f + q = R1 ∧ R1 < 18446744073709551616) := Lib.hid ⟨hR1, by have := HA.out; have := HQ.out; have := HKK.out; omega⟩
  have k1 : IntKind.u64.wrap ((k : Nat) : Int) = (k : Int) := IntWalk.u64_in _ (by have := HKK.out; omega)
  have k2 : ((l : Nat) : Int) * (k : Int) = (A : Int) := by rw [← hA, Int.natCast_mul]
  have k3 : IntKind.u64.wrap ((A : Nat) : Int) = (A : Int) := IntWalk.u64_in _ (by have := HA.out; omega)
  have k4 : ((A : Nat) : Int) ≠ 0 := by have := HA.out; omega
  have k9 : A ≠ 0 := by have := HA.out; omega
  have k5 : Int.tmod ((r : Nat) : Int) (A : Int) = (q : Int) := by rw [← hq]; exact (Int.ofNat_tmod r A).symm
  have k6 : IntKind.u64.wrap ((q : Nat) : Int) = (q : Int) := IntWalk.u64_in _ (by have := HA.out; have := HQ.out; omega)
  have k7 : ((f : Nat) : Int) + (q : Int) = (R1 : Int) := by omega
  have k8 : IntKind.u64.wrap ((R1 : Nat) : Int) = (R1 : Int) := IntWalk.u64_in _ (by have := HR1.out; omega)
  have m3 : W6.cell? ⟨mb, 3, none⟩ = some (.int .u64 (f : Nat)) := block_cell HM6.out 3
  have m4 : W6.cell? ⟨mb, 4, none⟩ = some (.int .u64 (l : Nat)) := block_cell HM6.out 4
  have m5 : W6.cell? ⟨mb, 5, none⟩ = some (.int .i64 (k : Nat)) := block_cell HM6.out 5
  have m6 : W6.cell? ⟨mb, 6, none⟩ = some (.int .u64 (r : Nat)) := block_cell HM6.out 6
  clear hA hq hR1
  refine wp_region_all 1000 (none) (phis (List.map qv [.pointer (some ⟨mb, 3, none⟩), .int .u64 (f : Nat), .pointer (some ⟨mb, 6, none⟩), .int .u64 (r : Nat), .pointer (some ⟨mb, 4, none⟩), .int .u64 (l : Nat), .pointer (some ⟨mb, 5, none⟩), .int .i64 (k : Nat), .int .u64 (k : Nat), .int .u64 (A : Nat), .int .u64 (q : Nat), .int .u64 (R1 : Nat), .int .u64 (R1 : Nat)])) rfl (by kernel_rfl) (mono_of mono_qv) (steps_of 13 ⟨?s0, ?s1, ?s2, ?s3, ?s4, ?s5, ?s6, ?s7, ?s8, ?s9, ?s10, ?s11, ?s12, trivial⟩) ?_
  case s0 =>
    refine qV (fun _ => rfl) rfl fun av wv hE hO hD => ?_
    simp [go_sem, qF av 3 (.pointer (some ⟨mb, 0, none⟩)) (hO.2.2 3 rfl), k1, k2, k3, k4, k5, k6, k7, k8, k9]
  case s1 =>
    refine qV (fun _ => rfl) rfl fun av wv hE hO hD => ?_
    simp [go_sem, qE (hD.1 rfl _ rfl), extB_cell hE (by simp) m3, extB_cell hE (by simp) m4, extB_cell hE (by simp) m5, extB_cell hE (by simp) m6, k1, k2, k3, k4, k5, k6, k7, k8, k9]
  case s2 =>
    refine qV (fun _ => rfl) rfl fun av wv hE hO hD => ?_
    simp [go_sem, qF av 3 (.pointer (some ⟨mb, 0, none⟩)) (hO.2.2 3 rfl), k1, k2, k3, k4, k5, k6, k7, k8, k9]
  case s3 =>
    refine qV (fun _ => rfl) rfl fun av wv hE hO hD => ?_
    simp [go_sem, qE (hD.1 rfl _ rfl), extB_cell hE (by simp) m3, extB_cell hE (by simp) m4, extB_cell hE (by simp) m5, extB_cell hE (by simp) m6, k1, k2, k3, k4, k5, k6, k7, k8, k9]
  case s4 =>
    refine qV (fun _ => rfl) rfl fun av wv hE hO hD => ?_
    simp [go_sem, qF av 3 (.pointer (some ⟨mb, 0, none⟩)) (hO.2.2 3 rfl), k1, k2, k3, k4, k5, k6, k7, k8, k9]
  case s5 =>
    refine qV (fun _ => rfl) rfl fun av wv hE hO hD => ?_
    simp [go_sem, qE (hD.1 rfl _ rfl), extB_cell hE (by simp) m3, extB_cell hE (by simp) m4, extB_cell hE (by simp) m5, extB_cell hE (by simp) m6, k1, k2, k3, k4, k5, k6, k7, k8, k9]
  case s6 =>
    refine qV (fun _ => rfl) rfl fun av wv hE hO hD => ?_
    simp [go_sem, qF av 3 (.pointer (some ⟨mb, 0, none⟩)) (hO.2.2 3 rfl), k1, k2, k3, k4, k5, k6, k7, k8, k9]
  case s7 =>
    refine qV (fun _ => rfl) rfl fun av wv hE hO hD => ?_
    simp [go_sem, qE (hD.1 rfl _ rfl), extB_cell hE (by simp) m3, extB_cell hE (by simp) m4, extB_cell hE (by simp) m5, extB_cell hE (by simp) m6, k1, k2, k3, k4, k5, k6, k7, k8, k9]
  case s8 =>
    refine qV (fun _ => rfl) rfl fun av wv hE hO hD => ?_
    simp [go_sem, qE (hD.1 rfl _ rfl), k1, k2, k3, k4, k5, k6, k7, k8, k9]
  case s9 =>
    refine qV (fun _ => rfl) rfl fun av wv hE hO hD => ?_
    simp [go_sem, qE (hD.1 rfl _ rfl), qE (hD.2.1 rfl _ rfl), k1, k2, k3, k4, k5, k6, k7, k8, k9]
  case s10 =>
    refine qV (fun _ => rfl) rfl fun av wv hE hO hD => ?_
    simp [go_sem, qE (hD.1 rfl _ rfl), qE (hD.2.1 rfl _ rfl), k1, k2, k3, k4, k5, k6, k7, k8, k9]
  case s11 =>
    refine qV (fun _ => rfl) rfl fun av wv hE hO hD => ?_
    simp [go_sem, qE (hD.1 rfl _ rfl), qE (hD.2.1 rfl _ rfl), k1, k2, k3, k4, k5, k6, k7, k8, k9]
  case s12 =>
    refine qV (fun _ => rfl) rfl fun av wv hE hO hD => ?_
    simp [go_sem, qE (hD.1 rfl _ rfl), k1, k2, k3, k4, k5, k6, k7, k8, k9]
  intro a' w' hE hO hall
  have hA := act_of_outer (ds := [52, 53, 54, 55, 56, 57, 58, 59, 60, 61, 62, 63, 10]) rfl hO (by kernel_rfl)
  obtain ⟨j0, j1, j2, j3, j4, j5, j6, j7, j8, j9, j10, j11, j12, -⟩ := hall
  simp only [List.foldl_cons, List.foldl_nil, Act.put, List.setIfInBounds_toArray, List.set_cons_succ, List.set_cons_zero, qJ 52 (j0 _ rfl), qJ 53 (j1 _ rfl), qJ 54 (j2 _ rfl), qJ 55 (j3 _ rfl), qJ 56 (j4 _ rfl), qJ 57 (j5 _ rfl), qJ 58 (j6 _ rfl), qJ 59 (j7 _ rfl), qJ 60 (j8 _ rfl), qJ 61 (j9 _ rfl), qJ 62 (j10 _ rfl), qJ 63 (j11 _ rfl), qJ 10 (j12 _ rfl)] at hA
  clear hO j0 j1 j2 j3 j4 j5 j6 j7 j8 j9 j10 j11 j12
  subst hA
  have hb := of_drew hE
  have HM7 := Lib.hid ((hb.block _ (lt_of_block HM6.out)).trans HM6.out)
  have HX7 := Lib.hid ((hb.block _ (lt_of_block HX6.out)).trans HX6.out)
  have HO7 := Lib.hid ((hb.block _ (lt_of_block HO6.out)).trans HO6.out)
  have HB7 := Lib.hid (bnext HB6.out hb)
  have HL7 := Lib.hid (HL6.out.below hb)
  clear hE hb m3 m4 m5 m6 k1 k2 k3 k4 k5 k6 k7 k8 k9 HM6 HX6 HO6 HB6 HL6
  obtain ⟨W7, hW7⟩ : ∃ W7, w' = W7 := ⟨_, rfl⟩
  rw [hW7] at HM7 HX7 HO7 HB7 HL7 ⊢
  clear hW7
  obtain ⟨kk, hkk⟩ : ∃ kk, q / l = kk := ⟨_, rfl⟩
  have HKO : Hid (keyO f l k R1 = some kk ∧ kk < k) := Lib.hid (by
    have h := HKK.out
    have h1 := HR1.out.1
    have h2 : q / l < k := Nat.div_lt_of_lt_mul (by rw [HA.out.1]; exact HQ.out)
    rw [hkk] at h2
    have h3 : R1 - f = q := by omega
    unfold keyO
    rw [if_neg (by omega), h3, hkk, if_neg (by omega)]
    exact ⟨rfl, h2⟩)
  have HSI : Hid (Calls Tryz.prog 24 #[.pointer (some ⟨rb, 0, none⟩), .int .u64 (R1 : Nat), .string dg] W7 (SignIs ⟨(kk : Nat), signP seed kk dg, oneD (rungL seed k) kk⟩ 0 W7)) := Lib.hid (by
    have h := rsign14_any seed dg f l k rb R1 la lc W7 HL7.out (by have := HKK.out; omega) HR1.out.2 (by have := HKK.out; omega) (by have := HKK.out; omega) (by rw [HSZ.out.1]; decide)
    rw [(signD_ok HKO.out.1 HSZ.out.2 (seed := seed)).1, (signD_ok HKO.out.1 HSZ.out.2 (seed := seed)).2] at h
    unfold sgL at h
    rw [if_pos HSZ.out.2] at h
    exact h)
  clear hkk
  go_wp2_with fail
  refine HSI.out.mono ?_
  rintro e W8 ⟨v, p, rfl, ⟨a1, c1, rfl, ht1, hc1, hz1⟩, ⟨a2, c2, rfl, ht2, hc2, hz2⟩, hb⟩
  have HM8 := Lib.hid ((hb.block _ (lt_of_block HM7.out)).trans HM7.out)
  have HX8 := Lib.hid ((hb.block _ (lt_of_block HX7.out)).trans HX7.out)
  have HO8 := Lib.hid ((hb.block _ (lt_of_block HO7.out)).trans HO7.out)
  have HB8 := Lib.hid (bnext HB7.out hb)
  have HL8 := Lib.hid (HL7.out.below hb)
  have HN1 : Hid (len (signP seed kk dg) = 67 ∧ ∀ i, i < 67 → (tth (signP seed kk dg) i).size = 32) := Lib.hid (wotsB_at (signP_ok seed kk dg))
  have HN2 : Hid (len (oneD (rungL seed k) kk) ≤ 16 ∧ ∀ i, i < len (oneD (rungL seed k) kk) → (tth (oneD (rungL seed k) kk) i).size ≤ 1000) := Lib.hid ⟨by
    have hk := HKK.out
    rw [oneD_len (by rw [rungL_len]; omega)]
    have := depN_le (els := rungL seed k) (by rw [rungL_len]; omega)
    omega, fun i hi => by
    have hi' : i < (oneD (rungL seed k) kk).length := by rw [← len_eq]; exact hi
    rw [tth_eq _ i hi', oneD_size _ _ _ (List.getElem_mem hi')]
    decide⟩
  obtain ⟨ws, hws⟩ : ∃ ws, signP seed kk dg = ws := ⟨_, rfl⟩
  obtain ⟨ps, hps⟩ : ∃ ps, oneD (rungL seed k) kk = ps := ⟨_, rfl⟩
  dsimp only at ht1 hc1 ht2 hc2 ⊢
  rw [hws] at ht1 hc1 HN1 ⊢
  rw [hps] at ht2 hc2 HN2 ⊢
  rw [HN1.out.1] at hc1 ⊢
  obtain ⟨n2, hn2⟩ : ∃ n2, len ps = n2 := ⟨_, rfl⟩
  rw [hn2] at hc2 HN2 ⊢
  have HT1' := Lib.hid (And.intro ht1 (And.intro hz1 hc1))
  have HT2' := Lib.hid (And.intro ht2 (And.intro hz2 hc2))
  have HNN2 := Lib.hid hn2
  clear hb ht1 hc1 hz1 ht2 hc2 hz2 hws hps hn2 HM7 HX7 HO7 HB7 HL7 HSI
  go_upto_region 13 with fail
  obtain ⟨gb, hgb⟩ : ∃ gb, W8.heap.size = gb := ⟨_, rfl⟩
  obtain ⟨W, hW⟩ : ∃ W, W8.alloc (.cells #[.int .u64 (kk : Nat), .slice a1 67 c1, .slice a2 n2 c2] 54) = W := ⟨_, rfl⟩
  have HG9 : Hid (W.heap[gb]? = some (.cells #[.int .u64 (kk : Nat), .slice a1 67 c1, .slice a2 n2 c2] 54 (0, 0))) := Lib.hid (by rw [← hW]; exact alloc_new_at _ hgb)
  have hb : Below W8.heap.size W8 W := by rw [← hW]; exact balloc (Below.refl _ _) _
  have HM9 := Lib.hid ((hb.block _ (lt_of_block HM8.out)).trans HM8.out)
  have HX9 := Lib.hid ((hb.block _ (lt_of_block HX8.out)).trans HX8.out)
  have HO9 := Lib.hid ((hb.block _ (lt_of_block HO8.out)).trans HO8.out)
  have HB9 := Lib.hid (bnext HB8.out hb)
  have HL9 := Lib.hid (HL8.out.below hb)
  have HTA := Lib.hid (HT1'.out.1.below hb)
  have HTB := Lib.hid (HT2'.out.1.below hb)
  rw [hW, hgb]
  clear hb hW hgb HM8 HX8 HO8 HB8 HL8
  obtain ⟨wt1, hwt1, kw⟩ := u64_form (1 + ((wt : Nat) : Int))
  obtain ⟨PV, hPV⟩ : ∃ PV, Value.agg #[.string (ladR seed k), .int .u64 (wt1 : Nat), .int .u64 (f : Nat), .int .u64 (l : Nat), .int .u64 (k : Nat)] = PV := ⟨_, rfl⟩
  have HPART : Hid (∀ wv, Below W.heap.size W wv → Calls Tryz.prog 26 #[.pointer (some ⟨rb, 0, none⟩), .int .u64 (wt1 : Nat)] wv fun e w' => e = .returned PV ∧ Below wv.heap.size wv w') := Lib.hid (fun wv hb => by
    rw [← hPV]
    exact rpart14_any seed f l k rb wt1 la lc wv (HL9.out.below hb) (by have := HKK.out; omega))
  have HSP : Hid (∀ wv, Below W.heap.size W wv → Calls Tryz.prog 25 #[.agg #[.int .u64 (kk : Nat), .slice a1 67 c1, .slice a2 n2 c2], PV, .agg #[.int .u8 (x : Nat), .int .u8 (a : Nat), .int .u8 (y : Nat)]] wv fun e w' => ∃ v, e = .returned v ∧ (SpV wt1 v w' ∧ Below wv.heap.size wv w')) := Lib.hid (fun wv hb => by
    rw [← hPV]
    refine (spoilt14_any (kk : Nat) ws ps a1 a2 c1 c2 67 n2 (ladR seed k) wt1 f l k x a y wv (HTA.out.below hb) (HTB.out.below hb) HT1'.out.2.1 HT2'.out.2.1 HN1.out.1 HNN2.out ⟨by decide, by decide, by have := HN2.out.1; omega⟩ HN1.out.2 HN2.out.2 (ladR_size seed k) (by have := HKK.out; omega) HXA.out.1 HXA.out.2.1 HXA.out.2.2).mono ?_
    intro e w' h
    exact h.val)
  have g0 : W.cell? ⟨gb, 0, none⟩ = some (.int .u64 (kk : Nat)) := block_cell HG9.out 0
  have g1 : W.cell? ⟨gb, 1, none⟩ = some (.slice a1 67 c1) := block_cell HG9.out 1
  have g2 : W.cell? ⟨gb, 2, none⟩ = some (.slice a2 n2 c2) := block_cell HG9.out 2
  have m7 : W.cell? ⟨mb, 7, none⟩ = some (.int .u64 (wt : Nat)) := block_cell HM9.out 7
  have x0 : W.cell? ⟨xb, 0, none⟩ = some (.int .u8 (x : Nat)) := block_cell HX9.out 0
  have x1 : W.cell? ⟨xb, 1, none⟩ = some (.int .u8 (a : Nat)) := block_cell HX9.out 1
  have x2 : W.cell? ⟨xb, 2, none⟩ = some (.int .u8 (y : Nat)) := block_cell HX9.out 2
  clear hPV
  refine wp_region_allX (GVO 13 14 W.heap.size) gvo_inj (GX 13 14 54 62) (fun _ => True) (GPR 11 13 12 14 SigLy (PrtLy wt1)) gx_refl trivial (phis [fun u _ => u = (.agg #[.int .u64 (kk : Nat), .slice a1 67 c1, .slice a2 n2 c2]), fun u _ => u = (.pointer (some ⟨rb, 0, none⟩)), fun u _ => u = (.pointer (some ⟨mb, 7, none⟩)), fun u _ => u = (.int .u64 (wt : Nat)), fun u _ => u = (.int .u64 (wt1 : Nat)), fun u _ => u = (PV), fun u _ => u = (.agg #[.int .u8 (x : Nat), .int .u8 (a : Nat), .int .u8 (y : Nat)]), fun u w' => SpV wt1 u w', fun u w' => SpV wt1 u w', fun u w' => SgV u w', fun u _ => PtV wt1 u, fun u w' => ∃ (c : Nat) (cs : Array Value), u = .pointer (some ⟨c, 0, none⟩) ∧ W.heap.size ≤ c ∧ w'.heap[c]? = some (.cells cs 54 (0, 0)) ∧ cs.size = 3, fun u w' => ∃ (c : Nat) (cs : Array Value), u = .pointer (some ⟨c, 0, none⟩) ∧ W.heap.size ≤ c ∧ w'.heap[c]? = some (.cells cs 62 (0, 0)) ∧ cs.size = 5, fun _ _ => True, fun _ _ => True]) rfl (by kernel_rfl) (monoX_of ⟨monoX_eq, monoX_eq, monoX_eq, monoX_eq, monoX_eq, monoX_eq, monoX_eq, ?m7, ?m8, ?m9, ?m10, ?m11, ?m12, ?m13, ?m14, trivial⟩) (fun _ _ _ _ _ => trivial) (gpr_mono sigLy_gx prtLy_gx) (stepsX_of 15 ⟨?s0, ?s1, ?s2, ?s3, ?s4, ?s5, ?s6, ?s7, ?s8, ?s9, ?s10, ?s11, ?s12, ?s13, ?s14, trivial⟩) ?_
  case m7 =>
    exact fun j hj u w1 w2 h hu => hu.gx h.2
  case m8 =>
    exact fun j hj u w1 w2 h hu => hu.gx h.2
  case m9 =>
    exact fun j hj u w1 w2 h hu => hu.gx h.2
  case m10 =>
    exact fun j hj u w1 w2 h hu => hu
  case m11 =>
    exact fun j hj u w1 w2 h ⟨c, cs, h1, h2, h3, h4⟩ => by obtain ⟨cs', h5, h6⟩ := h.2.shape c cs _ _ h3; exact ⟨c, cs', h1, h2, h5, h6.trans h4⟩
  case m12 =>
    exact fun j hj u w1 w2 h ⟨c, cs, h1, h2, h3, h4⟩ => by obtain ⟨cs', h5, h6⟩ := h.2.shape c cs _ _ h3; exact ⟨c, cs', h1, h2, h5, h6.trans h4⟩
  case m13 =>
    exact fun _ _ _ _ _ _ _ => trivial
  case m14 =>
    exact fun _ _ _ _ _ _ _ => trivial
  case s0 =>
    refine stepX_val (v := (.agg #[.int .u64 (kk : Nat), .slice a1 67 c1, .slice a2 n2 c2])) gx_refl (fun j vi vj w => ⟨⟨fun h => absurd h.1 (by decide), fun h => absurd h.1 (by decide)⟩, ⟨fun h => absurd h.2 (by decide), fun h => absurd h.2 (by decide)⟩⟩) (fun D av wv hE hO hD => ?_) (fun _ => rfl)
    have h11 : av.eval (.tmp 11) = (.pointer (some ⟨gb, 0, none⟩)) := hO.2.2 11 rfl
    have f11 := (ev_form av 11).symm.trans h11
    have g0 := extG_cell hE.ext g0
    have g1 := extG_cell hE.ext g1
    have g2 := extG_cell hE.ext g2
    have m7 := extG_cell hE.ext m7
    have x0 := extG_cell hE.ext x0
    have x1 := extG_cell hE.ext x1
    have x2 := extG_cell hE.ext x2
    refine ⟨rfl, ?_⟩
    simp [go_sem, f11, g0, g1, g2, m7, x0, x1, x2, kw]
  case s1 =>
    refine stepX_val (v := (.pointer (some ⟨rb, 0, none⟩))) gx_refl (fun j vi vj w => ⟨⟨fun h => absurd h.1 (by decide), fun h => absurd h.1 (by decide)⟩, ⟨fun h => absurd h.2 (by decide), fun h => absurd h.2 (by decide)⟩⟩) (fun D av wv hE hO hD => ?_) (fun _ => rfl)
    have h7 : av.eval (.tmp 7) = (.pointer (some ⟨rb, 0, none⟩)) := hO.2.2 7 rfl
    have f7 := (ev_form av 7).symm.trans h7
    refine ⟨rfl, ?_⟩
    simp [go_sem, f7, kw]
  case s2 =>
    refine stepX_val (v := (.pointer (some ⟨mb, 7, none⟩))) gx_refl (fun j vi vj w => ⟨⟨fun h => absurd h.1 (by decide), fun h => absurd h.1 (by decide)⟩, ⟨fun h => absurd h.2 (by decide), fun h => absurd h.2 (by decide)⟩⟩) (fun D av wv hE hO hD => ?_) (fun _ => rfl)
    have h3 : av.eval (.tmp 3) = (.pointer (some ⟨mb, 0, none⟩)) := hO.2.2 3 rfl
    have f3 := (ev_form av 3).symm.trans h3
    refine ⟨rfl, ?_⟩
    simp [go_sem, f3, kw]
  case s3 =>
    refine stepX_val (v := (.int .u64 (wt : Nat))) gx_refl (fun j vi vj w => ⟨⟨fun h => absurd h.1 (by decide), fun h => absurd h.1 (by decide)⟩, ⟨fun h => absurd h.2 (by decide), fun h => absurd h.2 (by decide)⟩⟩) (fun D av wv hE hO hD => ?_) (fun _ => rfl)
    have d78 : av.eval (.tmp 78) = (.pointer (some ⟨mb, 7, none⟩)) := hD.1 rfl _ rfl
    have f78 := (ev_form av 78).symm.trans d78
    have g0 := extG_cell hE.ext g0
    have g1 := extG_cell hE.ext g1
    have g2 := extG_cell hE.ext g2
    have m7 := extG_cell hE.ext m7
    have x0 := extG_cell hE.ext x0
    have x1 := extG_cell hE.ext x1
    have x2 := extG_cell hE.ext x2
    refine ⟨rfl, ?_⟩
    simp [go_sem, f78, g0, g1, g2, m7, x0, x1, x2, kw]
  case s4 =>
    refine stepX_val (v := (.int .u64 (wt1 : Nat))) gx_refl (fun j vi vj w => ⟨⟨fun h => absurd h.1 (by decide), fun h => absurd h.1 (by decide)⟩, ⟨fun h => absurd h.2 (by decide), fun h => absurd h.2 (by decide)⟩⟩) (fun D av wv hE hO hD => ?_) (fun _ => rfl)
    have d79 : av.eval (.tmp 79) = (.int .u64 (wt : Nat)) := hD.1 rfl _ rfl
    have f79 := (ev_form av 79).symm.trans d79
    refine ⟨rfl, ?_⟩
    simp [go_sem, f79, kw]
  case s5 =>
    refine stepX_wp (fun D av wv hP hE hO hD => ?_)
    have d77 : av.eval (.tmp 77) = (.pointer (some ⟨rb, 0, none⟩)) := hD.1 rfl _ rfl
    have f77 := (ev_form av 77).symm.trans d77
    have d80 : av.eval (.tmp 80) = (.int .u64 (wt1 : Nat)) := hD.2.1 rfl _ rfl
    have f80 := (ev_form av 80).symm.trans d80
    refine ⟨rfl, ?_⟩
    refine wp_of_call (v := PV) (by simp [go_sem, f77, f80]) (HPART.out wv (of_drewG hE.ext)) (fun w2 hb => ⟨_, rfl, esG_ext hb, rfl, (fun j oj _ _ _ => ⟨⟨fun h => absurd h.1 (by decide), fun h => absurd h.1 (by decide)⟩, ⟨fun h => absurd h.2 (by decide), fun h => absurd h.2 (by decide)⟩⟩)⟩)
  case s6 =>
    refine stepX_val (v := (.agg #[.int .u8 (x : Nat), .int .u8 (a : Nat), .int .u8 (y : Nat)])) gx_refl (fun j vi vj w => ⟨⟨fun h => absurd h.1 (by decide), fun h => absurd h.1 (by decide)⟩, ⟨fun h => absurd h.2 (by decide), fun h => absurd h.2 (by decide)⟩⟩) (fun D av wv hE hO hD => ?_) (fun _ => rfl)
    have h4 : av.eval (.tmp 4) = (.pointer (some ⟨xb, 0, none⟩)) := hO.2.2 4 rfl
    have f4 := (ev_form av 4).symm.trans h4
    have g0 := extG_cell hE.ext g0
    have g1 := extG_cell hE.ext g1
    have g2 := extG_cell hE.ext g2
    have m7 := extG_cell hE.ext m7
    have x0 := extG_cell hE.ext x0
    have x1 := extG_cell hE.ext x1
    have x2 := extG_cell hE.ext x2
    refine ⟨rfl, ?_⟩
    simp [go_sem, f4, g0, g1, g2, m7, x0, x1, x2, kw]
  case s7 =>
    refine stepX_wp (fun D av wv hP hE hO hD => ?_)
    have d76 : av.eval (.tmp 76) = (.agg #[.int .u64 (kk : Nat), .slice a1 67 c1, .slice a2 n2 c2]) := hD.1 rfl _ rfl
    have f76 := (ev_form av 76).symm.trans d76
    have d81 : av.eval (.tmp 81) = (PV) := hD.2.1 rfl _ rfl
    have f81 := (ev_form av 81).symm.trans d81
    have d82 : av.eval (.tmp 82) = (.agg #[.int .u8 (x : Nat), .int .u8 (a : Nat), .int .u8 (y : Nat)]) := hD.2.2.1 rfl _ rfl
    have f82 := (ev_form av 82).symm.trans d82
    refine ⟨rfl, ?_⟩
    refine wp_of_callV (R := fun u w2 => SpV wt1 u w2 ∧ Below wv.heap.size wv w2) (f := 25) (args := #[.agg #[.int .u64 (kk : Nat), .slice a1 67 c1, .slice a2 n2 c2], PV, .agg #[.int .u8 (x : Nat), .int .u8 (a : Nat), .int .u8 (y : Nat)]]) (by simp [go_sem, f76, f81, f82]) (HSP.out wv (of_drewG hE.ext)) (fun v w2 h => ⟨_, rfl, esG_ext h.2, h.1, (fun j oj _ _ _ => ⟨⟨fun h => absurd h.1 (by decide), fun h => absurd h.1 (by decide)⟩, ⟨fun h => absurd h.2 (by decide), fun h => absurd h.2 (by decide)⟩⟩)⟩)
  case s8 =>
    refine stepX_wp (fun D av wv hP hE hO hD => ?_)
    have d83 : (fun u w' => SpV wt1 u w') (av.eval (.tmp 83)) wv := hD.1 rfl _ rfl
    refine ⟨rfl, ?_⟩
    obtain ⟨u, hu⟩ : ∃ u, av.eval (.tmp 83) = u := ⟨_, rfl⟩
    rw [hu] at d83
    have fu := (ev_form av 83).symm.trans hu
    exact wp_of_run (v := u) (w' := wv) (by simp [go_sem, fu]) ⟨_, rfl, esG_ext (Ext_refl _), d83, (fun j oj _ _ _ => ⟨⟨fun h => absurd h.1 (by decide), fun h => absurd h.1 (by decide)⟩, ⟨fun h => absurd h.2 (by decide), fun h => absurd h.2 (by decide)⟩⟩)⟩
  case s9 =>
    refine stepX_wp (fun D av wv hP hE hO hD => ?_)
    have d75 : (fun u w' => SpV wt1 u w') (av.eval (.tmp 75)) wv := hD.1 rfl _ rfl
    refine ⟨rfl, ?_⟩
    obtain ⟨p, q, hp, hq, -⟩ := d75
    have fu := (ev_form av 75).symm.trans hp
    exact wp_of_run (v := p) (w' := wv) (by simp [go_sem, fu]) ⟨_, rfl, esG_ext (Ext_refl _), hq, (fun j oj _ _ _ => ⟨⟨fun h => absurd h.1 (by decide), fun h => absurd h.1 (by decide)⟩, ⟨fun h => absurd h.2 (by decide), fun h => absurd h.2 (by decide)⟩⟩)⟩
  case s10 =>
    refine stepX_wp (fun D av wv hP hE hO hD => ?_)
    have d75 : (fun u w' => SpV wt1 u w') (av.eval (.tmp 75)) wv := hD.1 rfl _ rfl
    refine ⟨rfl, ?_⟩
    obtain ⟨p, q, hp, -, hq⟩ := d75
    have fu := (ev_form av 75).symm.trans hp
    exact wp_of_run (v := q) (w' := wv) (by simp [go_sem, fu]) ⟨_, rfl, esG_ext (Ext_refl _), hq, (fun j oj _ _ _ => ⟨⟨fun h => absurd h.1 (by decide), fun h => absurd h.1 (by decide)⟩, ⟨fun h => absurd h.2 (by decide), fun h => absurd h.2 (by decide)⟩⟩)⟩
  case s11 =>
    refine stepX_wp (fun D av wv hP hE hO hD => ?_)
    refine ⟨rfl, ?_⟩
    exact wp_of_run (v := .pointer (some ⟨wv.heap.size, 0, none⟩)) (w' := wv.alloc (.cells #[.int .u64 0, .slice none 0 0, .slice none 0 0] 54)) (by simp [go_sem]) ⟨_, rfl, esG_ext (balloc (Ext_refl _) _), ⟨wv.heap.size, _, rfl, (by have := hE.ext.size; simpa using this), heap_alloc_new _ _, rfl⟩, fun j oj hj hd _ => ⟨⟨fun h => by
      obtain rfl := h.2
      cases hj
      exact absurd hd (hE.notyet 13 _ rfl ⟨11, .data⟩ (by simp) rfl hE.me), fun h => absurd h.1 (by decide)⟩, ⟨fun h => absurd h.2 (by decide), fun h => absurd h.2 (by decide)⟩⟩⟩
  case s12 =>
    refine stepX_wp (fun D av wv hP hE hO hD => ?_)
    refine ⟨rfl, ?_⟩
    exact wp_of_run (v := .pointer (some ⟨wv.heap.size, 0, none⟩)) (w' := wv.alloc (.cells #[.string ⟨#[]⟩, .int .u64 0, .int .u64 0, .int .u64 0, .int .u64 0] 62)) (by simp [go_sem]) ⟨_, rfl, esG_ext (balloc (Ext_refl _) _), ⟨wv.heap.size, _, rfl, (by have := hE.ext.size; simpa using this), heap_alloc_new _ _, rfl⟩, fun j oj hj hd _ => ⟨⟨fun h => absurd h.1 (by decide), fun h => by
      obtain rfl := h.2
      cases hj
      exact absurd hd (hE.notyet 14 _ rfl ⟨12, .data⟩ (by simp) rfl hE.me)⟩, ⟨fun h => absurd h.2 (by decide), fun h => absurd h.2 (by decide)⟩⟩⟩
  case s13 =>
    refine stepX_wp (fun D av wv hP hE hO hD => ?_)
    have d13 : (fun u w' => ∃ (c : Nat) (cs : Array Value), u = .pointer (some ⟨c, 0, none⟩) ∧ W.heap.size ≤ c ∧ w'.heap[c]? = some (.cells cs 54 (0, 0)) ∧ cs.size = 3) (av.eval (.tmp 13)) wv := hD.1 rfl _ rfl
    have d84 : (fun u w' => SgV u w') (av.eval (.tmp 84)) wv := hD.2.1 rfl _ rfl
    refine ⟨rfl, ?_⟩
    obtain ⟨c, cs, h1, h2, h3, h4⟩ := d13
    obtain ⟨ix, sv, sp, sn, sm, g1', g2', g3', g4'⟩ := d84
    obtain ⟨sa1, sc1, rfl, -⟩ := id g2'
    obtain ⟨sa2, sc2, rfl, -⟩ := id g3'
    have fA := (ev_form av 13).symm.trans h1
    have fB := (ev_form av 84).symm.trans g1'
    match cs, h4, h3 with
    | ⟨[u0, u1, u2]⟩, _, h3 =>
      have q0 : wv.cell? ⟨c, 0, none⟩ = some u0 := block_cell h3 0
      have q1 : wv.cell? ⟨c, 1, none⟩ = some u1 := block_cell h3 1
      have q2 : wv.cell? ⟨c, 2, none⟩ = some u2 := block_cell h3 2
      have hz : ∀ o, wv.frozen? ⟨c, o, none⟩ = false := block_free h3
      have l0 : c < wv.heap.size := lt_of_block h3
      unfold Oper.wp
      simp [go_sem, fA, fB, hz, l0, q0, q1, q2]
      have hn3 := block_setCell (block_setCell (block_setCell h3 (o := 0) (.int .u64 ix)) (o := 1) (.slice sa1 sn sc1)) (o := 2) (.slice sa2 sm sc2)
      have hg := esG_put (S1 := 13) (S2 := 14) (t1 := 54) (t2 := 62) (.inl ⟨rfl, rfl⟩) h2 (extB_setInG (extB_setInG (extB_setInG (ExtB_refl _ _) 0 _) 1 _) 2 _) h3 hn3 (by simp)
      refine ⟨hg, undef, trivial, fun j oj hj hd hne => ⟨⟨fun h => absurd h.1 (by decide), fun h => absurd h.1 (by decide)⟩, ⟨fun h c' hc' => ?_, fun h => absurd h.2 (by decide)⟩⟩⟩
      obtain rfl := h.1
      cases hj
      have hcc : (Value.pointer (some ⟨c, 0, none⟩)) = .pointer (some ⟨c', 0, none⟩) := h1.symm.trans hc'
      cases hcc
      exact ⟨ix, _, _, sn, sm, hn3, g2'.gx hg.2, g3'.gx hg.2, g4'⟩
  case s14 =>
    refine stepX_wp (fun D av wv hP hE hO hD => ?_)
    have d14 : (fun u w' => ∃ (c : Nat) (cs : Array Value), u = .pointer (some ⟨c, 0, none⟩) ∧ W.heap.size ≤ c ∧ w'.heap[c]? = some (.cells cs 62 (0, 0)) ∧ cs.size = 5) (av.eval (.tmp 14)) wv := hD.1 rfl _ rfl
    have d85 : (fun u _ => PtV wt1 u) (av.eval (.tmp 85)) wv := hD.2.1 rfl _ rfl
    refine ⟨rfl, ?_⟩
    obtain ⟨c, cs, h1, h2, h3, h4⟩ := d14
    obtain ⟨rt, pf, pL, pK, g1', g2'⟩ := d85
    have fA := (ev_form av 14).symm.trans h1
    have fB := (ev_form av 85).symm.trans g1'
    match cs, h4, h3 with
    | ⟨[u0, u1, u2, u3, u4]⟩, _, h3 =>
      have q0 : wv.cell? ⟨c, 0, none⟩ = some u0 := block_cell h3 0
      have q1 : wv.cell? ⟨c, 1, none⟩ = some u1 := block_cell h3 1
      have q2 : wv.cell? ⟨c, 2, none⟩ = some u2 := block_cell h3 2
      have q3 : wv.cell? ⟨c, 3, none⟩ = some u3 := block_cell h3 3
      have q4 : wv.cell? ⟨c, 4, none⟩ = some u4 := block_cell h3 4
      have hz : ∀ o, wv.frozen? ⟨c, o, none⟩ = false := block_free h3
      have l0 : c < wv.heap.size := lt_of_block h3
      unfold Oper.wp
      simp [go_sem, fA, fB, hz, l0, q0, q1, q2, q3, q4]
      have hn3 := block_setCell (block_setCell (block_setCell (block_setCell (block_setCell h3 (o := 0) (.string rt)) (o := 1) (.int .u64 (wt1 : Nat))) (o := 2) (.int .u64 (pf : Nat))) (o := 3) (.int .u64 (pL : Nat))) (o := 4) (.int .u64 (pK : Nat))
      have hg := esG_put (S1 := 13) (S2 := 14) (t1 := 54) (t2 := 62) (.inr ⟨rfl, rfl⟩) h2 (extB_setInG (extB_setInG (extB_setInG (extB_setInG (extB_setInG (ExtB_refl _ _) 0 _) 1 _) 2 _) 3 _) 4 _) h3 hn3 (by simp)
      refine ⟨hg, undef, trivial, fun j oj hj hd hne => ⟨⟨fun h => absurd h.1 (by decide), fun h => absurd h.1 (by decide)⟩, ⟨fun h => absurd h.2 (by decide), fun h c' hc' => ?_⟩⟩⟩
      obtain rfl := h.1
      cases hj
      have hcc : (Value.pointer (some ⟨c, 0, none⟩)) = .pointer (some ⟨c', 0, none⟩) := h1.symm.trans hc'
      cases hcc
      exact ⟨rt, pf, pL, pK, hn3, g2'⟩
  intro a' w' hE _ hO hall hpair
  have hA := act_of_outer (ds := [76, 77, 78, 79, 80, 81, 82, 83, 75, 84, 85, 13, 14]) rfl hO (by kernel_rfl)
  have e76 : (fun u _ => u = (.agg #[.int .u64 (kk : Nat), .slice a1 67 c1, .slice a2 n2 c2])) (a'.eval (.tmp 76)) w' := hall.1 _ rfl
  have e77 : (fun u _ => u = (.pointer (some ⟨rb, 0, none⟩))) (a'.eval (.tmp 77)) w' := hall.2.1 _ rfl
  have e78 : (fun u _ => u = (.pointer (some ⟨mb, 7, none⟩))) (a'.eval (.tmp 78)) w' := hall.2.2.1 _ rfl
  have e79 : (fun u _ => u = (.int .u64 (wt : Nat))) (a'.eval (.tmp 79)) w' := hall.2.2.2.1 _ rfl
  have e80 : (fun u _ => u = (.int .u64 (wt1 : Nat))) (a'.eval (.tmp 80)) w' := hall.2.2.2.2.1 _ rfl
  have e81 : (fun u _ => u = (PV)) (a'.eval (.tmp 81)) w' := hall.2.2.2.2.2.1 _ rfl
  have e82 : (fun u _ => u = (.agg #[.int .u8 (x : Nat), .int .u8 (a : Nat), .int .u8 (y : Nat)])) (a'.eval (.tmp 82)) w' := hall.2.2.2.2.2.2.1 _ rfl
  have e83 : (fun u w' => SpV wt1 u w') (a'.eval (.tmp 83)) w' := hall.2.2.2.2.2.2.2.1 _ rfl
  have e75 : (fun u w' => SpV wt1 u w') (a'.eval (.tmp 75)) w' := hall.2.2.2.2.2.2.2.2.1 _ rfl
  have e84 : (fun u w' => SgV u w') (a'.eval (.tmp 84)) w' := hall.2.2.2.2.2.2.2.2.2.1 _ rfl
  have e85 : (fun u _ => PtV wt1 u) (a'.eval (.tmp 85)) w' := hall.2.2.2.2.2.2.2.2.2.2.1 _ rfl
  have e13 : (fun u w' => ∃ (c : Nat) (cs : Array Value), u = .pointer (some ⟨c, 0, none⟩) ∧ W.heap.size ≤ c ∧ w'.heap[c]? = some (.cells cs 54 (0, 0)) ∧ cs.size = 3) (a'.eval (.tmp 13)) w' := hall.2.2.2.2.2.2.2.2.2.2.2.1 _ rfl
  have e14 : (fun u w' => ∃ (c : Nat) (cs : Array Value), u = .pointer (some ⟨c, 0, none⟩) ∧ W.heap.size ≤ c ∧ w'.heap[c]? = some (.cells cs 62 (0, 0)) ∧ cs.size = 5) (a'.eval (.tmp 14)) w' := hall.2.2.2.2.2.2.2.2.2.2.2.2.1 _ rfl
  have z13 : (fun _ _ => True) undef w' := hall.2.2.2.2.2.2.2.2.2.2.2.2.2.1 _ rfl
  have z14 : (fun _ _ => True) undef w' := hall.2.2.2.2.2.2.2.2.2.2.2.2.2.2.1 _ rfl
  obtain ⟨v83, hv83⟩ : ∃ v, a'.eval (.tmp 83) = v := ⟨_, rfl⟩
  rw [hv83] at e83
  obtain ⟨v75, hv75⟩ : ∃ v, a'.eval (.tmp 75) = v := ⟨_, rfl⟩
  rw [hv75] at e75
  obtain ⟨v84, hv84⟩ : ∃ v, a'.eval (.tmp 84) = v := ⟨_, rfl⟩
  rw [hv84] at e84
  obtain ⟨v85, hv85⟩ : ∃ v, a'.eval (.tmp 85) = v := ⟨_, rfl⟩
  rw [hv85] at e85
  obtain ⟨v13, hv13⟩ : ∃ v, a'.eval (.tmp 13) = v := ⟨_, rfl⟩
  rw [hv13] at e13
  obtain ⟨v14, hv14⟩ : ∃ v, a'.eval (.tmp 14) = v := ⟨_, rfl⟩
  rw [hv14] at e14
  simp only [List.foldl_cons, List.foldl_nil, Act.put, List.setIfInBounds_toArray, List.set_cons_succ, List.set_cons_zero, e76, e77, e78, e79, e80, e81, e82, hv83, hv75, hv84, hv85, hv13, hv14] at hA
  clear hO hall e76 e77 e78 e79 e80 e81 e82 hv83 hv75 hv84 hv85 hv13 hv14
  subst hA
  have hq1 := (hpair 11 13 _ _ rfl rfl (by decide) (by decide) (by decide)).1 ⟨rfl, rfl⟩
  have hq2 := (hpair 12 14 _ _ rfl rfl (by decide) (by decide) (by decide)).2 ⟨rfl, rfl⟩
  clear hpair
  obtain ⟨sb, -, rfl, hsb9, -, -⟩ := e13
  obtain ⟨pb, -, rfl, hpb9, -, -⟩ := e14
  have HDJ : Hid (¬ (sb = ob) ∧ ¬ (pb = ob)) := Lib.hid (by have := lt_of_block HO9.out; omega)
  clear hsb9 hpb9
  obtain ⟨jx, sv, sp, sn, sm, hsl, ht1, ht2, hsn, hsm⟩ := hq1 sb rfl
  obtain ⟨rt, pf, pL, pK, hpl, hpf⟩ := hq2 pb rfl
  obtain ⟨Ls, hls, b1, d1, rfl, hts, -, -⟩ := ht1.texts
  obtain ⟨Lp, hlp, b2, d2, rfl, htp, hd2, -⟩ := ht2.texts
  rw [hls] at hsl
  rw [hlp] at hsl hd2
  have hb := of_drewG hE
  obtain ⟨W1, hW1⟩ : ∃ W1, w' = W1 := ⟨_, rfl⟩
  rw [hW1] at hsl hpl hts htp hb ⊢
  have HSL := Lib.hid hsl
  have HPL := Lib.hid hpl
  have HTS := Lib.hid hts
  have HTP := Lib.hid htp
  have HLN : Hid (len Ls = sn ∧ len Lp = sm ∧ sn ≤ 1000000 ∧ sm ≤ 1000000 ∧ sm ≤ d2 ∧ pf < 18446744073709551616) := Lib.hid ⟨hls, hlp, hsn, hsm, hd2, hpf⟩
  have HM10 := Lib.hid ((hb.block _ (lt_of_block HM9.out)).trans HM9.out)
  have HO10 := Lib.hid ((hb.block _ (lt_of_block HO9.out)).trans HO9.out)
  have HB10 := Lib.hid (bnext HB9.out hb)
  clear hE hb hq1 hq2 hsl hpl ht1 ht2 hsn hsm hpf hls hlp hts htp hd2 hW1 e83 e75 e84 e85 HM9 HX9 HO9 HB9 HL9 HG9 g0 g1 g2 m7 x0 x1 x2 kw HPART HSP HTA HTB HT1' HT2'
  have m6 : W1.cell? ⟨mb, 6, none⟩ = some (.int .u64 (r : Nat)) := block_cell HM10.out 6
  have m4 : W1.cell? ⟨mb, 4, none⟩ = some (.int .u64 (l : Nat)) := block_cell HM10.out 4
  obtain ⟨R3, hR3⟩ : ∃ R3, R1 + l = R3 := ⟨_, rfl⟩
  have k1 : ((R1 : Nat) : Int) + (l : Int) = (R3 : Int) := by omega
  have k2 : IntKind.u64.wrap ((R3 : Nat) : Int) = (R3 : Int) := IntWalk.u64_in _ (by have := HR1.out; have := HKK.out; have := HA.out; have := HQ.out; omega)
  have HR3 : Hid (R3 < 18446744073709551616) := Lib.hid (by have := HR1.out; have := HKK.out; have := HA.out; have := HQ.out; omega)
  clear hR3
  obtain ⟨lb, hlb⟩ : ∃ lb, W1.heap.size = lb := ⟨_, rfl⟩
  obtain ⟨W2, hW2⟩ : ∃ W2, W1.alloc (.cells #[.int .u64 (R1 : Nat), .int .u64 (r : Nat), .int .u64 (R3 : Nat)] 37) = W2 := ⟨_, rfl⟩
  have hb : Below W1.heap.size W1 W2 := by rw [← hW2]; exact balloc (Below.refl _ _) _
  have HLB : Hid (W2.heap[lb]? = some (.cells #[.int .u64 (R1 : Nat), .int .u64 (r : Nat), .int .u64 (R3 : Nat)] 37 (0, 0))) := Lib.hid (by rw [← hW2]; exact alloc_new_at _ hlb)
  have HSL2 := Lib.hid ((hb.block _ (lt_of_block HSL.out)).trans HSL.out)
  have HPL2 := Lib.hid ((hb.block _ (lt_of_block HPL.out)).trans HPL.out)
  have HTS2 := Lib.hid (HTS.out.below hb)
  have HTP2 := Lib.hid (HTP.out.below hb)
  have HM2 := Lib.hid ((hb.block _ (lt_of_block HM10.out)).trans HM10.out)
  have HO2 := Lib.hid ((hb.block _ (lt_of_block HO10.out)).trans HO10.out)
  have HB2 := Lib.hid (bnext HB10.out hb)
  clear hb HSL HPL HTS HTP HM10 HO10 HB10
  go_wp2
  go_loopg [95, 16] 3 (fun gg i _ wr => ∃ m : Nat, gg + m = 3 ∧ i = .int .i64 (m : Nat) ∧ Hid (Below W2.heap.size W2 wr))
  case atStart => exact ⟨0, rfl, rfl, Lib.hid (Below.refl _ _)⟩
  case round =>
    clear hW2 hlb m6 m4 k1 k2
    obtain ⟨m, hm, rfl, HW⟩ := hrel
    by_cases hlt : m < 3
    · have b0 : (m : Int) < 3 := by omega
      have bl : ¬ (3 : Int) ≤ (m : Int) := by omega
      obtain ⟨xr, hxr, c0⟩ : ∃ xr : Nat, xr < 18446744073709551616 ∧ wr.cell? ⟨lb, m, none⟩ = some (.int .u64 (xr : Nat)) := by
        have hcl := (HW.out.block _ (lt_of_block HLB.out)).trans HLB.out
        rcases (by omega : m = 0 ∨ m = 1 ∨ m = 2) with rfl | rfl | rfl
        · exact ⟨R1, HR1.out.2, block_cell hcl 0⟩
        · exact ⟨r, HFL.out.2.2.1, block_cell hcl 1⟩
        · exact ⟨R3, HR3.out, block_cell hcl 2⟩
      have HXR := Lib.hid hxr
      have HM := Lib.hid hm
      have HLT := Lib.hid hlt
      clear hm hxr
      go_upto_region 17 with fail
      obtain ⟨E9, hE9⟩ : ∃ E9, verE rt pf pL pK xr dg ⟨jx, Ls, Lp⟩ = E9 := ⟨_, rfl⟩
      have HVF : Hid (∀ wv, Below wr.heap.size wr wv → Calls Tryz.prog 27 #[.agg #[.string rt, .int .u64 (wt1 : Nat), .int .u64 (pf : Nat), .int .u64 (pL : Nat), .int .u64 (pK : Nat)], .int .u64 (xr : Nat), .string dg, .agg #[.int .u64 jx, .slice b1 sn d1, .slice b2 sm d2]] wv fun e w' => e = .returned (.int .i64 E9) ∧ Below wv.heap.size wv w') := Lib.hid (fun wv hb => by
        have h := verify_any rt dg wt1 pf pL pK xr jx Ls Lp b1 b2 d1 d2 wv (HTS2.out.below (bnext HW.out hb)) (HTP2.out.below (bnext HW.out hb)) HLN.out.2.2.2.2.2 HXR.out (by rw [HLN.out.1]; exact HLN.out.2.2.1) (by rw [HLN.out.2.1]; exact HLN.out.2.2.2.1) (by rw [HLN.out.2.1]; exact HLN.out.2.2.2.2.1)
        rw [HLN.out.1, HLN.out.2.1, hE9] at h
        exact h)
      have HVR : Hid (∀ wv, Below wr.heap.size wr wv → Calls Tryz.prog 28 #[.agg #[.string rt, .int .u64 (wt1 : Nat), .int .u64 (pf : Nat), .int .u64 (pL : Nat), .int .u64 (pK : Nat)], .int .u64 (xr : Nat), .string dg, .agg #[.int .u64 jx, .slice b1 sn d1, .slice b2 sm d2]] wv fun e w' => e = .returned (.int .i64 E9) ∧ Below wv.heap.size wv w') := Lib.hid (fun wv hb => by
        have h := rverify_any rt dg wt1 pf pL pK xr jx Ls Lp b1 b2 d1 d2 wv (HTS2.out.below (bnext HW.out hb)) (HTP2.out.below (bnext HW.out hb)) HLN.out.2.2.2.2.2 HXR.out (by rw [HLN.out.1]; exact HLN.out.2.2.1) (by rw [HLN.out.2.1]; exact HLN.out.2.2.2.1) (by rw [HLN.out.2.1]; exact HLN.out.2.2.2.2.1)
        rw [HLN.out.1, HLN.out.2.1, hE9] at h
        exact h)
      have hsw := (HW.out.block _ (lt_of_block HSL2.out)).trans HSL2.out
      have hpw := (HW.out.block _ (lt_of_block HPL2.out)).trans HPL2.out
      have s0 : wr.cell? ⟨sb, 0, none⟩ = some (.int .u64 jx) := block_cell hsw 0
      have s1 : wr.cell? ⟨sb, 1, none⟩ = some (.slice b1 sn d1) := block_cell hsw 1
      have s2 : wr.cell? ⟨sb, 2, none⟩ = some (.slice b2 sm d2) := block_cell hsw 2
      have p0 : wr.cell? ⟨pb, 0, none⟩ = some (.string rt) := block_cell hpw 0
      have p1 : wr.cell? ⟨pb, 1, none⟩ = some (.int .u64 (wt1 : Nat)) := block_cell hpw 1
      have p2 : wr.cell? ⟨pb, 2, none⟩ = some (.int .u64 (pf : Nat)) := block_cell hpw 2
      have p3 : wr.cell? ⟨pb, 3, none⟩ = some (.int .u64 (pL : Nat)) := block_cell hpw 3
      have p4 : wr.cell? ⟨pb, 4, none⟩ = some (.int .u64 (pK : Nat)) := block_cell hpw 4
      have kn : (E9 != E9) = false := by simp
      clear hE9 hsw hpw c0
      refine wp_region_all 1000 (none) (phis (List.map qv [.agg #[.string rt, .int .u64 (wt1 : Nat), .int .u64 (pf : Nat), .int .u64 (pL : Nat), .int .u64 (pK : Nat)], .int .u64 (xr : Nat), .string dg, .agg #[.int .u64 jx, .slice b1 sn d1, .slice b2 sm d2], .int .i64 E9, .agg #[.string rt, .int .u64 (wt1 : Nat), .int .u64 (pf : Nat), .int .u64 (pL : Nat), .int .u64 (pK : Nat)], .int .u64 (xr : Nat), .string dg, .agg #[.int .u64 jx, .slice b1 sn d1, .slice b2 sm d2], .int .i64 E9, .bool false])) rfl (by kernel_rfl) (mono_of mono_qv) (steps_of 11 ⟨?s0, ?s1, ?s2, ?s3, ?s4, ?s5, ?s6, ?s7, ?s8, ?s9, ?s10, trivial⟩) ?_
      case s0 =>
        refine qV (fun _ => rfl) rfl fun av wv hE hO hD => ?_
        simp [go_sem, qF av 14 (.pointer (some ⟨pb, 0, none⟩)) (hO.2.2 14 rfl), extB_cell hE (by simp) p0, extB_cell hE (by simp) p1, extB_cell hE (by simp) p2, extB_cell hE (by simp) p3, extB_cell hE (by simp) p4, extB_cell hE (by simp) s0, extB_cell hE (by simp) s1, extB_cell hE (by simp) s2, kn]
      case s1 =>
        refine qV (fun _ => rfl) rfl fun av wv hE hO hD => ?_
        simp [go_sem, qF av 16 (.int .u64 (xr : Nat)) (hO.2.2 16 rfl), kn]
      case s2 =>
        refine qV (fun _ => rfl) rfl fun av wv hE hO hD => ?_
        simp [go_sem, qF av 9 (.string dg) (hO.2.2 9 rfl), kn]
      case s3 =>
        refine qV (fun _ => rfl) rfl fun av wv hE hO hD => ?_
        simp [go_sem, qF av 13 (.pointer (some ⟨sb, 0, none⟩)) (hO.2.2 13 rfl), extB_cell hE (by simp) p0, extB_cell hE (by simp) p1, extB_cell hE (by simp) p2, extB_cell hE (by simp) p3, extB_cell hE (by simp) p4, extB_cell hE (by simp) s0, extB_cell hE (by simp) s1, extB_cell hE (by simp) s2, kn]
      case s4 =>
        refine step_wp (fun av wv hE hS hO hD => ⟨rfl, ?_⟩)
        have f99 := qE (hD.1 rfl _ rfl)
        have f100 := qE (hD.2.1 rfl _ rfl)
        have f101 := qE (hD.2.2.1 rfl _ rfl)
        have f102 := qE (hD.2.2.2.1 rfl _ rfl)
        refine wp_of_call (v := .int .i64 E9) (by simp [go_sem, f99, f100, f101, f102]) (HVF.out wv (of_drew hE)) (fun w2 hb => ⟨_, rfl, es_of_ext hb, rfl⟩)
      case s5 =>
        refine qV (fun _ => rfl) rfl fun av wv hE hO hD => ?_
        simp [go_sem, qF av 14 (.pointer (some ⟨pb, 0, none⟩)) (hO.2.2 14 rfl), extB_cell hE (by simp) p0, extB_cell hE (by simp) p1, extB_cell hE (by simp) p2, extB_cell hE (by simp) p3, extB_cell hE (by simp) p4, extB_cell hE (by simp) s0, extB_cell hE (by simp) s1, extB_cell hE (by simp) s2, kn]
      case s6 =>
        refine qV (fun _ => rfl) rfl fun av wv hE hO hD => ?_
        simp [go_sem, qF av 16 (.int .u64 (xr : Nat)) (hO.2.2 16 rfl), kn]
      case s7 =>
        refine qV (fun _ => rfl) rfl fun av wv hE hO hD => ?_
        simp [go_sem, qF av 9 (.string dg) (hO.2.2 9 rfl), kn]
      case s8 =>
        refine qV (fun _ => rfl) rfl fun av wv hE hO hD => ?_
        simp [go_sem, qF av 13 (.pointer (some ⟨sb, 0, none⟩)) (hO.2.2 13 rfl), extB_cell hE (by simp) p0, extB_cell hE (by simp) p1, extB_cell hE (by simp) p2, extB_cell hE (by simp) p3, extB_cell hE (by simp) p4, extB_cell hE (by simp) s0, extB_cell hE (by simp) s1, extB_cell hE (by simp) s2, kn]
      case s9 =>
        refine step_wp (fun av wv hE hS hO hD => ⟨rfl, ?_⟩)
        have f104 := qE (hD.1 rfl _ rfl)
        have f105 := qE (hD.2.1 rfl _ rfl)
        have f106 := qE (hD.2.2.1 rfl _ rfl)
        have f107 := qE (hD.2.2.2.1 rfl _ rfl)
        refine wp_of_call (v := .int .i64 E9) (by simp [go_sem, f104, f105, f106, f107]) (HVR.out wv (of_drew hE)) (fun w2 hb => ⟨_, rfl, es_of_ext hb, rfl⟩)
      case s10 =>
        refine qV (fun _ => rfl) rfl fun av wv hE hO hD => ?_
        simp [go_sem, qE (hD.1 rfl _ rfl), qE (hD.2.1 rfl _ rfl), kn]
      intro a' w' hE hO hall
      have hA := act_of_outer (ds := [99, 100, 101, 102, 103, 104, 105, 106, 107, 108, 109]) rfl hO (by kernel_rfl)
      obtain ⟨j0, j1, j2, j3, j4, j5, j6, j7, j8, j9, j10, -⟩ := hall
      simp only [List.foldl_cons, List.foldl_nil, Act.put, List.setIfInBounds_toArray, List.set_cons_succ, List.set_cons_zero, qJ 99 (j0 _ rfl), qJ 100 (j1 _ rfl), qJ 101 (j2 _ rfl), qJ 102 (j3 _ rfl), qJ 103 (j4 _ rfl), qJ 104 (j5 _ rfl), qJ 105 (j6 _ rfl), qJ 106 (j7 _ rfl), qJ 107 (j8 _ rfl), qJ 108 (j9 _ rfl), qJ 109 (j10 _ rfl)] at hA
      clear hO j0 j1 j2 j3 j4 j5 j6 j7 j8 j9 j10
      subst hA
      have hb := of_drew hE
      have HX1 := Lib.hid (bnext HW.out hb)
      clear hE hb s0 s1 s2 p0 p1 p2 p3 p4 kn
      go_wp2
      go_roundg (gk - 1)
      case rel => exact ⟨m + 1, by have := HM.out; have := HLT.out; omega, by have := HLT.out; go_num, HX1⟩
      case measure => have := HM.out; have := HLT.out; omega
    · obtain rfl : m = 3 := by omega
      have b0 : ¬ ((3 : Nat) : Int) < 3 := by decide
      have hmw := (HW.out.block _ (lt_of_block HM2.out)).trans HM2.out
      have how := (HW.out.block _ (lt_of_block HO2.out)).trans HO2.out
      have HWS := Lib.hid ((HW.out.block _ (lt_of_block HSL2.out)).trans HSL2.out)
      have HWP := Lib.hid ((HW.out.block _ (lt_of_block HPL2.out)).trans HPL2.out)
      have HWT := Lib.hid (HTS2.out.below HW.out)
      have HWU := Lib.hid (HTP2.out.below HW.out)
      have HWB := Lib.hid (bnext HB2.out HW.out)
      have HWMM := Lib.hid hmw
      have HWO := Lib.hid how
      obtain ⟨n3, hn3⟩ : ∃ n3, min no 3 = n3 := ⟨_, rfl⟩
      obtain ⟨p3, hp3⟩ : ∃ p3, min np 3 = p3 := ⟨_, rfl⟩
      have HN3 : Hid (n3 ≤ no ∧ n3 ≤ 3 ∧ p3 ≤ np ∧ p3 ≤ 3) := Lib.hid (by omega)
      have HCAP : Hid (no ≤ oc ∧ np ≤ pc) := Lib.hid (by have h1 := HO.out.2.1; have h2 := HP.out.2.1; rw [HNO.out.1] at h1; rw [HNO.out.2] at h2; exact ⟨h1, h2⟩)
      have k1 : min ((no : Nat) : Int) 3 = (n3 : Int) := by omega
      have k2 : min ((np : Nat) : Int) 3 = (p3 : Int) := by omega
      have sl1 := slice_toT (n := no) (c := oc) (k := n3) oa (by have := HN3.out; have := HCAP.out; omega)
      have sl2 := slice_toT (n := np) (c := pc) (k := p3) pa (by have := HN3.out; have := HCAP.out; omega)
      have co := fun o => block_cell how o
      have cf : ∀ o, wr.frozen? ⟨ob, o, none⟩ = false := block_free how
      have cl : ob < wr.heap.size := lt_of_block how
      clear hn3 hp3 hmw how
      go_upto_region 21 with fail
      have hk1 := block_setCell HWO.out (o := 1) (.slice oa n3 oc)
      obtain ⟨Y, hY⟩ : ∃ Y, wr.setCell ⟨ob, 1, none⟩ (.slice oa n3 oc) = Y := ⟨_, rfl⟩
      have HYO : Hid (Y.heap[ob]? = some (.cells #[.int .u64 oi, .slice oa n3 oc, .slice pa np pc] 54 (0, 0))) := Lib.hid (by rw [← hY]; exact hk1)
      have HYS := Lib.hid (show Y.heap[sb]? = some _ by rw [← hY]; exact block_setCell_ne HWS.out (by show ¬ (sb = ob); exact HDJ.out.1) _)
      have HYP := Lib.hid (show Y.heap[pb]? = some _ by rw [← hY]; exact block_setCell_ne HWP.out (by show ¬ (pb = ob); exact HDJ.out.2) _)
      have HYM := Lib.hid (show Y.heap[mb]? = some _ by rw [← hY]; exact block_setCell_ne HWMM.out (by show ¬ (mb = ob); have := HBL.out; omega) _)
      have HYT : Hid (Txts Y b1 Ls) := Lib.hid (by rw [← hY]; exact txts_setN HWT.out HWO.out (fun k s => sig3 _ _ _ _ _ _ _ k s) _)
      have HYU : Hid (Txts Y b2 Lp) := Lib.hid (by rw [← hY]; exact txts_setN HWU.out HWO.out (fun k s => sig3 _ _ _ _ _ _ _ k s) _)
      have HYB : Hid (Below w.heap.size w Y) := Lib.hid (by rw [← hY]; exact bset HWB.out (by have := HWM.out; have := HBL.out; show w.heap.size ≤ ob; omega) _)
      rw [hY]
      clear hk1 hY
      clear co cf cl
      have co := fun o => block_cell HYO.out o
      have cf : ∀ o, Y.frozen? ⟨ob, o, none⟩ = false := block_free HYO.out
      have cl : ob < Y.heap.size := lt_of_block HYO.out
      go_upto_region 22 with fail
      have hk1 := block_setCell HYO.out (o := 2) (.slice pa p3 pc)
      obtain ⟨Z, hZ⟩ : ∃ Z, Y.setCell ⟨ob, 2, none⟩ (.slice pa p3 pc) = Z := ⟨_, rfl⟩
      have HZO : Hid (Z.heap[ob]? = some (.cells #[.int .u64 oi, .slice oa n3 oc, .slice pa p3 pc] 54 (0, 0))) := Lib.hid (by rw [← hZ]; exact hk1)
      have HZS := Lib.hid (show Z.heap[sb]? = some _ by rw [← hZ]; exact block_setCell_ne HYS.out (by show ¬ (sb = ob); exact HDJ.out.1) _)
      have HZP := Lib.hid (show Z.heap[pb]? = some _ by rw [← hZ]; exact block_setCell_ne HYP.out (by show ¬ (pb = ob); exact HDJ.out.2) _)
      have HZM := Lib.hid (show Z.heap[mb]? = some _ by rw [← hZ]; exact block_setCell_ne HYM.out (by show ¬ (mb = ob); have := HBL.out; omega) _)
      have HZT : Hid (Txts Z b1 Ls) := Lib.hid (by rw [← hZ]; exact txts_setN HYT.out HYO.out (fun k s => sig3 _ _ _ _ _ _ _ k s) _)
      have HZU : Hid (Txts Z b2 Lp) := Lib.hid (by rw [← hZ]; exact txts_setN HYU.out HYO.out (fun k s => sig3 _ _ _ _ _ _ _ k s) _)
      have HZB : Hid (Below w.heap.size w Z) := Lib.hid (by rw [← hZ]; exact bset HYB.out (by have := HWM.out; have := HBL.out; show w.heap.size ≤ ob; omega) _)
      rw [hZ]
      clear hk1 hZ
      clear co cf cl k1 k2 sl1 sl2
      have m1 : Z.cell? ⟨mb, 1, none⟩ = some (.int .u8 (d : Nat)) := block_cell HZM.out 1
      go_wp2_with fail
      refine (text14_any d 31 Z HSD.out.2 (by decide)).mono ?_
      rintro e X ⟨rfl, hb⟩
      have hso := (hb.block _ (lt_of_block HZO.out)).trans HZO.out
      have hss := (hb.block _ (lt_of_block HZS.out)).trans HZS.out
      have hsp := (hb.block _ (lt_of_block HZP.out)).trans HZP.out
      have HXT := Lib.hid (HZT.out.below hb)
      have HXU := Lib.hid (HZU.out.below hb)
      have HXB := Lib.hid (bnext HZB.out hb)
      obtain ⟨d31, hd31⟩ : ∃ d31, textN d 31 = d31 := ⟨_, rfl⟩
      have HD31 : Hid (d31.size = 31) := Lib.hid (by rw [← hd31, textN_size])
      rw [hd31]
      clear hb m1 hd31
      go_upto_region 23 with fail
      obtain ⟨E1, hE1⟩ : ∃ E1, verE rt pf pL pK R1 dg ⟨oi, os.take n3, op.take p3⟩ = E1 := ⟨_, rfl⟩
      have HL3 : Hid (len (os.take n3) = n3 ∧ len (op.take p3) = p3) := Lib.hid ⟨len_takeT _ _ (by rw [HNO.out.1]; exact HN3.out.1), len_takeT _ _ (by rw [HNO.out.2]; exact HN3.out.2.2.1)⟩
      have HVF : Hid (∀ wv, Below X.heap.size X wv → Calls Tryz.prog 27 #[.agg #[.string rt, .int .u64 (wt1 : Nat), .int .u64 (pf : Nat), .int .u64 (pL : Nat), .int .u64 (pK : Nat)], .int .u64 (R1 : Nat), .string dg, .agg #[.int .u64 oi, .slice oa n3 oc, .slice pa p3 pc]] wv fun e w' => e = .returned (.int .i64 E1) ∧ Below wv.heap.size wv w') := Lib.hid (fun wv hb => by
        have h := verify_any rt dg wt1 pf pL pK R1 oi (os.take n3) (op.take p3) oa pa oc pc wv (txts_take (HO.out.1.below (bnext HXB.out hb)) n3) (txts_take (HP.out.1.below (bnext HXB.out hb)) p3) HLN.out.2.2.2.2.2 HR1.out.2 (by rw [HL3.out.1]; have := HN3.out; omega) (by rw [HL3.out.2]; have := HN3.out; omega) (by rw [HL3.out.2]; have := HN3.out; have := HCAP.out; omega)
        rw [HL3.out.1, HL3.out.2, hE1] at h
        exact h)
      have HVR : Hid (∀ wv, Below X.heap.size X wv → Calls Tryz.prog 28 #[.agg #[.string rt, .int .u64 (wt1 : Nat), .int .u64 (pf : Nat), .int .u64 (pL : Nat), .int .u64 (pK : Nat)], .int .u64 (R1 : Nat), .string dg, .agg #[.int .u64 oi, .slice oa n3 oc, .slice pa p3 pc]] wv fun e w' => e = .returned (.int .i64 E1) ∧ Below wv.heap.size wv w') := Lib.hid (fun wv hb => by
        have h := rverify_any rt dg wt1 pf pL pK R1 oi (os.take n3) (op.take p3) oa pa oc pc wv (txts_take (HO.out.1.below (bnext HXB.out hb)) n3) (txts_take (HP.out.1.below (bnext HXB.out hb)) p3) HLN.out.2.2.2.2.2 HR1.out.2 (by rw [HL3.out.1]; have := HN3.out; omega) (by rw [HL3.out.2]; have := HN3.out; omega) (by rw [HL3.out.2]; have := HN3.out; have := HCAP.out; omega)
        rw [HL3.out.1, HL3.out.2, hE1] at h
        exact h)
      have HVS : Hid (∀ wv, Below X.heap.size X wv → Calls Tryz.prog 27 #[.agg #[.string rt, .int .u64 (wt1 : Nat), .int .u64 (pf : Nat), .int .u64 (pL : Nat), .int .u64 (pK : Nat)], .int .u64 (R1 : Nat), .string d31, .agg #[.int .u64 jx, .slice b1 sn d1, .slice b2 sm d2]] wv fun e w' => e = .returned (.int .i64 2) ∧ Below wv.heap.size wv w') := Lib.hid (fun wv hb => by
        have h := verify_any rt d31 wt1 pf pL pK R1 jx Ls Lp b1 b2 d1 d2 wv (HXT.out.below hb) (HXU.out.below hb) HLN.out.2.2.2.2.2 HR1.out.2 (by rw [HLN.out.1]; exact HLN.out.2.2.1) (by rw [HLN.out.2.1]; exact HLN.out.2.2.2.1) (by rw [HLN.out.2.1]; exact HLN.out.2.2.2.2.1)
        rw [HLN.out.1, HLN.out.2.1, verE_may (by
          cases h9 : mayV d31 rt pL pK with
          | false => rfl
          | true => have := (mayV_iff.1 h9).1; have := HD31.out; omega)] at h
        exact h)
      have s0 : X.cell? ⟨sb, 0, none⟩ = some (.int .u64 jx) := block_cell hss 0
      have s1 : X.cell? ⟨sb, 1, none⟩ = some (.slice b1 sn d1) := block_cell hss 1
      have s2 : X.cell? ⟨sb, 2, none⟩ = some (.slice b2 sm d2) := block_cell hss 2
      have p0 : X.cell? ⟨pb, 0, none⟩ = some (.string rt) := block_cell hsp 0
      have p1 : X.cell? ⟨pb, 1, none⟩ = some (.int .u64 (wt1 : Nat)) := block_cell hsp 1
      have p2 : X.cell? ⟨pb, 2, none⟩ = some (.int .u64 (pf : Nat)) := block_cell hsp 2
      have p3x : X.cell? ⟨pb, 3, none⟩ = some (.int .u64 (pL : Nat)) := block_cell hsp 3
      have p4 : X.cell? ⟨pb, 4, none⟩ = some (.int .u64 (pK : Nat)) := block_cell hsp 4
      have o0 : X.cell? ⟨ob, 0, none⟩ = some (.int .u64 oi) := block_cell hso 0
      have o1 : X.cell? ⟨ob, 1, none⟩ = some (.slice oa n3 oc) := block_cell hso 1
      have o2 : X.cell? ⟨ob, 2, none⟩ = some (.slice pa p3 pc) := block_cell hso 2
      have kn : (E1 == E1) = true := by simp
      clear hE1 hso hss hsp
      refine wp_region_all 1000 (none) (phis (List.map qv [.agg #[.string rt, .int .u64 (wt1 : Nat), .int .u64 (pf : Nat), .int .u64 (pL : Nat), .int .u64 (pK : Nat)], .int .u64 (R1 : Nat), .string dg, .agg #[.int .u64 oi, .slice oa n3 oc, .slice pa p3 pc], .int .i64 E1, .agg #[.string rt, .int .u64 (wt1 : Nat), .int .u64 (pf : Nat), .int .u64 (pL : Nat), .int .u64 (pK : Nat)], .int .u64 (R1 : Nat), .string dg, .agg #[.int .u64 oi, .slice oa n3 oc, .slice pa p3 pc], .int .i64 E1, .bool true, .bool true, .agg #[.string rt, .int .u64 (wt1 : Nat), .int .u64 (pf : Nat), .int .u64 (pL : Nat), .int .u64 (pK : Nat)], .int .u64 (R1 : Nat), .string d31, .agg #[.int .u64 jx, .slice b1 sn d1, .slice b2 sm d2], .int .i64 2, .bool true, .bool true, .bool true, .bool true, .bool true, .bool true])) rfl (by kernel_rfl) (mono_of mono_qv) (steps_of 23 ⟨?s0, ?s1, ?s2, ?s3, ?s4, ?s5, ?s6, ?s7, ?s8, ?s9, ?s10, ?s11, ?s12, ?s13, ?s14, ?s15, ?s16, ?s17, ?s18, ?s19, ?s20, ?s21, ?s22, trivial⟩) ?_
      case s0 =>
        refine qV (fun _ => rfl) rfl fun av wv hE hO hD => ?_
        simp [go_sem, qF av 14 (.pointer (some ⟨pb, 0, none⟩)) (hO.2.2 14 rfl), extB_cell hE (by simp) p0, extB_cell hE (by simp) p1, extB_cell hE (by simp) p2, extB_cell hE (by simp) p3x, extB_cell hE (by simp) p4, extB_cell hE (by simp) s0, extB_cell hE (by simp) s1, extB_cell hE (by simp) s2, extB_cell hE (by simp) o0, extB_cell hE (by simp) o1, extB_cell hE (by simp) o2, kn]
      case s1 =>
        refine qV (fun _ => rfl) rfl fun av wv hE hO hD => ?_
        simp [go_sem, qF av 10 (.int .u64 (R1 : Nat)) (hO.2.2 10 rfl), kn]
      case s2 =>
        refine qV (fun _ => rfl) rfl fun av wv hE hO hD => ?_
        simp [go_sem, qF av 9 (.string dg) (hO.2.2 9 rfl), kn]
      case s3 =>
        refine qV (fun _ => rfl) rfl fun av wv hE hO hD => ?_
        simp [go_sem, qF av 5 (.pointer (some ⟨ob, 0, none⟩)) (hO.2.2 5 rfl), extB_cell hE (by simp) p0, extB_cell hE (by simp) p1, extB_cell hE (by simp) p2, extB_cell hE (by simp) p3x, extB_cell hE (by simp) p4, extB_cell hE (by simp) s0, extB_cell hE (by simp) s1, extB_cell hE (by simp) s2, extB_cell hE (by simp) o0, extB_cell hE (by simp) o1, extB_cell hE (by simp) o2, kn]
      case s4 =>
        refine step_wp (fun av wv hE hS hO hD => ⟨rfl, ?_⟩)
        have f130 := qE (hD.1 rfl _ rfl)
        have f131 := qE (hD.2.1 rfl _ rfl)
        have f132 := qE (hD.2.2.1 rfl _ rfl)
        have f133 := qE (hD.2.2.2.1 rfl _ rfl)
        refine wp_of_call (v := .int .i64 E1) (by simp [go_sem, f130, f131, f132, f133]) (HVF.out wv (of_drew hE)) (fun w2 hb => ⟨_, rfl, es_of_ext hb, rfl⟩)
      case s5 =>
        refine qV (fun _ => rfl) rfl fun av wv hE hO hD => ?_
        simp [go_sem, qF av 14 (.pointer (some ⟨pb, 0, none⟩)) (hO.2.2 14 rfl), extB_cell hE (by simp) p0, extB_cell hE (by simp) p1, extB_cell hE (by simp) p2, extB_cell hE (by simp) p3x, extB_cell hE (by simp) p4, extB_cell hE (by simp) s0, extB_cell hE (by simp) s1, extB_cell hE (by simp) s2, extB_cell hE (by simp) o0, extB_cell hE (by simp) o1, extB_cell hE (by simp) o2, kn]
      case s6 =>
        refine qV (fun _ => rfl) rfl fun av wv hE hO hD => ?_
        simp [go_sem, qF av 10 (.int .u64 (R1 : Nat)) (hO.2.2 10 rfl), kn]
      case s7 =>
        refine qV (fun _ => rfl) rfl fun av wv hE hO hD => ?_
        simp [go_sem, qF av 9 (.string dg) (hO.2.2 9 rfl), kn]
      case s8 =>
        refine qV (fun _ => rfl) rfl fun av wv hE hO hD => ?_
        simp [go_sem, qF av 5 (.pointer (some ⟨ob, 0, none⟩)) (hO.2.2 5 rfl), extB_cell hE (by simp) p0, extB_cell hE (by simp) p1, extB_cell hE (by simp) p2, extB_cell hE (by simp) p3x, extB_cell hE (by simp) p4, extB_cell hE (by simp) s0, extB_cell hE (by simp) s1, extB_cell hE (by simp) s2, extB_cell hE (by simp) o0, extB_cell hE (by simp) o1, extB_cell hE (by simp) o2, kn]
      case s9 =>
        refine step_wp (fun av wv hE hS hO hD => ⟨rfl, ?_⟩)
        have f135 := qE (hD.1 rfl _ rfl)
        have f136 := qE (hD.2.1 rfl _ rfl)
        have f137 := qE (hD.2.2.1 rfl _ rfl)
        have f138 := qE (hD.2.2.2.1 rfl _ rfl)
        refine wp_of_call (v := .int .i64 E1) (by simp [go_sem, f135, f136, f137, f138]) (HVR.out wv (of_drew hE)) (fun w2 hb => ⟨_, rfl, es_of_ext hb, rfl⟩)
      case s10 =>
        refine qV (fun _ => rfl) rfl fun av wv hE hO hD => ?_
        simp [go_sem, qE (hD.1 rfl _ rfl), qE (hD.2.1 rfl _ rfl), kn]
      case s11 =>
        refine qV (fun _ => rfl) rfl fun av wv hE hO hD => ?_
        simp [go_sem, qE (hD.1 rfl _ rfl), kn]
      case s12 =>
        refine step_val (fun av wv hE hS hO hD => ⟨(wY rfl rfl rfl (hD.1 rfl _ rfl)), ?_⟩) (fun _ => rfl)
        simp [go_sem, qF av 14 (.pointer (some ⟨pb, 0, none⟩)) (hO.2.2 14 rfl), qE (hD.1 rfl _ rfl), extB_cell hE (by simp) p0, extB_cell hE (by simp) p1, extB_cell hE (by simp) p2, extB_cell hE (by simp) p3x, extB_cell hE (by simp) p4, extB_cell hE (by simp) s0, extB_cell hE (by simp) s1, extB_cell hE (by simp) s2, extB_cell hE (by simp) o0, extB_cell hE (by simp) o1, extB_cell hE (by simp) o2, kn]
      case s13 =>
        refine step_val (fun av wv hE hS hO hD => ⟨(wY rfl rfl rfl (hD.1 rfl _ rfl)), ?_⟩) (fun _ => rfl)
        simp [go_sem, qF av 10 (.int .u64 (R1 : Nat)) (hO.2.2 10 rfl), qE (hD.1 rfl _ rfl), kn]
      case s14 =>
        refine step_val (fun av wv hE hS hO hD => ⟨(wY rfl rfl rfl (hD.1 rfl _ rfl)), ?_⟩) (fun _ => rfl)
        simp [go_sem, qF av 17 (.string d31) (hO.2.2 17 rfl), qE (hD.1 rfl _ rfl), kn]
      case s15 =>
        refine step_val (fun av wv hE hS hO hD => ⟨(wY rfl rfl rfl (hD.1 rfl _ rfl)), ?_⟩) (fun _ => rfl)
        simp [go_sem, qF av 13 (.pointer (some ⟨sb, 0, none⟩)) (hO.2.2 13 rfl), qE (hD.1 rfl _ rfl), extB_cell hE (by simp) p0, extB_cell hE (by simp) p1, extB_cell hE (by simp) p2, extB_cell hE (by simp) p3x, extB_cell hE (by simp) p4, extB_cell hE (by simp) s0, extB_cell hE (by simp) s1, extB_cell hE (by simp) s2, extB_cell hE (by simp) o0, extB_cell hE (by simp) o1, extB_cell hE (by simp) o2, kn]
      case s16 =>
        refine step_wp (fun av wv hE hS hO hD => ⟨(wY rfl rfl rfl (hD.2.2.2.2.1 rfl _ rfl)), ?_⟩)
        have f142 := qE (hD.1 rfl _ rfl)
        have f143 := qE (hD.2.1 rfl _ rfl)
        have f144 := qE (hD.2.2.1 rfl _ rfl)
        have f145 := qE (hD.2.2.2.1 rfl _ rfl)
        refine wp_of_call (v := .int .i64 2) (by simp [go_sem, f142, f143, f144, f145]) (HVS.out wv (of_drew hE)) (fun w2 hb => ⟨_, rfl, es_of_ext hb, rfl⟩)
      case s17 =>
        refine step_val (fun av wv hE hS hO hD => ⟨(wY rfl rfl rfl (hD.2.1 rfl _ rfl)), ?_⟩) (fun _ => rfl)
        simp [go_sem, qE (hD.1 rfl _ rfl), qE (hD.2.1 rfl _ rfl), kn]
      case s18 =>
        refine qV (fun _ => rfl) rfl fun av wv hE hO hD => ?_
        simp [go_sem, qE (hD.1 rfl _ rfl), qE (hD.2.1 rfl _ rfl), kn]
      case s19 =>
        refine qV (fun _ => rfl) rfl fun av wv hE hO hD => ?_
        simp [go_sem, qE (hD.1 rfl _ rfl), kn]
      case s20 =>
        refine step_wp (fun av wv hE hS hO hD => ⟨(wY rfl rfl rfl (hD.1 rfl _ rfl)), ?_⟩)
        refine wp_of_call (v := .bool true) (by simp [go_sem]) (works14_any wv) (fun w2 hb => ⟨_, rfl, es_of_ext hb, rfl⟩)
      case s21 =>
        refine qV (fun _ => rfl) rfl fun av wv hE hO hD => ?_
        simp [go_sem, qE (hD.1 rfl _ rfl), qE (hD.2.1 rfl _ rfl), kn]
      case s22 =>
        refine qV (fun _ => rfl) rfl fun av wv hE hO hD => ?_
        simp [go_sem, qE (hD.1 rfl _ rfl), kn]
      intro a' w' hE hO hall
      have hA := act_of_outer (ds := [130, 131, 132, 133, 134, 135, 136, 137, 138, 139, 140, 141, 142, 143, 144, 145, 146, 147, 148, 149, 150, 151, 6]) rfl hO (by kernel_rfl)
      obtain ⟨j0, j1, j2, j3, j4, j5, j6, j7, j8, j9, j10, j11, j12, j13, j14, j15, j16, j17, j18, j19, j20, j21, j22, -⟩ := hall
      simp only [List.foldl_cons, List.foldl_nil, Act.put, List.setIfInBounds_toArray, List.set_cons_succ, List.set_cons_zero, qJ 130 (j0 _ rfl), qJ 131 (j1 _ rfl), qJ 132 (j2 _ rfl), qJ 133 (j3 _ rfl), qJ 134 (j4 _ rfl), qJ 135 (j5 _ rfl), qJ 136 (j6 _ rfl), qJ 137 (j7 _ rfl), qJ 138 (j8 _ rfl), qJ 139 (j9 _ rfl), qJ 140 (j10 _ rfl), qJ 141 (j11 _ rfl), qJ 142 (j12 _ rfl), qJ 143 (j13 _ rfl), qJ 144 (j14 _ rfl), qJ 145 (j15 _ rfl), qJ 146 (j16 _ rfl), qJ 147 (j17 _ rfl), qJ 148 (j18 _ rfl), qJ 149 (j19 _ rfl), qJ 150 (j20 _ rfl), qJ 151 (j21 _ rfl), qJ 6 (j22 _ rfl)] at hA
      clear hO j0 j1 j2 j3 j4 j5 j6 j7 j8 j9 j10 j11 j12 j13 j14 j15 j16 j17 j18 j19 j20 j21 j22
      subst hA
      have hb := of_drew hE
      have HX1 := Lib.hid (bnext HXB.out hb)
      clear hE hb s0 s1 s2 p0 p1 p2 p3x p4 o0 o1 o2 kn
      go_wp2
      go_ret
      exact ⟨rfl, HX1.out⟩
end Go.Proofs.YtoafjbillcooiaaGreat
namespace Go.Proofs.YtoafjbillcooiaaGreat
set_option linter.unusedSimpArgs false
set_option linter.unusedVariables false
open Go.RowKit Go.ChangeShapes Go.WideShapes Go.ChangeAt Go.Deep
section
variable {H : Type} {enc : TypeId × Value → H} {P : Program} {w : World}
theorem below_trodAll (hl : laidOutB P = true) {W W' : World} (hb : Below W.heap.size W W') : ∀ {ts : List TypeId} {vs : List Value} {ds : List (DataW H)} {ps : List MemPlace},
    (∀ t ∈ ts, P.readableRec t = true ∧ t < P.types.size) → DataW.TrodAll enc P W 0 (fun _ => true) true ts vs ds ps → DataW.TrodAll enc P W' 0 (fun b => decide (b < W.heap.size)) true ts vs ds ps
  | [], vs, ds, ps, _, h => by
    obtain ⟨rfl, rfl, rfl⟩ := trodAll_nil h
    exact trodAll_mk0
  | t :: ts, vs, ds, ps, ht, h => by
    obtain ⟨v, vs', d, ds', p, q, rfl, rfl, rfl, h0, r0⟩ := trodAll_cons h
    have lt0 : ∀ x ∈ p, x.block < W.heap.size := by obtain ⟨m, hm⟩ := h0; exact DataW.trod_lt m _ _ _ hm
    exact trodAll_cons_mk (Below.trod hl (ht t (List.mem_cons_self ..)).1 (ht t (List.mem_cons_self ..)).2 h0 hb lt0) (below_trodAll hl hb (fun t' h' => ht t' (List.mem_cons_of_mem _ h')) r0)
theorem list_of {α : Type} {n : Nat} {p : Nat → α → Prop} (h : ∀ i, i < n → ∃ x, p i x) : ∃ l : List α, l.length = n ∧ ∀ i (hi : i < l.length), p i l[i] := by
  induction n with
  | zero => exact ⟨[], rfl, fun i hi => by simp at hi⟩
  | succ n ih =>
    obtain ⟨l, hl, hp⟩ := ih (fun i hi => h i (by omega))
    obtain ⟨x, hx⟩ := h n (by omega)
    refine ⟨l ++ [x], by simp [hl], fun i hi => ?_⟩
    rcases Nat.lt_or_ge i l.length with h' | h'
    · rw [List.getElem_append_left h']; exact hp i h'
    · have e : i = l.length := by simp at hi; omega
      subst e
      simp only [List.getElem_append_right (Nat.le_refl _), Nat.sub_self, List.getElem_cons_zero]
      rw [hl]; exact hx
theorem cell_read {n : Nat} {e : TypeId} {k : IntKind} {v : Value} {y : DataW H × List MemPlace} (he : P.underlying e = some (.int k)) (h : DataW.trod enc P w 0 (fun _ => true) true n e [v] = some y) : ∃ x, v = .int k x ∧ (Lit.int k x).wf = true := by
  obtain ⟨x, hx, _, hw⟩ := DataW.trod_int he h
  exact ⟨x, by simpa using hx, hw⟩
theorem wf_u64 {x : Int} (h : (Lit.int .u64 x).wf = true) : 0 ≤ x ∧ x < 18446744073709551616 := by
  simp [Lit.wf, IntKind.min, IntKind.max, IntKind.bits, IntKind.signed] at h; omega
theorem wf_u8 {x : Int} (h : (Lit.int .u8 x).wf = true) : 0 ≤ x ∧ x ≤ 255 := by
  simp [Lit.wf, IntKind.min, IntKind.max, IntKind.bits, IntKind.signed] at h; omega
end
end Go.Proofs.YtoafjbillcooiaaGreat
namespace Go.Proofs.YtoafjbillcooiaaGreat
set_option linter.unusedSimpArgs false
set_option linter.unusedVariables false
open Go.RowKit Go.ChangeShapes Go.WideShapes Go.ChangeAt
theorem own : ownKnob Tryz.prog.godebug = none := by kernel_rfl
theorem laidOut : laidOutB Tryz.prog = true := by kernel_rfl
end Go.Proofs.YtoafjbillcooiaaGreat
namespace Go.Proofs.YtoafjbillcooiaaGreat
set_option linter.unusedSimpArgs false
set_option linter.unusedVariables false
open Go.RowKit Go.ChangeShapes Go.WideShapes Go.ChangeAt Go.ChangeMaps
section
variable {P : Program} {H : Type} {enc : TypeId × Value → H} {w : World}
theorem wf_i64 {x : Int} (h : (Lit.int .i64 x).wf = true) : -9223372036854775808 ≤ x ∧ x ≤ 9223372036854775807 := by
  simp [Lit.wf, IntKind.min, IntKind.max, IntKind.bits, IntKind.signed] at h; omega
end
end Go.Proofs.YtoafjbillcooiaaGreat
namespace Go.Proofs.YtoafjbillcooiaaGreat
set_option linter.unusedSimpArgs false
set_option linter.unusedVariables false
open Go.RowKit Go.ChangeShapes Go.WideShapes Go.ChangeAt Go.ChangeMaps
section
variable {P : Program} {H : Type} {enc : TypeId × Value → H} {w : World}
theorem str_readx {n : Nat} {e : TypeId} {v : Value} {y : DataW H × List MemPlace} (he : P.underlying e = some .string) (h : DataW.trod enc P w 0 (fun _ => true) true n e [v] = some y) : ∃ s : ByteArray, v = .string s ∧ s.size ≤ maxLen := by
  obtain ⟨s, hx, _, hw⟩ := DataW.trod_string he h
  exact ⟨s, by simpa using hx, hw⟩
end
end Go.Proofs.YtoafjbillcooiaaGreat
namespace Go.Proofs.YtoafjbillcooiaaGreat
open Go.RowKit Go.ChangeShapes Go.WideShapes Go.ChangeAt Go.Deep Go.ChangeMaps
set_option linter.unusedSimpArgs false
set_option linter.unusedVariables false
section
variable {H : Type} {enc : TypeId × Value → H} {P : Program} {w : World}
theorem slice_read {α : Type} {t e : TypeId} (k : Nat) (cells : α → List Value) (ok : α → Prop) (ht : P.underlying t = some (.slice e)) (hC : P.cellsOf e = k) (hk : 0 < k)
    (hel : ∀ n cs' y, cs'.length = k → DataW.trod enc P w 0 (fun _ => true) true n e cs' = some y → ∃ x, cs' = cells x ∧ ok x)
    {n : Nat} {v : Value} {y : DataW H × List MemPlace} (h : DataW.trod enc P w 0 (fun _ => true) true n t [v] = some y) :
    ∃ a c, ∃ l : List α, v = .slice a (len l) c ∧ len l ≤ c ∧ c ≤ maxLen ∧ ∀ i (hi : i < l.length), ok l[i] ∧ ∃ b off, a = some ⟨b, off, none⟩ ∧ ∀ j, j < k → w.cell? ⟨b, off + i * k + j, none⟩ = (cells l[i])[j]? := by
  rcases open_slice ht h with ⟨hcs, _⟩ | ⟨a, n0, c0, m, q, D, Pl, hcs, _, hl, hm, hmm, _, hi⟩
  · simp at hcs
    subst hcs
    exact ⟨none, 0, [], rfl, Nat.le_refl _, Nat.zero_le _, fun i hi => by simp at hi⟩
  · simp at hcs
    subst hcs
    have hnm : n0 ≤ m := by rw [hmm]; simp; exact hl
    have each : ∀ i, i < n0 → ∃ x, ok x ∧ ∃ b off, some a = some ⟨b, off, none⟩ ∧ ∀ j, j < k → w.cell? ⟨b, off + i * k + j, none⟩ = (cells x)[j]? := by
      intro i hin
      obtain ⟨cs', hc, htr⟩ := hi i (by omega)
      rw [hC] at hc
      obtain ⟨_, hcl, hat⟩ := World.cells?_some hc
      obtain ⟨x, rfl, hx⟩ := hel q cs' _ hcl htr
      obtain ⟨b, off, spot⟩ := a
      have hspot : spot = none := by
        obtain ⟨cs0, hc0, htr0⟩ := hi 0 (by omega)
        rw [hC] at hc0
        obtain ⟨_, hcl0, hat0⟩ := World.cells?_some hc0
        have h1 := hat0 0 hk
        have h2 : cs0[0]? = some (cs0[0]'(by omega)) := List.getElem?_eq_getElem (by omega)
        rw [h2] at h1
        simpa [Addr.add] using World.cell?_spot h1
      subst hspot
      refine ⟨x, hx, b, off, rfl, fun j hj => ?_⟩
      have h1 := hat j hj
      rw [Go.Deep.add_add] at h1
      have e : (⟨b, off, none⟩ : Addr).add (i * k + j) = ⟨b, off + i * k + j, none⟩ := by
        unfold Addr.add; split
        · rename_i h0; simp <;> omega
        · simp [Nat.add_assoc]
      rw [e] at h1; exact h1
    obtain ⟨l, hll, hp⟩ := list_of each
    subst hll
    exact ⟨some a, c0, l, rfl, hl, hm, hp⟩
theorem txts_read {t e : TypeId} (ht : P.underlying t = some (.slice e)) (he : P.underlying e = some .string) (hC : P.cellsOf e = 1) {n : Nat} {v : Value} {y : DataW H × List MemPlace} (h : DataW.trod enc P w 0 (fun _ => true) true n t [v] = some y) :
    ∃ a c, ∃ l : List ByteArray, v = .slice a (len l) c ∧ len l ≤ c ∧ c ≤ maxLen ∧ Txts w a l := by
  obtain ⟨a, c, l, rfl, h1, h2, h3⟩ := slice_read 1 (fun x => [Value.string x]) (fun _ : ByteArray => True) ht hC (by decide) (fun n cs' y hl hy => by
    match cs', hl with
    | [v0], _ =>
      obtain ⟨x, rfl, _⟩ := str_readx he hy
      exact ⟨x, rfl, trivial⟩) h
  refine ⟨a, c, l, rfl, h1, h2, fun i hi => ?_⟩
  obtain ⟨_, b, off, e1, e2⟩ := h3 i hi
  refine ⟨b, off, e1, ?_⟩
  have := e2 0 (by decide)
  rw [Nat.mul_one, Nat.add_zero] at this
  rw [this, tth_eq l i hi]; rfl
end
end Go.Proofs.YtoafjbillcooiaaGreat
namespace Go.Proofs.YtoafjbillcooiaaGreat
open Go.RowKit Go.ChangeShapes Go.WideShapes Go.ChangeAt Go.Deep Go.ChangeMaps
set_option linter.unusedSimpArgs false
set_option linter.unusedVariables false
set_option maxRecDepth 100000 in
theorem open_made {H : Type} {enc : TypeId × Value → H} {w : World} {v : Value} {d : DataW H} {p : List MemPlace} {r : Reach} {base : Nat} (hv : Value.okWide Tryz.prog w r base 50 v) (h : DataW.Trod enc Tryz.prog w 0 (fun _ => true) true 50 v d p) :
    ∃ (s d9 z F L : Nat) (K : Int) (R wt : Nat), v = .agg (madeV s d9 z F L K R wt).toArray ∧ s ≤ 255 ∧ d9 ≤ 255 ∧ z ≤ 255 ∧ F < 18446744073709551616 ∧ L < 18446744073709551616 ∧ (-9223372036854775808 ≤ K ∧ K ≤ 9223372036854775807) ∧ R < 18446744073709551616 ∧ wt < 18446744073709551616 := by
  obtain ⟨cs', rfl, hsz⟩ := okWide_struct Tryz.underlying50 hv
  have hsz' : cs'.size = 8 := hsz.trans (by kernel_rfl)
  obtain ⟨l⟩ := cs'
  match l, hsz' with
  | [v0, v1, v2, v3, v4, v5, v6, v7], _ =>
    obtain ⟨fuel, hf⟩ := h
    obtain ⟨xs, m, _, _, _, hxl, hx⟩ := DataW.trod_struct Tryz.underlying50 hf
    have hxl' : xs.length = 8 := hxl
    simp only [Value.cells] at hx
    have h0 : DataW.trod enc Tryz.prog w 0 (fun _ => true) true m 5 (([v0, v1, v2, v3, v4, v5, v6, v7].drop 0).take (Tryz.prog.cellsOf 5)) = xs[0]? := hx 0 _ rfl
    rw [show Tryz.prog.cellsOf 5 = 1 by kernel_rfl] at h0
    have h1 : DataW.trod enc Tryz.prog w 0 (fun _ => true) true m 5 (([v0, v1, v2, v3, v4, v5, v6, v7].drop 1).take (Tryz.prog.cellsOf 5)) = xs[1]? := hx 1 _ rfl
    rw [show Tryz.prog.cellsOf 5 = 1 by kernel_rfl] at h1
    have h2 : DataW.trod enc Tryz.prog w 0 (fun _ => true) true m 5 (([v0, v1, v2, v3, v4, v5, v6, v7].drop 2).take (Tryz.prog.cellsOf 5)) = xs[2]? := hx 2 _ rfl
    rw [show Tryz.prog.cellsOf 5 = 1 by kernel_rfl] at h2
    have h3 : DataW.trod enc Tryz.prog w 0 (fun _ => true) true m 37 (([v0, v1, v2, v3, v4, v5, v6, v7].drop 3).take (Tryz.prog.cellsOf 37)) = xs[3]? := hx 3 _ rfl
    rw [show Tryz.prog.cellsOf 37 = 1 by kernel_rfl] at h3
    have h4 : DataW.trod enc Tryz.prog w 0 (fun _ => true) true m 37 (([v0, v1, v2, v3, v4, v5, v6, v7].drop 4).take (Tryz.prog.cellsOf 37)) = xs[4]? := hx 4 _ rfl
    rw [show Tryz.prog.cellsOf 37 = 1 by kernel_rfl] at h4
    have h5 : DataW.trod enc Tryz.prog w 0 (fun _ => true) true m 3 (([v0, v1, v2, v3, v4, v5, v6, v7].drop 5).take (Tryz.prog.cellsOf 3)) = xs[5]? := hx 5 _ rfl
    rw [show Tryz.prog.cellsOf 3 = 1 by kernel_rfl] at h5
    have h6 : DataW.trod enc Tryz.prog w 0 (fun _ => true) true m 37 (([v0, v1, v2, v3, v4, v5, v6, v7].drop 6).take (Tryz.prog.cellsOf 37)) = xs[6]? := hx 6 _ rfl
    rw [show Tryz.prog.cellsOf 37 = 1 by kernel_rfl] at h6
    have h7 : DataW.trod enc Tryz.prog w 0 (fun _ => true) true m 37 (([v0, v1, v2, v3, v4, v5, v6, v7].drop 7).take (Tryz.prog.cellsOf 37)) = xs[7]? := hx 7 _ rfl
    rw [show Tryz.prog.cellsOf 37 = 1 by kernel_rfl] at h7
    obtain ⟨n0, rfl, w0⟩ := cell_read Tryz.underlying5 (h0.trans (List.getElem?_eq_getElem (show 0 < xs.length by omega)))
    obtain ⟨n1, rfl, w1⟩ := cell_read Tryz.underlying5 (h1.trans (List.getElem?_eq_getElem (show 1 < xs.length by omega)))
    obtain ⟨n2, rfl, w2⟩ := cell_read Tryz.underlying5 (h2.trans (List.getElem?_eq_getElem (show 2 < xs.length by omega)))
    obtain ⟨n3, rfl, w3⟩ := cell_read Tryz.underlying37 (h3.trans (List.getElem?_eq_getElem (show 3 < xs.length by omega)))
    obtain ⟨n4, rfl, w4⟩ := cell_read Tryz.underlying37 (h4.trans (List.getElem?_eq_getElem (show 4 < xs.length by omega)))
    obtain ⟨n5, rfl, w5⟩ := cell_read Tryz.underlying3 (h5.trans (List.getElem?_eq_getElem (show 5 < xs.length by omega)))
    obtain ⟨n6, rfl, w6⟩ := cell_read Tryz.underlying37 (h6.trans (List.getElem?_eq_getElem (show 6 < xs.length by omega)))
    obtain ⟨n7, rfl, w7⟩ := cell_read Tryz.underlying37 (h7.trans (List.getElem?_eq_getElem (show 7 < xs.length by omega)))
    have u0 := wf_u8 w0
    have u1 := wf_u8 w1
    have u2 := wf_u8 w2
    have u3 := wf_u64 w3
    have u4 := wf_u64 w4
    have u5 := wf_i64 w5
    have u6 := wf_u64 w6
    have u7 := wf_u64 w7
    obtain ⟨s, rfl⟩ := Int.eq_ofNat_of_zero_le u0.1
    obtain ⟨d9, rfl⟩ := Int.eq_ofNat_of_zero_le u1.1
    obtain ⟨z, rfl⟩ := Int.eq_ofNat_of_zero_le u2.1
    obtain ⟨F, rfl⟩ := Int.eq_ofNat_of_zero_le u3.1
    obtain ⟨L, rfl⟩ := Int.eq_ofNat_of_zero_le u4.1
    obtain ⟨R, rfl⟩ := Int.eq_ofNat_of_zero_le u6.1
    obtain ⟨wt, rfl⟩ := Int.eq_ofNat_of_zero_le u7.1
    exact ⟨s, d9, z, F, L, n5, R, wt, rfl, by omega, by omega, by omega, by omega, by omega, u5, by omega, by omega⟩
end Go.Proofs.YtoafjbillcooiaaGreat
namespace Go.Proofs.YtoafjbillcooiaaGreat
open Go.RowKit Go.ChangeShapes Go.WideShapes Go.ChangeAt Go.Deep Go.ChangeMaps
set_option linter.unusedSimpArgs false
set_option linter.unusedVariables false
set_option maxRecDepth 100000 in
theorem open_spoil {H : Type} {enc : TypeId × Value → H} {w : World} {v : Value} {d : DataW H} {p : List MemPlace} {r : Reach} {base : Nat} (hv : Value.okWide Tryz.prog w r base 52 v) (h : DataW.Trod enc Tryz.prog w 0 (fun _ => true) true 52 v d p) :
    ∃ (x a y : Nat), v = .agg #[.int .u8 (x : Nat), .int .u8 (a : Nat), .int .u8 (y : Nat)] ∧ x ≤ 255 ∧ a ≤ 255 ∧ y ≤ 255 := by
  obtain ⟨cs', rfl, hsz⟩ := okWide_struct Tryz.underlying52 hv
  have hsz' : cs'.size = 3 := hsz.trans (by kernel_rfl)
  obtain ⟨l⟩ := cs'
  match l, hsz' with
  | [v0, v1, v2], _ =>
    obtain ⟨fuel, hf⟩ := h
    obtain ⟨xs, m, _, _, _, hxl, hx⟩ := DataW.trod_struct Tryz.underlying52 hf
    have hxl' : xs.length = 3 := hxl
    simp only [Value.cells] at hx
    have h0 : DataW.trod enc Tryz.prog w 0 (fun _ => true) true m 5 (([v0, v1, v2].drop 0).take (Tryz.prog.cellsOf 5)) = xs[0]? := hx 0 _ rfl
    rw [show Tryz.prog.cellsOf 5 = 1 by kernel_rfl] at h0
    have h1 : DataW.trod enc Tryz.prog w 0 (fun _ => true) true m 5 (([v0, v1, v2].drop 1).take (Tryz.prog.cellsOf 5)) = xs[1]? := hx 1 _ rfl
    rw [show Tryz.prog.cellsOf 5 = 1 by kernel_rfl] at h1
    have h2 : DataW.trod enc Tryz.prog w 0 (fun _ => true) true m 5 (([v0, v1, v2].drop 2).take (Tryz.prog.cellsOf 5)) = xs[2]? := hx 2 _ rfl
    rw [show Tryz.prog.cellsOf 5 = 1 by kernel_rfl] at h2
    obtain ⟨n0, rfl, w0⟩ := cell_read Tryz.underlying5 (h0.trans (List.getElem?_eq_getElem (show 0 < xs.length by omega)))
    obtain ⟨n1, rfl, w1⟩ := cell_read Tryz.underlying5 (h1.trans (List.getElem?_eq_getElem (show 1 < xs.length by omega)))
    obtain ⟨n2, rfl, w2⟩ := cell_read Tryz.underlying5 (h2.trans (List.getElem?_eq_getElem (show 2 < xs.length by omega)))
    have u0 := wf_u8 w0
    have u1 := wf_u8 w1
    have u2 := wf_u8 w2
    obtain ⟨x, rfl⟩ := Int.eq_ofNat_of_zero_le u0.1
    obtain ⟨a, rfl⟩ := Int.eq_ofNat_of_zero_le u1.1
    obtain ⟨y, rfl⟩ := Int.eq_ofNat_of_zero_le u2.1
    exact ⟨x, a, y, rfl, by omega, by omega, by omega⟩
set_option maxRecDepth 100000 in
theorem open_sig {H : Type} {enc : TypeId × Value → H} {w : World} {v : Value} {d : DataW H} {p : List MemPlace} {r : Reach} {base : Nat} (hv : Value.okWide Tryz.prog w r base 54 v) (h : DataW.Trod enc Tryz.prog w 0 (fun _ => true) true 54 v d p) :
    ∃ (n : Int) (ea : Option Addr) (ec : Nat) (es : List ByteArray) (da : Option Addr) (dc : Nat) (ds : List ByteArray), v = .agg #[.int .u64 n, .slice ea (len es) ec, .slice da (len ds) dc] ∧ (len es ≤ ec ∧ ec ≤ maxLen ∧ Txts w ea es) ∧ (len ds ≤ dc ∧ dc ≤ maxLen ∧ Txts w da ds) := by
  obtain ⟨cs', rfl, hsz⟩ := okWide_struct Tryz.underlying54 hv
  have hsz' : cs'.size = 3 := hsz.trans (by kernel_rfl)
  obtain ⟨l⟩ := cs'
  match l, hsz' with
  | [v0, v1, v2], _ =>
    obtain ⟨fuel, hf⟩ := h
    obtain ⟨xs, m, _, _, _, hxl, hx⟩ := DataW.trod_struct Tryz.underlying54 hf
    have hxl' : xs.length = 3 := hxl
    simp only [Value.cells] at hx
    have h0 : DataW.trod enc Tryz.prog w 0 (fun _ => true) true m 37 (([v0, v1, v2].drop 0).take (Tryz.prog.cellsOf 37)) = xs[0]? := hx 0 _ rfl
    rw [show Tryz.prog.cellsOf 37 = 1 by kernel_rfl] at h0
    have h1 : DataW.trod enc Tryz.prog w 0 (fun _ => true) true m 22 (([v0, v1, v2].drop 1).take (Tryz.prog.cellsOf 22)) = xs[1]? := hx 1 _ rfl
    rw [show Tryz.prog.cellsOf 22 = 1 by kernel_rfl] at h1
    have h2 : DataW.trod enc Tryz.prog w 0 (fun _ => true) true m 22 (([v0, v1, v2].drop 2).take (Tryz.prog.cellsOf 22)) = xs[2]? := hx 2 _ rfl
    rw [show Tryz.prog.cellsOf 22 = 1 by kernel_rfl] at h2
    obtain ⟨n, rfl, w0⟩ := cell_read Tryz.underlying37 (h0.trans (List.getElem?_eq_getElem (show 0 < xs.length by omega)))
    obtain ⟨ea, ec, es, rfl, w2⟩ := txts_read Tryz.underlying22 Tryz.underlying9 (by kernel_rfl) (h1.trans (List.getElem?_eq_getElem (show 1 < xs.length by omega)))
    obtain ⟨da, dc, ds, rfl, w3⟩ := txts_read Tryz.underlying22 Tryz.underlying9 (by kernel_rfl) (h2.trans (List.getElem?_eq_getElem (show 2 < xs.length by omega)))
    exact ⟨n, ea, ec, es, da, dc, ds, rfl, w2, w3⟩
end Go.Proofs.YtoafjbillcooiaaGreat
