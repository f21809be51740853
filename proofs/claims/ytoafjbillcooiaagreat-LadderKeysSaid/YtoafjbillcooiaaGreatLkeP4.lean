/- Parts of the proof, one behind the other. -/
import Derived.Test.YtoafjbillcooiaaGreatLkeP3
import Derived.ProofKit
import Derived.OpenShut
import Derived.ShutString
import Derived.ChangeOld
import Derived.Deep.Slices
import Derived.Deep.Fields
import Derived.ChangeMaps5
namespace Go.Proofs.YtoafjbillcooiaaGreat
open Go.RowKit
set_option linter.unusedSimpArgs false
set_option linter.unusedVariables false
theorem ladR_one (seed : ByteArray) : ladR seed 1 = hashP leafT [num8S 0 ++ publicP seed 0] := by
  unfold ladR treeR
  have e : depN (rungL seed 1) = 0 := by unfold depN; rw [rungL_len]; rfl
  rw [e]
  unfold plD
  have e2 : revOf 0 0 = 0 := rfl
  rw [e2, if_pos (by rw [rungL_len]; decide), rungL_at _ _ _ (by decide)]
  rfl
theorem wk_new : newE 32 7 3 1 = 0 := by decide
theorem wk_key7 : keyO 7 3 1 7 = some 0 := by decide
theorem wk_key9 : keyO 7 3 1 9 = some 0 := by decide
theorem wk_key10 : keyO 7 3 1 10 = none := by decide
theorem wk_ver (seed dg : ByteArray) (hd : dg.size = 32) (r : Nat) : verE (ladR seed 1) 7 3 1 r dg (signD seed 7 3 1 9 dg) = match keyO 7 3 1 r with | none => 16 | some j => if j = 0 then 0 else 10 :=
  holds_verE hd (by decide) (by decide) (by decide) wk_key9
theorem SignIs.lit {S : SigD} {E : Int} {w w' : World} {e : Ending} (h : SignIs S E w e w') : ∃ wa wc pa pc, e = .returned (.tuple #[.agg #[.int .u64 S.ix, .slice wa (len S.ws) wc, .slice pa (len S.ps) pc], .int .i64 E]) ∧ Txts w' wa S.ws ∧ Txts w' pa S.ps ∧ len S.ps ≤ pc ∧ Below w.heap.size w w' := by
  obtain ⟨v, p, rfl, ⟨wa, wc, rfl, h1, -⟩, ⟨pa, pc, rfl, h2, h3, -⟩, hb⟩ := h
  exact ⟨wa, wc, pa, pc, rfl, h1, h2, h3, hb⟩
set_option maxRecDepth 100000 in
set_option maxHeartbeats 8000000 in
theorem works14_any (w : World) : Calls Tryz.prog 29 #[] w fun e w' => e = .returned (.bool true) ∧ Below w.heap.size w w' := by
  go_enter Tryz.func29, Tryz.ntmps29
  go_wp2_with fail
  refine (text14_any 115 32 w (by decide) (by decide)).mono ?_
  rintro e w1 ⟨rfl, hb1⟩
  have HB1 := Lib.hid hb1
  clear hb1
  go_wp2_with fail
  refine (text14_any 100 32 w1 (by decide) (by decide)).mono ?_
  rintro e w2 ⟨rfl, hb2⟩
  have HB2 := Lib.hid (bnext HB1.out hb2)
  obtain ⟨seed, hseed⟩ : ∃ s, textN 115 32 = s := ⟨_, rfl⟩
  obtain ⟨dg, hdg⟩ : ∃ s, textN 100 32 = s := ⟨_, rfl⟩
  have HSS : Hid (seed.size = 32) := Lib.hid (by rw [← hseed]; exact textN_size _ _)
  have HDS : Hid (dg.size = 32) := Lib.hid (by rw [← hdg]; exact textN_size _ _)
  rw [hseed, hdg]
  clear hb2 hseed hdg
  go_wp2_with fail
  refine (new14_any seed 7 3 1 w2 (by decide)).mono ?_
  rintro e w3 ⟨hn, hb3⟩
  have HB3 := Lib.hid (bnext HB2.out hb3)
  rw [HSS.out, wk_new] at hn
  obtain ⟨h9, -⟩ | ⟨-, lb, tb, rfl, hl, -⟩ := hn
  · exact absurd rfl h9
  have HL : Hid (LadAt seed 7 3 1 lb tb w3) := Lib.hid hl
  clear hb3 hl
  go_wp2_with fail
  have hsg := sign14_any seed dg 7 3 1 lb tb 9 w3 HL.out (by decide) (by decide) (by decide) (by decide) (by rw [HSS.out]; decide)
  refine hsg.mono ?_
  rintro e w4 hs
  obtain ⟨wa, wc, pa, pc, rfl, htw, htp, hpc, hb4⟩ := hs.lit
  have hsd := signD_ok (seed := seed) (d := dg) wk_key9 HDS.out
  have HV := Lib.hid (wk_ver seed dg HDS.out)
  obtain ⟨ws, hws⟩ : ∃ ws, (signD seed 7 3 1 9 dg).ws = ws := ⟨_, rfl⟩
  obtain ⟨ps, hps⟩ : ∃ ps, (signD seed 7 3 1 9 dg).ps = ps := ⟨_, rfl⟩
  have hix : (signD seed 7 3 1 9 dg).ix = 0 := by rw [hsd.1]; rfl
  have HSD : Hid (signD seed 7 3 1 9 dg = ⟨0, ws, ps⟩) := Lib.hid (by rw [← hws, ← hps, ← hix])
  have hl67 : len ws = 67 := by rw [← hws, hsd.1]; show len (sgL seed 0 dg) = 67; unfold sgL; rw [if_pos HDS.out]; exact chL_len _ _
  have hl0 : len ps = 0 := by rw [← hps, hsd.1]; show len (oneD (rungL seed 1) 0) = 0; rw [oneD_len (by rw [rungL_len]; decide)]; unfold depN; rw [rungL_len]; rfl
  rw [hws, hps, hix, hsd.2, hl67, hl0]
  rw [hws] at htw
  rw [hps] at htp hpc
  have HL67 := Lib.hid hl67
  have HL0 := Lib.hid hl0
  have HTW := Lib.hid htw
  have HTP := Lib.hid htp
  have HB4 := Lib.hid (bnext HB3.out hb4)
  have HL4 := Lib.hid (HL.out.below hb4)
  clear hsg hs hsd hws hps hix hl67 hl0 htw htp hpc hb4
  go_upto_region 6 with fail
  obtain ⟨sb, hsb⟩ : ∃ sb, w4.heap.size = sb := ⟨_, rfl⟩
  obtain ⟨V, hV⟩ : ∃ V, w4.alloc (.cells #[.int .u64 0, .slice wa 67 wc, .slice pa 0 pc] 54) = V := ⟨_, rfl⟩
  have HSB : Hid (V.heap[sb]? = some (.cells #[.int .u64 0, .slice wa 67 wc, .slice pa 0 pc] 54 (0, 0))) := Lib.hid (by rw [← hV]; exact alloc_new_at _ hsb)
  have hbv : Below w4.heap.size w4 V := by rw [← hV]; exact balloc (Below.refl _ _) _
  have HBV := Lib.hid (bnext HB4.out hbv)
  have HLV := Lib.hid (HL4.out.below hbv)
  have HTWV := Lib.hid (HTW.out.below hbv)
  have HTPV := Lib.hid (HTP.out.below hbv)
  rw [hV, hsb]
  clear hV hsb hbv
  go_wp2_with fail
  refine (lpart_any seed 7 3 1 lb tb 5 V HLV.out).mono ?_
  rintro e w5 ⟨rfl, hb5⟩
  obtain ⟨RT, hrt⟩ : ∃ rt, ladR seed 1 = rt := ⟨_, rfl⟩
  rw [hrt]
  have HSB5 := Lib.hid ((hb5.block _ (lt_of_block HSB.out)).trans HSB.out)
  have HB5 := Lib.hid (bnext HBV.out hb5)
  have HL5 := Lib.hid (HLV.out.below hb5)
  have HTW5 := Lib.hid (HTWV.out.below hb5)
  have HTP5 := Lib.hid (HTPV.out.below hb5)
  have HV9 := HV.out
  rw [hrt, HSD.out] at HV9
  have HVV := Lib.hid HV9
  have HRQ := Lib.hid (ladR_one seed)
  rw [hrt] at HRQ
  have HLR : Hid (∀ wv lb' tb', LadAt seed 7 3 1 lb' tb' wv → Calls Tryz.prog 35 #[.pointer (some ⟨lb', 0, none⟩)] wv fun e w' => e = .returned (.string RT) ∧ Below wv.heap.size wv w') := Lib.hid (fun wv b1 b2 h => by rw [← hrt]; exact lroot14_any seed 7 3 1 b1 b2 wv h)
  clear hb5 HV9 hrt
  go_upto_region 7 with fail
  obtain ⟨pb, hpb⟩ : ∃ pb, w5.heap.size = pb := ⟨_, rfl⟩
  obtain ⟨W, hW⟩ : ∃ W, w5.alloc (.cells #[.string RT, .int .u64 5, .int .u64 7, .int .u64 3, .int .u64 1] 62) = W := ⟨_, rfl⟩
  have hpw : W.heap[pb]? = some (.cells #[.string RT, .int .u64 5, .int .u64 7, .int .u64 3, .int .u64 1] 62 (0, 0)) := by rw [← hW]; exact alloc_new_at _ hpb
  have hbw : Below w5.heap.size w5 W := by rw [← hW]; exact balloc (Below.refl _ _) _
  have hsw := (hbw.block _ (lt_of_block HSB5.out)).trans HSB5.out
  have s0 : W.cell? ⟨sb, 0, none⟩ = some (.int .u64 0) := block_cell hsw 0
  have s1 : W.cell? ⟨sb, 1, none⟩ = some (.slice wa 67 wc) := block_cell hsw 1
  have s2 : W.cell? ⟨sb, 2, none⟩ = some (.slice pa 0 pc) := block_cell hsw 2
  have t0 : W.cell? ⟨pb, 0, none⟩ = some (.string RT) := block_cell hpw 0
  have t1 : W.cell? ⟨pb, 1, none⟩ = some (.int .u64 5) := block_cell hpw 1
  have t2 : W.cell? ⟨pb, 2, none⟩ = some (.int .u64 7) := block_cell hpw 2
  have t3 : W.cell? ⟨pb, 3, none⟩ = some (.int .u64 3) := block_cell hpw 3
  have t4 : W.cell? ⟨pb, 4, none⟩ = some (.int .u64 1) := block_cell hpw 4
  have HBW := Lib.hid (bnext HB5.out hbw)
  have HLW := Lib.hid (HL5.out.below hbw)
  have HTWW := Lib.hid (HTW5.out.below hbw)
  have HTPW := Lib.hid (HTP5.out.below hbw)
  rw [hW, hpb]
  clear hW hpb hpw hbw hsw
  obtain ⟨P, hP⟩ : ∃ P, num8S 0 = P := ⟨_, rfl⟩
  obtain ⟨Q, hQ⟩ : ∃ Q, publicP seed 0 = Q := ⟨_, rfl⟩
  have qz : P.size + Q.size ≤ 9223372036854775807 := by rw [← hP, ← hQ, num8S_size, publicP_size]; decide
  have qb : (RT.toList == RT.toList) = true := by rw [str_beq]; exact decide_eq_true rfl
  have HRT : Hid (∀ wv, Below W.heap.size W wv → Calls Tryz.prog 35 #[.pointer (some ⟨lb, 0, none⟩)] wv fun e w' => e = .returned (.string RT) ∧ Below wv.heap.size wv w') := Lib.hid (fun wv hb => HLR.out wv lb tb (HLW.out.below hb))
  have HNM : Hid (∀ wv, Calls Tryz.prog 40 #[.int .u64 0] wv fun e w' => e = .returned (.string P) ∧ Below wv.heap.size wv w') := Lib.hid (fun wv => by rw [← hP]; exact dnum_any 0 wv (by decide))
  have HPB : Hid (∀ wv, Calls Tryz.prog 41 #[.string seed, .int .u64 0] wv fun e w' => e = .returned (.string Q) ∧ Below wv.heap.size wv w') := Lib.hid (fun wv => by rw [← hQ]; exact public_any seed 0 wv (by decide) (by rw [HSS.out]; decide))
  have HHS : Hid (∀ wv b, wv.heap[b]? = some (.cells #[.string (P ++ Q)] 9 (0, 0)) → Calls Tryz.prog 53 #[.string leafT, .slice (some ⟨b, 0, none⟩) 1 1] wv fun e w' => e = .returned (.string RT) ∧ Below wv.heap.size wv w') := Lib.hid (fun wv b h => by
    rw [HRQ.out, hP, hQ]
    exact hash_any leafT [P ++ Q] (some ⟨b, 0, none⟩) 1 wv (by decide) (by decide) (txts1 h) (by
      have e : (P ++ Q).size = 40 := by rw [ByteArray.size_append, ← hP, ← hQ, num8S_size, publicP_size]
      simp [partsL, partL_len, e]))
  have hver : ∀ r, r < 18446744073709551616 → ∀ wv, Below W.heap.size W wv → Calls Tryz.prog 27 #[.agg #[.string RT, .int .u64 5, .int .u64 7, .int .u64 3, .int .u64 1], .int .u64 (r : Nat), .string dg, .agg #[.int .u64 0, .slice wa 67 wc, .slice pa 0 pc]] wv fun e w' => e = .returned (.int .i64 (verE RT 7 3 1 r dg ⟨0, ws, ps⟩)) ∧ Below wv.heap.size wv w' := fun r hr wv hb => by
    have h9 := verify_any RT dg 5 7 3 1 r 0 ws ps wa pa wc pc wv (HTWW.out.below hb) (HTPW.out.below hb) (by decide) hr (by rw [HL67.out]; decide) (by rw [HL0.out]; decide) (by rw [HL0.out]; exact Nat.zero_le _)
    rw [HL67.out, HL0.out] at h9
    exact h9
  have HV7 : Hid (∀ wv, Below W.heap.size W wv → Calls Tryz.prog 27 #[.agg #[.string RT, .int .u64 5, .int .u64 7, .int .u64 3, .int .u64 1], .int .u64 7, .string dg, .agg #[.int .u64 0, .slice wa 67 wc, .slice pa 0 pc]] wv fun e w' => e = .returned (.int .i64 0) ∧ Below wv.heap.size wv w') := Lib.hid (fun wv hb => by
    have h9 := hver 7 (by decide) wv hb
    rw [HVV.out 7, wk_key7] at h9
    exact h9)
  have HV10 : Hid (∀ wv, Below W.heap.size W wv → Calls Tryz.prog 27 #[.agg #[.string RT, .int .u64 5, .int .u64 7, .int .u64 3, .int .u64 1], .int .u64 10, .string dg, .agg #[.int .u64 0, .slice wa 67 wc, .slice pa 0 pc]] wv fun e w' => e = .returned (.int .i64 16) ∧ Below wv.heap.size wv w') := Lib.hid (fun wv hb => by
    have h9 := hver 10 (by decide) wv hb
    rw [HVV.out 10, wk_key10] at h9
    exact h9)
  clear hver hP hQ
  refine wp_region_all 1000 (none) (phis [fun u _ => u = (.pointer (some ⟨lb, 0, none⟩)), fun u _ => u = (.string RT), fun u _ => u = (.string P), fun u _ => u = (.string seed), fun u _ => u = (.string Q), fun u _ => u = (.string (P ++ Q)), fun u w' => ∃ b, u = .slice (some ⟨b, 0, none⟩) 1 1 ∧ w'.heap[b]? = some (.cells #[.string (P ++ Q)] 9 (0, 0)), fun u _ => u = (.string RT), fun u _ => u = (.bool true), fun u _ => u = (.bool true), fun u _ => u = (.int .i64 0), fun u _ => u = (.bool true), fun u _ => u = (.bool true), fun u _ => u = (.bool true), fun u _ => u = (.pointer (some ⟨sb, 1, none⟩)), fun u _ => u = (.slice wa 67 wc), fun u _ => u = (.int .i64 67), fun u _ => u = (.bool true), fun u _ => u = (.bool true), fun u _ => u = (.bool true), fun u _ => u = (.pointer (some ⟨sb, 2, none⟩)), fun u _ => u = (.slice pa 0 pc), fun u _ => u = (.int .i64 0), fun u _ => u = (.bool true), fun u _ => u = (.bool true), fun u _ => u = (.bool true), fun u _ => u = (.agg #[.string RT, .int .u64 5, .int .u64 7, .int .u64 3, .int .u64 1]), fun u _ => u = (.pointer (some ⟨lb, 0, none⟩)), fun u _ => u = (.string RT), fun u _ => u = (.agg #[.string RT, .int .u64 5, .int .u64 7, .int .u64 3, .int .u64 1]), fun u _ => u = (.bool true), fun u _ => u = (.bool true), fun u _ => u = (.bool true), fun u _ => u = (.agg #[.string RT, .int .u64 5, .int .u64 7, .int .u64 3, .int .u64 1]), fun u _ => u = (.string dg), fun u _ => u = (.agg #[.int .u64 0, .slice wa 67 wc, .slice pa 0 pc]), fun u _ => u = (.int .i64 0), fun u _ => u = (.bool true), fun u _ => u = (.bool true), fun u _ => u = (.bool true), fun u _ => u = (.agg #[.string RT, .int .u64 5, .int .u64 7, .int .u64 3, .int .u64 1]), fun u _ => u = (.string dg), fun u _ => u = (.agg #[.int .u64 0, .slice wa 67 wc, .slice pa 0 pc]), fun u _ => u = (.int .i64 16), fun u _ => u = (.bool true), fun u _ => u = (.bool true), fun u _ => u = (.bool true)]) rfl (by kernel_rfl) (mono_of ⟨mono_eq, mono_eq, mono_eq, mono_eq, mono_eq, mono_eq, ?m6, mono_eq, mono_eq, mono_eq, mono_eq, mono_eq, mono_eq, mono_eq, mono_eq, mono_eq, mono_eq, mono_eq, mono_eq, mono_eq, mono_eq, mono_eq, mono_eq, mono_eq, mono_eq, mono_eq, mono_eq, mono_eq, mono_eq, mono_eq, mono_eq, mono_eq, mono_eq, mono_eq, mono_eq, mono_eq, mono_eq, mono_eq, mono_eq, mono_eq, mono_eq, mono_eq, mono_eq, mono_eq, mono_eq, mono_eq, mono_eq, trivial⟩) (steps_of 47 ⟨?s0, ?s1, ?s2, ?s3, ?s4, ?s5, ?s6, ?s7, ?s8, ?s9, ?s10, ?s11, ?s12, ?s13, ?s14, ?s15, ?s16, ?s17, ?s18, ?s19, ?s20, ?s21, ?s22, ?s23, ?s24, ?s25, ?s26, ?s27, ?s28, ?s29, ?s30, ?s31, ?s32, ?s33, ?s34, ?s35, ?s36, ?s37, ?s38, ?s39, ?s40, ?s41, ?s42, ?s43, ?s44, ?s45, ?s46, trivial⟩) ?_
  case m6 =>
    exact ⟨fun u w1 w' h ⟨b, h1, hb⟩ => ⟨b, h1, ext_block h hb⟩, fun _ u w1 w' h ⟨b, h1, hb⟩ => ⟨b, h1, extB_block h (by simp) hb⟩⟩
  case s0 =>
    refine qV (fun _ => rfl) rfl fun av wv hE hO hD => ?_
    simp [go_sem, qF av 3 (.pointer (some ⟨lb, 0, none⟩)) (hO.2.2 3 rfl), qz, qb]
  case s1 =>
    refine step_wp (fun av wv hE hS hO hD => ⟨rfl, ?_⟩)
    have f29 := qE (hD.1 rfl _ rfl)
    refine wp_of_call (v := .string RT) (by simp [go_sem, f29]) (HRT.out wv (of_drew hE)) (fun w2 hb => ⟨_, rfl, es_of_ext hb, rfl⟩)
  case s2 =>
    refine step_wp (fun av wv hE hS hO hD => ⟨rfl, ?_⟩)
    refine wp_of_call (v := .string P) (by simp [go_sem]) (HNM.out wv) (fun w2 hb => ⟨_, rfl, es_of_ext hb, rfl⟩)
  case s3 =>
    refine qV (fun _ => rfl) rfl fun av wv hE hO hD => ?_
    simp [go_sem, qF av 1 (.string seed) (hO.2.2 1 rfl), qz, qb]
  case s4 =>
    refine step_wp (fun av wv hE hS hO hD => ⟨rfl, ?_⟩)
    have f32 := qE (hD.1 rfl _ rfl)
    refine wp_of_call (v := .string Q) (by simp [go_sem, f32]) (HPB.out wv) (fun w2 hb => ⟨_, rfl, es_of_ext hb, rfl⟩)
  case s5 =>
    refine qV (fun _ => rfl) rfl fun av wv hE hO hD => ?_
    simp [go_sem, qE (hD.1 rfl _ rfl), qE (hD.2.1 rfl _ rfl), qz, qb]
  case s6 =>
    refine step_wp (fun av wv hE hS hO hD => ⟨rfl, ?_⟩)
    have f34 := qE (hD.1 rfl _ rfl)
    exact wp_of_run (v := .slice (some ⟨wv.heap.size, 0, none⟩) 1 1) (w' := wv.alloc (.cells #[.string (P ++ Q)] 9)) (by simp [go_sem, f34]) ⟨_, rfl, es_of_ext (balloc (Ext_refl _) _), wv.heap.size, rfl, heap_alloc_new _ _⟩
  case s7 =>
    refine step_wp (fun av wv hE hS hO hD => ⟨rfl, ?_⟩)
    have d35 : (fun u w' => ∃ b, u = .slice (some ⟨b, 0, none⟩) 1 1 ∧ w'.heap[b]? = some (.cells #[.string (P ++ Q)] 9 (0, 0))) (av.eval (.tmp 35)) wv := hD.1 rfl _ rfl
    obtain ⟨b, hq, hcq⟩ := d35
    have fq := (ev_form av 35).symm.trans hq
    refine wp_of_call (v := .string RT) (by simp [go_sem, fq, leafT]) (HHS.out wv b hcq) (fun w2 hb => ⟨_, rfl, es_of_ext hb, rfl⟩)
  case s8 =>
    refine qV (fun _ => rfl) rfl fun av wv hE hO hD => ?_
    simp [go_sem, qE (hD.1 rfl _ rfl), qE (hD.2.1 rfl _ rfl), qz, qb]
  case s9 =>
    refine qV (fun _ => rfl) rfl fun av wv hE hO hD => ?_
    simp [go_sem, qE (hD.1 rfl _ rfl), qz, qb]
  case s10 =>
    refine step_val (fun av wv hE hS hO hD => ⟨(wY rfl rfl rfl (hD.1 rfl _ rfl)), ?_⟩) (fun _ => rfl)
    simp [go_sem, qF av 6 (.int .i64 0) (hO.2.2 6 rfl), qE (hD.1 rfl _ rfl), qz, qb]
  case s11 =>
    refine step_val (fun av wv hE hS hO hD => ⟨(wY rfl rfl rfl (hD.2.1 rfl _ rfl)), ?_⟩) (fun _ => rfl)
    simp [go_sem, qE (hD.1 rfl _ rfl), qE (hD.2.1 rfl _ rfl), qz, qb]
  case s12 =>
    refine qV (fun _ => rfl) rfl fun av wv hE hO hD => ?_
    simp [go_sem, qE (hD.1 rfl _ rfl), qE (hD.2.1 rfl _ rfl), qz, qb]
  case s13 =>
    refine qV (fun _ => rfl) rfl fun av wv hE hO hD => ?_
    simp [go_sem, qE (hD.1 rfl _ rfl), qz, qb]
  case s14 =>
    refine step_val (fun av wv hE hS hO hD => ⟨(wY rfl rfl rfl (hD.1 rfl _ rfl)), ?_⟩) (fun _ => rfl)
    simp [go_sem, qF av 5 (.pointer (some ⟨sb, 0, none⟩)) (hO.2.2 5 rfl), qE (hD.1 rfl _ rfl), qz, qb]
  case s15 =>
    refine step_val (fun av wv hE hS hO hD => ⟨(wY rfl rfl rfl (hD.2.1 rfl _ rfl)), ?_⟩) (fun _ => rfl)
    simp [go_sem, qE (hD.1 rfl _ rfl), qE (hD.2.1 rfl _ rfl), extB_cell hE (by simp) s0, extB_cell hE (by simp) s1, extB_cell hE (by simp) s2, extB_cell hE (by simp) t0, extB_cell hE (by simp) t1, extB_cell hE (by simp) t2, extB_cell hE (by simp) t3, extB_cell hE (by simp) t4, qz, qb]
  case s16 =>
    refine step_val (fun av wv hE hS hO hD => ⟨(wY rfl rfl rfl (hD.2.1 rfl _ rfl)), ?_⟩) (fun _ => rfl)
    simp [go_sem, qE (hD.1 rfl _ rfl), qE (hD.2.1 rfl _ rfl), qz, qb]
  case s17 =>
    refine step_val (fun av wv hE hS hO hD => ⟨(wY rfl rfl rfl (hD.2.1 rfl _ rfl)), ?_⟩) (fun _ => rfl)
    simp [go_sem, qE (hD.1 rfl _ rfl), qE (hD.2.1 rfl _ rfl), qz, qb]
  case s18 =>
    refine qV (fun _ => rfl) rfl fun av wv hE hO hD => ?_
    simp [go_sem, qE (hD.1 rfl _ rfl), qE (hD.2.1 rfl _ rfl), qz, qb]
  case s19 =>
    refine qV (fun _ => rfl) rfl fun av wv hE hO hD => ?_
    simp [go_sem, qE (hD.1 rfl _ rfl), qz, qb]
  case s20 =>
    refine step_val (fun av wv hE hS hO hD => ⟨(wY rfl rfl rfl (hD.1 rfl _ rfl)), ?_⟩) (fun _ => rfl)
    simp [go_sem, qF av 5 (.pointer (some ⟨sb, 0, none⟩)) (hO.2.2 5 rfl), qE (hD.1 rfl _ rfl), qz, qb]
  case s21 =>
    refine step_val (fun av wv hE hS hO hD => ⟨(wY rfl rfl rfl (hD.2.1 rfl _ rfl)), ?_⟩) (fun _ => rfl)
    simp [go_sem, qE (hD.1 rfl _ rfl), qE (hD.2.1 rfl _ rfl), extB_cell hE (by simp) s0, extB_cell hE (by simp) s1, extB_cell hE (by simp) s2, extB_cell hE (by simp) t0, extB_cell hE (by simp) t1, extB_cell hE (by simp) t2, extB_cell hE (by simp) t3, extB_cell hE (by simp) t4, qz, qb]
  case s22 =>
    refine step_val (fun av wv hE hS hO hD => ⟨(wY rfl rfl rfl (hD.2.1 rfl _ rfl)), ?_⟩) (fun _ => rfl)
    simp [go_sem, qE (hD.1 rfl _ rfl), qE (hD.2.1 rfl _ rfl), qz, qb]
  case s23 =>
    refine step_val (fun av wv hE hS hO hD => ⟨(wY rfl rfl rfl (hD.2.1 rfl _ rfl)), ?_⟩) (fun _ => rfl)
    simp [go_sem, qE (hD.1 rfl _ rfl), qE (hD.2.1 rfl _ rfl), qz, qb]
  case s24 =>
    refine qV (fun _ => rfl) rfl fun av wv hE hO hD => ?_
    simp [go_sem, qE (hD.1 rfl _ rfl), qE (hD.2.1 rfl _ rfl), qz, qb]
  case s25 =>
    refine qV (fun _ => rfl) rfl fun av wv hE hO hD => ?_
    simp [go_sem, qE (hD.1 rfl _ rfl), qz, qb]
  case s26 =>
    refine step_val (fun av wv hE hS hO hD => ⟨(wY rfl rfl rfl (hD.1 rfl _ rfl)), ?_⟩) (fun _ => rfl)
    simp [go_sem, qF av 7 (.pointer (some ⟨pb, 0, none⟩)) (hO.2.2 7 rfl), qE (hD.1 rfl _ rfl), extB_cell hE (by simp) s0, extB_cell hE (by simp) s1, extB_cell hE (by simp) s2, extB_cell hE (by simp) t0, extB_cell hE (by simp) t1, extB_cell hE (by simp) t2, extB_cell hE (by simp) t3, extB_cell hE (by simp) t4, qz, qb]
  case s27 =>
    refine step_val (fun av wv hE hS hO hD => ⟨(wY rfl rfl rfl (hD.1 rfl _ rfl)), ?_⟩) (fun _ => rfl)
    simp [go_sem, qF av 3 (.pointer (some ⟨lb, 0, none⟩)) (hO.2.2 3 rfl), qE (hD.1 rfl _ rfl), qz, qb]
  case s28 =>
    refine step_wp (fun av wv hE hS hO hD => ⟨(wY rfl rfl rfl (hD.2.1 rfl _ rfl)), ?_⟩)
    have f56 := qE (hD.1 rfl _ rfl)
    refine wp_of_call (v := .string RT) (by simp [go_sem, f56]) (HRT.out wv (of_drew hE)) (fun w2 hb => ⟨_, rfl, es_of_ext hb, rfl⟩)
  case s29 =>
    refine step_val (fun av wv hE hS hO hD => ⟨(wY rfl rfl rfl (hD.2.1 rfl _ rfl)), ?_⟩) (fun _ => rfl)
    simp [go_sem, qE (hD.1 rfl _ rfl), qE (hD.2.1 rfl _ rfl), qz, qb]
  case s30 =>
    refine step_val (fun av wv hE hS hO hD => ⟨(wY rfl rfl rfl (hD.2.2.1 rfl _ rfl)), ?_⟩) (fun _ => rfl)
    simp [go_sem, qE (hD.1 rfl _ rfl), qE (hD.2.1 rfl _ rfl), qE (hD.2.2.1 rfl _ rfl), qz, qb]
  case s31 =>
    refine qV (fun _ => rfl) rfl fun av wv hE hO hD => ?_
    simp [go_sem, qE (hD.1 rfl _ rfl), qE (hD.2.1 rfl _ rfl), qz, qb]
  case s32 =>
    refine qV (fun _ => rfl) rfl fun av wv hE hO hD => ?_
    simp [go_sem, qE (hD.1 rfl _ rfl), qz, qb]
  case s33 =>
    refine step_val (fun av wv hE hS hO hD => ⟨(wY rfl rfl rfl (hD.1 rfl _ rfl)), ?_⟩) (fun _ => rfl)
    simp [go_sem, qF av 7 (.pointer (some ⟨pb, 0, none⟩)) (hO.2.2 7 rfl), qE (hD.1 rfl _ rfl), extB_cell hE (by simp) s0, extB_cell hE (by simp) s1, extB_cell hE (by simp) s2, extB_cell hE (by simp) t0, extB_cell hE (by simp) t1, extB_cell hE (by simp) t2, extB_cell hE (by simp) t3, extB_cell hE (by simp) t4, qz, qb]
  case s34 =>
    refine step_val (fun av wv hE hS hO hD => ⟨(wY rfl rfl rfl (hD.1 rfl _ rfl)), ?_⟩) (fun _ => rfl)
    simp [go_sem, qF av 2 (.string dg) (hO.2.2 2 rfl), qE (hD.1 rfl _ rfl), qz, qb]
  case s35 =>
    refine step_val (fun av wv hE hS hO hD => ⟨(wY rfl rfl rfl (hD.1 rfl _ rfl)), ?_⟩) (fun _ => rfl)
    simp [go_sem, qF av 5 (.pointer (some ⟨sb, 0, none⟩)) (hO.2.2 5 rfl), qE (hD.1 rfl _ rfl), extB_cell hE (by simp) s0, extB_cell hE (by simp) s1, extB_cell hE (by simp) s2, extB_cell hE (by simp) t0, extB_cell hE (by simp) t1, extB_cell hE (by simp) t2, extB_cell hE (by simp) t3, extB_cell hE (by simp) t4, qz, qb]
  case s36 =>
    refine step_wp (fun av wv hE hS hO hD => ⟨(wY rfl rfl rfl (hD.2.2.2.1 rfl _ rfl)), ?_⟩)
    have f62 := qE (hD.1 rfl _ rfl)
    have f63 := qE (hD.2.1 rfl _ rfl)
    have f64 := qE (hD.2.2.1 rfl _ rfl)
    refine wp_of_call (v := .int .i64 0) (by simp [go_sem, f62, f63, f64]) (HV7.out wv (of_drew hE)) (fun w2 hb => ⟨_, rfl, es_of_ext hb, rfl⟩)
  case s37 =>
    refine step_val (fun av wv hE hS hO hD => ⟨(wY rfl rfl rfl (hD.2.1 rfl _ rfl)), ?_⟩) (fun _ => rfl)
    simp [go_sem, qE (hD.1 rfl _ rfl), qE (hD.2.1 rfl _ rfl), qz, qb]
  case s38 =>
    refine qV (fun _ => rfl) rfl fun av wv hE hO hD => ?_
    simp [go_sem, qE (hD.1 rfl _ rfl), qE (hD.2.1 rfl _ rfl), qz, qb]
  case s39 =>
    refine qV (fun _ => rfl) rfl fun av wv hE hO hD => ?_
    simp [go_sem, qE (hD.1 rfl _ rfl), qz, qb]
  case s40 =>
    refine step_val (fun av wv hE hS hO hD => ⟨(wY rfl rfl rfl (hD.1 rfl _ rfl)), ?_⟩) (fun _ => rfl)
    simp [go_sem, qF av 7 (.pointer (some ⟨pb, 0, none⟩)) (hO.2.2 7 rfl), qE (hD.1 rfl _ rfl), extB_cell hE (by simp) s0, extB_cell hE (by simp) s1, extB_cell hE (by simp) s2, extB_cell hE (by simp) t0, extB_cell hE (by simp) t1, extB_cell hE (by simp) t2, extB_cell hE (by simp) t3, extB_cell hE (by simp) t4, qz, qb]
  case s41 =>
    refine step_val (fun av wv hE hS hO hD => ⟨(wY rfl rfl rfl (hD.1 rfl _ rfl)), ?_⟩) (fun _ => rfl)
    simp [go_sem, qF av 2 (.string dg) (hO.2.2 2 rfl), qE (hD.1 rfl _ rfl), qz, qb]
  case s42 =>
    refine step_val (fun av wv hE hS hO hD => ⟨(wY rfl rfl rfl (hD.1 rfl _ rfl)), ?_⟩) (fun _ => rfl)
    simp [go_sem, qF av 5 (.pointer (some ⟨sb, 0, none⟩)) (hO.2.2 5 rfl), qE (hD.1 rfl _ rfl), extB_cell hE (by simp) s0, extB_cell hE (by simp) s1, extB_cell hE (by simp) s2, extB_cell hE (by simp) t0, extB_cell hE (by simp) t1, extB_cell hE (by simp) t2, extB_cell hE (by simp) t3, extB_cell hE (by simp) t4, qz, qb]
  case s43 =>
    refine step_wp (fun av wv hE hS hO hD => ⟨(wY rfl rfl rfl (hD.2.2.2.1 rfl _ rfl)), ?_⟩)
    have f69 := qE (hD.1 rfl _ rfl)
    have f70 := qE (hD.2.1 rfl _ rfl)
    have f71 := qE (hD.2.2.1 rfl _ rfl)
    refine wp_of_call (v := .int .i64 16) (by simp [go_sem, f69, f70, f71]) (HV10.out wv (of_drew hE)) (fun w2 hb => ⟨_, rfl, es_of_ext hb, rfl⟩)
  case s44 =>
    refine step_val (fun av wv hE hS hO hD => ⟨(wY rfl rfl rfl (hD.2.1 rfl _ rfl)), ?_⟩) (fun _ => rfl)
    simp [go_sem, qE (hD.1 rfl _ rfl), qE (hD.2.1 rfl _ rfl), qz, qb]
  case s45 =>
    refine qV (fun _ => rfl) rfl fun av wv hE hO hD => ?_
    simp [go_sem, qE (hD.1 rfl _ rfl), qE (hD.2.1 rfl _ rfl), qz, qb]
  case s46 =>
    refine qV (fun _ => rfl) rfl fun av wv hE hO hD => ?_
    simp [go_sem, qE (hD.1 rfl _ rfl), qz, qb]
  intro a' w' hE hO hall
  have hA := act_of_outer (ds := [29, 30, 31, 32, 33, 34, 35, 36, 37, 38, 39, 40, 41, 42, 43, 44, 45, 46, 47, 48, 49, 50, 51, 52, 53, 54, 55, 56, 57, 58, 59, 60, 61, 62, 63, 64, 65, 66, 67, 68, 69, 70, 71, 72, 73, 74, 0]) rfl hO (by kernel_rfl)
  obtain ⟨j0, j1, j2, j3, j4, j5, j6, j7, j8, j9, j10, j11, j12, j13, j14, j15, j16, j17, j18, j19, j20, j21, j22, j23, j24, j25, j26, j27, j28, j29, j30, j31, j32, j33, j34, j35, j36, j37, j38, j39, j40, j41, j42, j43, j44, j45, j46, -⟩ := hall
  have e35 : (fun u w' => ∃ b, u = .slice (some ⟨b, 0, none⟩) 1 1 ∧ w'.heap[b]? = some (.cells #[.string (P ++ Q)] 9 (0, 0))) (a'.eval (.tmp 35)) w' := j6 _ rfl
  obtain ⟨v35, hv35⟩ : ∃ v, a'.eval (.tmp 35) = v := ⟨_, rfl⟩
  rw [hv35] at e35
  simp only [List.foldl_cons, List.foldl_nil, Act.put, List.setIfInBounds_toArray, List.set_cons_succ, List.set_cons_zero, qJ 29 (j0 _ rfl), qJ 30 (j1 _ rfl), qJ 31 (j2 _ rfl), qJ 32 (j3 _ rfl), qJ 33 (j4 _ rfl), qJ 34 (j5 _ rfl), hv35, qJ 36 (j7 _ rfl), qJ 37 (j8 _ rfl), qJ 38 (j9 _ rfl), qJ 39 (j10 _ rfl), qJ 40 (j11 _ rfl), qJ 41 (j12 _ rfl), qJ 42 (j13 _ rfl), qJ 43 (j14 _ rfl), qJ 44 (j15 _ rfl), qJ 45 (j16 _ rfl), qJ 46 (j17 _ rfl), qJ 47 (j18 _ rfl), qJ 48 (j19 _ rfl), qJ 49 (j20 _ rfl), qJ 50 (j21 _ rfl), qJ 51 (j22 _ rfl), qJ 52 (j23 _ rfl), qJ 53 (j24 _ rfl), qJ 54 (j25 _ rfl), qJ 55 (j26 _ rfl), qJ 56 (j27 _ rfl), qJ 57 (j28 _ rfl), qJ 58 (j29 _ rfl), qJ 59 (j30 _ rfl), qJ 60 (j31 _ rfl), qJ 61 (j32 _ rfl), qJ 62 (j33 _ rfl), qJ 63 (j34 _ rfl), qJ 64 (j35 _ rfl), qJ 65 (j36 _ rfl), qJ 66 (j37 _ rfl), qJ 67 (j38 _ rfl), qJ 68 (j39 _ rfl), qJ 69 (j40 _ rfl), qJ 70 (j41 _ rfl), qJ 71 (j42 _ rfl), qJ 72 (j43 _ rfl), qJ 73 (j44 _ rfl), qJ 74 (j45 _ rfl), qJ 0 (j46 _ rfl)] at hA
  clear hO j6 j0 j1 j2 j3 j4 j5 hv35 j7 j8 j9 j10 j11 j12 j13 j14 j15 j16 j17 j18 j19 j20 j21 j22 j23 j24 j25 j26 j27 j28 j29 j30 j31 j32 j33 j34 j35 j36 j37 j38 j39 j40 j41 j42 j43 j44 j45 j46
  subst hA
  have HE := Lib.hid (of_drew hE)
  clear hE s0 s1 s2 t0 t1 t2 t3 t4 qz qb
  go_wp2
  go_ret
  exact ⟨rfl, bnext HBW.out HE.out⟩
end Go.Proofs.YtoafjbillcooiaaGreat
namespace Go.Proofs.YtoafjbillcooiaaGreat
open Go.RowKit
set_option linter.unusedSimpArgs false
set_option linter.unusedVariables false
def madeV (s d z : Nat) (F0 L0 : Nat) (K0 : Int) (r wt : Nat) : List Value := [.int .u8 (s : Nat), .int .u8 (d : Nat), .int .u8 (z : Nat), .int .u64 (F0 : Nat), .int .u64 (L0 : Nat), .int .i64 K0, .int .u64 (r : Nat), .int .u64 (wt : Nat)]
theorem keys_nat (K0 : Int) (n : Nat) (h1 : K0 ≤ 9223372036854775807) : ∃ M q K : Nat, max 0 K0 = (M : Int) ∧ M % n = q ∧ K = 1 + q ∧ M ≤ 9223372036854775807 := by
  refine ⟨(max 0 K0).toNat, _, _, ?_, rfl, rfl, ?_⟩ <;> omega
end Go.Proofs.YtoafjbillcooiaaGreat
namespace Go.Proofs.YtoafjbillcooiaaGreat
open Go.RowKit
set_option linter.unusedSimpArgs false
set_option linter.unusedVariables false
set_option maxRecDepth 100000 in
set_option maxHeartbeats 8000000 in
theorem keys14_law (s d z F0 L0 r wt : Nat) (K0 : Int) (w : World) (hs : s ≤ 255) (hd : d ≤ 255) (hF : F0 < 18446744073709551616) (hL : L0 < 18446744073709551616) (hr : r < 18446744073709551616) (hK : K0 ≤ 9223372036854775807) :
    Calls Tryz.prog 8 #[.agg (madeV s d z F0 L0 K0 r wt).toArray] w fun e w' => e = .returned (.bool true) ∧ Below w.heap.size w w' := by
  have HS := Lib.hid hs
  have HD := Lib.hid hd
  obtain ⟨M, q, K, hM, hq, hKq, hM9⟩ := keys_nat K0 6 hK
  unfold madeV
  clear hs hd
  go_enter Tryz.func8, Tryz.ntmps8
  go_wp2_with fail
  refine (works14_any _).mono ?_
  rintro e w1 ⟨rfl, hb⟩
  obtain ⟨mb, hmb⟩ : ∃ mb, w.heap.size = mb := ⟨_, rfl⟩
  have ha := alloc_new_at (.cells #[.int .u8 (s : Nat), .int .u8 (d : Nat), .int .u8 (z : Nat), .int .u64 (F0 : Nat), .int .u64 (L0 : Nat), .int .i64 K0, .int .u64 (r : Nat), .int .u64 (wt : Nat)] 50) hmb
  have HMB : Hid (w1.heap[mb]? = some (.cells #[.int .u8 (s : Nat), .int .u8 (d : Nat), .int .u8 (z : Nat), .int .u64 (F0 : Nat), .int .u64 (L0 : Nat), .int .i64 K0, .int .u64 (r : Nat), .int .u64 (wt : Nat)] 50 (0, 0))) := Lib.hid ((hb.block _ (lt_of_block ha)).trans ha)
  have HB1 : Hid (Below w.heap.size w w1) := Lib.hid (bnext (balloc (Below.refl _ _) _) hb)
  rw [hmb]
  clear hb ha hmb
  have m3 : w1.cell? ⟨mb, 3, none⟩ = some (.int .u64 (F0 : Nat)) := block_cell HMB.out 3
  have m4 : w1.cell? ⟨mb, 4, none⟩ = some (.int .u64 (L0 : Nat)) := block_cell HMB.out 4
  have m5 : w1.cell? ⟨mb, 5, none⟩ = some (.int .i64 K0) := block_cell HMB.out 5
  go_upto_region 3 with fail
  obtain ⟨l, hl⟩ : ∃ l, L0 % 40 = l := ⟨_, rfl⟩
  obtain ⟨L, hL9⟩ : ∃ L, 1 + l = L := ⟨_, rfl⟩
  obtain ⟨f, hf⟩ : ∃ f, F0 / 2 = f := ⟨_, rfl⟩
  have k1 : max 0 K0 = (M : Int) := hM
  have k2 : Int.tmod ((M : Nat) : Int) 6 = (q : Int) := by rw [← hq]; exact (Int.ofNat_tmod M 6).symm
  have k3 : ((M : Nat) : Int) % 6 = (q : Int) := by omega
  have k4 : 1 + ((q : Nat) : Int) = (K : Int) := by omega
  have k5 : Int.tmod ((L0 : Nat) : Int) 40 = (l : Int) := by rw [← hl]; exact (Int.ofNat_tmod L0 40).symm
  have k6 : ((L0 : Nat) : Int) % 40 = (l : Int) := by omega
  have k7 : 1 + ((l : Nat) : Int) = (L : Int) := by omega
  have k8 : Int.tdiv ((F0 : Nat) : Int) 2 = (f : Int) := by rw [← hf]; exact (Int.ofNat_tdiv F0 2).symm
  have k9 : ((F0 : Nat) : Int) / 2 = (f : Int) := by omega
  have y1 : IntKind.i64.wrap ((K : Nat) : Int) = (K : Int) := IntWalk.i64_in _ (by omega)
  have y2 : IntKind.u64.wrap ((L : Nat) : Int) = (L : Int) := IntWalk.u64_in _ (by omega)
  have y3 : IntKind.u64.wrap ((f : Nat) : Int) = (f : Int) := IntWalk.u64_in _ (by omega)
  have y4 : IntKind.u64.wrap ((l : Nat) : Int) = (l : Int) := IntWalk.u64_in _ (by omega)
  have y5 : IntKind.i64.wrap ((q : Nat) : Int) = (q : Int) := IntWalk.i64_in _ (by omega)
  have HR := Lib.hid hr
  have HKL : Hid (1 ≤ K ∧ K ≤ 6 ∧ 1 ≤ L ∧ L ≤ 40 ∧ f ≤ 9223372036854775807) := Lib.hid (by omega)
  clear hM hq hKq hM9 hF hL hr hK hl hL9 hf
  refine wp_region_all 1000 (none) (phis (List.map qv [.pointer (some ⟨mb, 5, none⟩), .int .i64 K0, .int .i64 (M : Nat), .int .i64 (q : Nat), .int .i64 (K : Nat), .pointer (some ⟨mb, 4, none⟩), .int .u64 (L0 : Nat), .int .u64 (l : Nat), .int .u64 (L : Nat), .pointer (some ⟨mb, 3, none⟩), .int .u64 (F0 : Nat), .int .u64 (f : Nat), .int .i64 (K : Nat), .int .u64 (L : Nat), .int .u64 (f : Nat)])) rfl (by kernel_rfl) (mono_of mono_qv) (steps_of 15 ⟨?s0, ?s1, ?s2, ?s3, ?s4, ?s5, ?s6, ?s7, ?s8, ?s9, ?s10, ?s11, ?s12, ?s13, ?s14, trivial⟩) ?_
  case s0 =>
    refine qV (fun _ => rfl) rfl fun av wv hE hO hD => ?_
    simp [go_sem, qF av 1 (.pointer (some ⟨mb, 0, none⟩)) (hO.2.2 1 rfl), k1, k2, k3, k4, k5, k6, k7, k8, k9, y1, y2, y3, y4, y5]
  case s1 =>
    refine qV (fun _ => rfl) rfl fun av wv hE hO hD => ?_
    simp [go_sem, qE (hD.1 rfl _ rfl), extB_cell hE (by simp) m3, extB_cell hE (by simp) m4, extB_cell hE (by simp) m5, k1, k2, k3, k4, k5, k6, k7, k8, k9, y1, y2, y3, y4, y5]
  case s2 =>
    refine qV (fun _ => rfl) rfl fun av wv hE hO hD => ?_
    simp [go_sem, qE (hD.1 rfl _ rfl), k1, k2, k3, k4, k5, k6, k7, k8, k9, y1, y2, y3, y4, y5]
  case s3 =>
    refine qV (fun _ => rfl) rfl fun av wv hE hO hD => ?_
    simp [go_sem, qE (hD.1 rfl _ rfl), k1, k2, k3, k4, k5, k6, k7, k8, k9, y1, y2, y3, y4, y5]
  case s4 =>
    refine qV (fun _ => rfl) rfl fun av wv hE hO hD => ?_
    simp [go_sem, qE (hD.1 rfl _ rfl), k1, k2, k3, k4, k5, k6, k7, k8, k9, y1, y2, y3, y4, y5]
  case s5 =>
    refine qV (fun _ => rfl) rfl fun av wv hE hO hD => ?_
    simp [go_sem, qF av 1 (.pointer (some ⟨mb, 0, none⟩)) (hO.2.2 1 rfl), k1, k2, k3, k4, k5, k6, k7, k8, k9, y1, y2, y3, y4, y5]
  case s6 =>
    refine qV (fun _ => rfl) rfl fun av wv hE hO hD => ?_
    simp [go_sem, qE (hD.1 rfl _ rfl), extB_cell hE (by simp) m3, extB_cell hE (by simp) m4, extB_cell hE (by simp) m5, k1, k2, k3, k4, k5, k6, k7, k8, k9, y1, y2, y3, y4, y5]
  case s7 =>
    refine qV (fun _ => rfl) rfl fun av wv hE hO hD => ?_
    simp [go_sem, qE (hD.1 rfl _ rfl), k1, k2, k3, k4, k5, k6, k7, k8, k9, y1, y2, y3, y4, y5]
  case s8 =>
    refine qV (fun _ => rfl) rfl fun av wv hE hO hD => ?_
    simp [go_sem, qE (hD.1 rfl _ rfl), k1, k2, k3, k4, k5, k6, k7, k8, k9, y1, y2, y3, y4, y5]
  case s9 =>
    refine qV (fun _ => rfl) rfl fun av wv hE hO hD => ?_
    simp [go_sem, qF av 1 (.pointer (some ⟨mb, 0, none⟩)) (hO.2.2 1 rfl), k1, k2, k3, k4, k5, k6, k7, k8, k9, y1, y2, y3, y4, y5]
  case s10 =>
    refine qV (fun _ => rfl) rfl fun av wv hE hO hD => ?_
    simp [go_sem, qE (hD.1 rfl _ rfl), extB_cell hE (by simp) m3, extB_cell hE (by simp) m4, extB_cell hE (by simp) m5, k1, k2, k3, k4, k5, k6, k7, k8, k9, y1, y2, y3, y4, y5]
  case s11 =>
    refine qV (fun _ => rfl) rfl fun av wv hE hO hD => ?_
    simp [go_sem, qE (hD.1 rfl _ rfl), k1, k2, k3, k4, k5, k6, k7, k8, k9, y1, y2, y3, y4, y5]
  case s12 =>
    refine qV (fun _ => rfl) rfl fun av wv hE hO hD => ?_
    simp [go_sem, qE (hD.1 rfl _ rfl), k1, k2, k3, k4, k5, k6, k7, k8, k9, y1, y2, y3, y4, y5]
  case s13 =>
    refine qV (fun _ => rfl) rfl fun av wv hE hO hD => ?_
    simp [go_sem, qE (hD.1 rfl _ rfl), k1, k2, k3, k4, k5, k6, k7, k8, k9, y1, y2, y3, y4, y5]
  case s14 =>
    refine qV (fun _ => rfl) rfl fun av wv hE hO hD => ?_
    simp [go_sem, qE (hD.1 rfl _ rfl), k1, k2, k3, k4, k5, k6, k7, k8, k9, y1, y2, y3, y4, y5]
  intro a' w' hE hO hall
  have hA := act_of_outer (ds := [23, 24, 25, 26, 27, 28, 29, 30, 31, 32, 33, 34, 3, 4, 5]) rfl hO (by kernel_rfl)
  obtain ⟨j0, j1, j2, j3, j4, j5, j6, j7, j8, j9, j10, j11, j12, j13, j14, -⟩ := hall
  simp only [List.foldl_cons, List.foldl_nil, Act.put, List.setIfInBounds_toArray, List.set_cons_succ, List.set_cons_zero, qJ 23 (j0 _ rfl), qJ 24 (j1 _ rfl), qJ 25 (j2 _ rfl), qJ 26 (j3 _ rfl), qJ 27 (j4 _ rfl), qJ 28 (j5 _ rfl), qJ 29 (j6 _ rfl), qJ 30 (j7 _ rfl), qJ 31 (j8 _ rfl), qJ 32 (j9 _ rfl), qJ 33 (j10 _ rfl), qJ 34 (j11 _ rfl), qJ 3 (j12 _ rfl), qJ 4 (j13 _ rfl), qJ 5 (j14 _ rfl)] at hA
  clear hO j0 j1 j2 j3 j4 j5 j6 j7 j8 j9 j10 j11 j12 j13 j14
  subst hA
  have HBE := Lib.hid (of_drew hE)
  have HB2 := Lib.hid (bnext HB1.out HBE.out)
  have HM2 := (HBE.out.block _ (lt_of_block HMB.out)).trans HMB.out
  have m0 : w'.cell? ⟨mb, 0, none⟩ = some (.int .u8 (s : Nat)) := block_cell HM2 0
  have HMB2 := Lib.hid HM2
  clear hE m3 m4 m5 k1 k2 k3 k4 k5 k6 k7 k8 k9 y1 y2 y3 y4 y5 HM2 HBE HB1 HMB
  obtain ⟨i0, hi, hz0, hz1, hz2⟩ := info_parts info_str
  have HZ := Lib.hid hz0
  clear hz0
  go_wp2_with fail
  refine (text14_any s 32 w' HS.out (by decide)).mono ?_
  rintro e w3 ⟨rfl, hb⟩
  have HB4 := Lib.hid (bnext HB2.out hb)
  obtain ⟨seed, hseed⟩ : ∃ x, textN s 32 = x := ⟨_, rfl⟩
  have HSS : Hid (seed.size = 32) := Lib.hid (by rw [← hseed]; exact textN_size _ _)
  rw [hseed]
  clear hb hseed m0
  go_wp2_with fail
  refine (new14_any seed f L (K : Nat) w3 (by have := HKL.out; omega)).mono ?_
  rintro e w4 ⟨hn, hb⟩
  have hne : newE seed.size f L ((K : Nat) : Int) = 0 := by
    have h1 := HKL.out
    unfold newE
    have hm : mayL seed.size L ((K : Nat) : Int) = true := by
      unfold mayL
      simp [HSS.out]
      omega
    rw [if_pos hm, if_pos]
    rw [fitsL_iff (by omega) (by omega), Int.toNat_natCast]
    have : K * L ≤ 6 * 40 := Nat.mul_le_mul h1.2.1 h1.2.2.2.1
    omega
  rw [hne] at hn
  obtain ⟨h9, -⟩ | ⟨-, lb, tb, rfl, hl, -⟩ := hn
  · exact absurd rfl h9
  rw [Int.toNat_natCast] at hl
  have HL := Lib.hid hl
  have HB5 := Lib.hid (bnext HB4.out hb)
  clear hb hl hne
  have HML : Hid (∀ m, m ≤ K → m * L ≤ 240) := Lib.hid (fun m hm => by
    have h1 := HKL.out
    have : m * L ≤ 6 * 40 := Nat.mul_le_mul (by omega) h1.2.2.2.1
    omega)
  go_wp2
  go_loopg [9, 10, 11, 12, 13, 14] K (fun gg v a i _ _ _ wr => ∃ m : Nat, gg + m = K ∧ i = .int .i64 (m : Nat) ∧ a = .int .u64 ((f + m * L : Nat) : Int) ∧ Hid (Below w4.heap.size w4 wr) ∧ Hid (wr.ownsRow w4.heap.size 9 1 v m ((rungL seed m).map Value.string)))
  case atStart => exact ⟨0, by omega, rfl, by rw [Nat.zero_mul]; rfl, Lib.hid (Below.refl _ _), Lib.hid (World.ownsRow_nil _ _ _ _)⟩
  case round =>
    obtain ⟨m, hm, rfl, rfl, HW, HO⟩ := hrel
    by_cases hlt : m < K
    · have b0 : (m : Int) < (K : Int) := by omega
      have k2 : IntKind.u64.wrap ((m : Nat) : Int) = (m : Int) := IntWalk.u64_in _ (by have := HKL.out; omega)
      obtain ⟨t0, ht0⟩ : ∃ t0, f + m * L = t0 := ⟨_, rfl⟩
      rw [ht0]
      have HT0 := Lib.hid ht0
      have HM := Lib.hid hm
      have HLT := Lib.hid hlt
      clear hm hlt ht0
      go_wp2_with fail
      refine (dnum_any m wr (by have := HLT.out; have := HKL.out; omega)).mono ?_
      rintro e w5 ⟨rfl, hb⟩
      have HW2 := Lib.hid (bnext HW.out hb)
      have HO2 := Lib.hid (own_below HO.out hb)
      clear hb
      go_wp2_with fail
      refine (public_any seed m w5 (by have := HLT.out; have := HKL.out; omega) (by rw [HSS.out]; decide)).mono ?_
      rintro e w6 ⟨rfl, hb⟩
      have HW3 := Lib.hid (bnext HW2.out hb)
      have HO3 := Lib.hid (own_below HO2.out hb)
      have qs : (num8S m).size + (publicP seed m).size ≤ 9223372036854775807 := by rw [num8S_size, publicP_size]; decide
      obtain ⟨P, hP⟩ : ∃ P, num8S m = P := ⟨_, rfl⟩
      obtain ⟨Q, hQ⟩ : ∃ Q, publicP seed m = Q := ⟨_, rfl⟩
      rw [hP, hQ] at qs
      rw [hP, hQ]
      have HY : Hid (rungP seed m = P ++ Q) := Lib.hid (by rw [← hP, ← hQ]; rfl)
      clear hb hP hQ
      go_wp2_with (at_builtin; refine wpList_append_own _ rfl _ _ 22 rfl w4.heap.size 9 i0 (.string ⟨#[]⟩) 1 16 Tryz.underlying22 hi HZ.out hz1 hz2 rfl (by decide) _ _ _ rfl (HO3.out.alloc _) ⟨w6.heap.size, 0, none⟩ 1 1 [.string (P ++ Q)] rfl rfl ?c1 ?c2 ?c3 ?c4 ?c5 ?_)
      case c1 => exact World.news_of_block (alloc_new_at _ rfl)
      case c2 => intro u hu; simp at hu; subst hu; rfl
      case c3 => unfold maxLen; have := HLT.out; have := HKL.out; omega
      case c4 => have := HLT.out; have := HKL.out; omega
      case c5 => have := HW3.out.size; simp; omega
      intro v' w7 hown' hgrow _
      have HW4 : Hid (Below w4.heap.size w4 w7) := Lib.hid (grownBy_below (balloc HW3.out _) hgrow (fun k9 hk' => (HO3.out.lt k9 hk').1))
      have HO4 : Hid (w7.ownsRow w4.heap.size 9 1 v' (m + 1) ((rungL seed (m + 1)).map Value.string)) := Lib.hid (by
        unfold rungL
        rw [chL_snoc, List.map_append, HY.out]
        exact hown')
      clear hown' hgrow qs k2
      go_wp2
      obtain ⟨GK, hGK⟩ : ∃ G, G = gk := ⟨_, rfl⟩
      subst hGK
      go_loopg [10, 12, 13, 14] L (fun gg a i _ _ wx => ∃ q9 : Nat, gg + q9 = L ∧ i = .int .u64 (q9 : Nat) ∧ a = .int .u64 ((t0 + q9 : Nat) : Int) ∧ Hid (Below w7.heap.size w7 wx))
      case atStart => exact ⟨0, by omega, rfl, rfl, Lib.hid (Below.refl _ _)⟩
      case round =>
        obtain ⟨q9, hq9, rfl, rfl, HX⟩ := hrel
        by_cases hqt : q9 < L
        · have b1 : (q9 : Int) < (L : Int) := by omega
          have HKY : Hid (keyO f L K (t0 + q9) = some m) := Lib.hid (by
            rw [← HT0.out, Nat.add_assoc]
            exact keyO_at HLT.out hqt)
          have hr9 : t0 + q9 < 18446744073709551616 := by have h1 := HML.out (m + 1) (by have := HLT.out; omega); have h2 := HT0.out; have h3 := HKL.out; rw [Nat.add_mul] at h1; omega
          have hkk := lkeyM_any seed f L K lb tb (t0 + q9) wr (HL.out.below (bnext HW4.out HX.out)) (by have := HKL.out; omega) hr9 (by have := HKL.out; omega)
          rw [HKY.out] at hkk
          have HKK := Lib.hid hkk
          have k2 : IntKind.u64.wrap ((m : Nat) : Int) = (m : Int) := IntWalk.u64_in _ (by have := HLT.out; have := HKL.out; omega)
          obtain ⟨t9, ht9⟩ : ∃ t9, t0 + q9 = t9 := ⟨_, rfl⟩
          rw [ht9] at HKK hr9
          rw [ht9]
          have HT9 := Lib.hid ht9
          have k3 : IntKind.u64.wrap (((t9 : Nat) : Int) + 1) = (t9 : Int) + 1 := IntWalk.u64_in _ (by have h1 := HML.out (m + 1) (by have := HLT.out; omega); have h2 := HT0.out; have h3 := HKL.out; rw [Nat.add_mul] at h1; omega)
          have k4 : IntKind.u64.wrap (((q9 : Nat) : Int) + 1) = (q9 : Int) + 1 := IntWalk.u64_in _ (by have := HKL.out; omega)
          have HQ := Lib.hid hq9
          have HQT := Lib.hid hqt
          clear hkk ht9 hr9 hq9 hqt
          go_wp2_with fail
          refine HKK.out.mono ?_
          rintro e w8 ⟨rfl, hb⟩
          have HX2 := Lib.hid (bnext HX.out hb)
          unfold keyV
          dsimp only [Option.getD, Option.isSome]
          clear hb
          go_wp2
          go_roundg (gk - 1)
          case rel => exact ⟨q9 + 1, by have := HQ.out; have := HQT.out; omega, by go_num, by rw [← Nat.add_assoc, HT9.out]; go_num, HX2⟩
          case measure => have := HQ.out; have := HQT.out; omega
        · obtain rfl : q9 = L := by omega
          have b1 : ¬ ((q9 : Nat) : Int) < (q9 : Int) := by omega
          have HOX := Lib.hid (own_below HO4.out HX.out)
          have HWX := Lib.hid (bnext HW4.out HX.out)
          have HT1 : Hid (t0 + q9 = f + (m + 1) * q9) := Lib.hid (by rw [← HT0.out, Nat.add_mul]; omega)
          go_wp2
          go_roundg (GK - 1)
          case rel => exact ⟨m + 1, by have := HM.out; have := HLT.out; omega, congrArg (Value.int .i64) (by have := HLT.out; have := HKL.out; rw [IntWalk.wrap64_in _ (by omega)]; omega), by rw [← HT1.out]; rfl, HWX, HOX⟩
          case measure => have := HM.out; have := HLT.out; omega
    · obtain rfl : m = K := by omega
      have b0 : ¬ ((m : Nat) : Int) < (m : Int) := by omega
      obtain ⟨E, hE9⟩ : ∃ E, f + m * L = E := ⟨_, rfl⟩
      rw [hE9]
      have HEE := Lib.hid hE9
      have HL2 := Lib.hid (HL.out.below HW.out)
      have hEb : E < 18446744073709551616 := by have := HML.out m (Nat.le_refl _); have := HKL.out; omega
      have HKE : Hid (keyO f L m E = none) := Lib.hid (keyO_end (by have := HKL.out; omega) (by rw [← hE9, Nat.mul_comm]; exact Nat.le_refl _))
      obtain ⟨g, hg⟩ : ∃ g : Nat, IntKind.u64.wrap (((f : Nat) : Int) - 1) = (g : Int) ∧ g < 18446744073709551616 ∧ keyO f L m g = none := by
        have h1 := HKL.out
        by_cases hf0 : f = 0
        · subst hf0
          refine ⟨18446744073709551615, by decide, by decide, keyO_high (by omega) ?_⟩
          rw [Nat.le_div_iff_mul_le (by omega)]
          have := HML.out m (Nat.le_refl _)
          omega
        · refine ⟨f - 1, ?_, by omega, keyO_low (by omega)⟩
          rw [IntWalk.u64_in _ (by omega)]
          omega
      have k5 := hg.1
      have hk1 := lkeyM_any seed f L m lb tb g wr HL2.out (by have := HKL.out; omega) hg.2.1 (by have := HKL.out; omega)
      rw [hg.2.2] at hk1
      have HK1 := Lib.hid hk1
      have HK2 : Hid (∀ wx, Below wr.heap.size wr wx → Calls Tryz.prog 37 #[.pointer (some ⟨lb, 0, none⟩), .int .u64 (E : Nat)] wx fun e w' => e = .returned (keyV none) ∧ Below wx.heap.size wx w') := Lib.hid (fun wx hx => by
        have hk2 := lkeyM_any seed f L m lb tb E wx (HL2.out.below hx) (by have := HKL.out; omega) hEb (by have := HKL.out; omega)
        rw [HKE.out] at hk2
        exact hk2)
      have HRG := Lib.hid (TextsAre.own HO.out)
      clear hk1 hE9 hEb hg hm hlt
      go_wp2_with fail
      refine HK1.out.mono ?_
      rintro e w8 ⟨rfl, hb⟩
      have HX1 := Lib.hid hb
      unfold keyV
      dsimp only [Option.getD, Option.isSome]
      clear hb
      go_wp2_with fail
      refine (HK2.out w8 HX1.out).mono ?_
      rintro e w9 ⟨rfl, hb⟩
      have HX2 := Lib.hid (bnext HX1.out hb)
      unfold keyV
      dsimp only [Option.getD, Option.isSome]
      clear hb k5
      obtain ⟨aa, ca, hv, hta, hca, -⟩ := HRG.out.below HX2.out
      rw [rungL_len] at hv
      subst hv
      have hbl := build_any (rungL seed m) aa ca w9 hta (by rw [rungL_len]; have := HKL.out; omega) (fun i hi => by rw [rungL_len] at hi; rw [rungL_at _ _ _ hi, rungP_size]; decide)
      rw [rungL_len] at hbl
      have HBL := Lib.hid hbl
      clear hbl hta hca
      go_wp2_with fail
      refine HBL.out.mono ?_
      rintro e w10 ⟨tb2, rfl, htb, htr, hb⟩
      have HTR := Lib.hid htr
      have HX3 := Lib.hid (bnext HX2.out hb)
      clear htb htr hb
      go_wp2_with fail
      have hro := root_any (rungL seed m) tb2 w10 HTR.out
      obtain ⟨X, hX⟩ : ∃ X, ladR seed m = X := ⟨_, rfl⟩
      have hro2 : Calls Tryz.prog 42 #[.pointer (some ⟨tb2, 0, none⟩)] w10 fun e w' => e = .returned (.string X) ∧ w10 = w' := by rw [← hX]; exact hro
      have HLR := Lib.hid (lroot14_any seed f L m lb tb w10 (HL2.out.below HX3.out))
      rw [hX] at HLR
      have e9 : (X.toList == X.toList) = true := by rw [str_beq]; exact decide_eq_true rfl
      refine hro2.mono ?_
      rintro e w11 ⟨rfl, rfl⟩
      clear hro hro2 hX
      go_wp2_with fail
      refine HLR.out.mono ?_
      rintro e w12 ⟨rfl, hb⟩
      have HX4 := Lib.hid (bnext HX3.out hb)
      clear hb
      go_wp2
      go_ret
      exact ⟨rfl, HB5.out.trans ((bnext HW.out HX4.out).mono HB5.out.size)⟩
end Go.Proofs.YtoafjbillcooiaaGreat
namespace Go.Proofs.YtoafjbillcooiaaGreat
set_option linter.unusedSimpArgs false
set_option linter.unusedVariables false
open Go.RowKit Go.ChangeShapes Go.WideShapes Go.ChangeAt Go.Deep
section
variable {H : Type} {enc : TypeId × Value → H} {P : Program} {w : World}
theorem below_trodAll (hl : laidOutB P = true) {W W' : World} (hb : Below W.heap.size W W') : ∀ {ts : List TypeId} {vs : List Value} {ds : List (DataW H)} {ps : List MemPlace},
    (∀ t ∈ ts, P.readableRec t = true ∧ t < P.types.size) → DataW.TrodAll enc P W 0 (fun _ => true) true ts vs ds ps → DataW.TrodAll enc P W' 0 (fun b => decide (b < W.heap.size)) true ts vs ds ps
  | [], vs, ds, ps, _, h => by
    obtain ⟨rfl, rfl, rfl⟩ := trodAll_nil h
    exact trodAll_mk0
  | t :: ts, vs, ds, ps, ht, h => by
    obtain ⟨v, vs', d, ds', p, q, rfl, rfl, rfl, h0, r0⟩ := trodAll_cons h
    have lt0 : ∀ x ∈ p, x.block < W.heap.size := by obtain ⟨m, hm⟩ := h0; exact DataW.trod_lt m _ _ _ hm
    exact trodAll_cons_mk (Below.trod hl (ht t (List.mem_cons_self ..)).1 (ht t (List.mem_cons_self ..)).2 h0 hb lt0) (below_trodAll hl hb (fun t' h' => ht t' (List.mem_cons_of_mem _ h')) r0)
theorem cell_read {n : Nat} {e : TypeId} {k : IntKind} {v : Value} {y : DataW H × List MemPlace} (he : P.underlying e = some (.int k)) (h : DataW.trod enc P w 0 (fun _ => true) true n e [v] = some y) : ∃ x, v = .int k x ∧ (Lit.int k x).wf = true := by
  obtain ⟨x, hx, _, hw⟩ := DataW.trod_int he h
  exact ⟨x, by simpa using hx, hw⟩
theorem wf_u64 {x : Int} (h : (Lit.int .u64 x).wf = true) : 0 ≤ x ∧ x < 18446744073709551616 := by
  simp [Lit.wf, IntKind.min, IntKind.max, IntKind.bits, IntKind.signed] at h; omega
theorem wf_u8 {x : Int} (h : (Lit.int .u8 x).wf = true) : 0 ≤ x ∧ x ≤ 255 := by
  simp [Lit.wf, IntKind.min, IntKind.max, IntKind.bits, IntKind.signed] at h; omega
end
end Go.Proofs.YtoafjbillcooiaaGreat
namespace Go.Proofs.YtoafjbillcooiaaGreat
set_option linter.unusedSimpArgs false
set_option linter.unusedVariables false
open Go.RowKit Go.ChangeShapes Go.WideShapes Go.ChangeAt
theorem own : ownKnob Tryz.prog.godebug = none := by kernel_rfl
theorem laidOut : laidOutB Tryz.prog = true := by kernel_rfl
end Go.Proofs.YtoafjbillcooiaaGreat
namespace Go.Proofs.YtoafjbillcooiaaGreat
set_option linter.unusedSimpArgs false
set_option linter.unusedVariables false
open Go.RowKit Go.ChangeShapes Go.WideShapes Go.ChangeAt Go.ChangeMaps
section
variable {P : Program} {H : Type} {enc : TypeId × Value → H} {w : World}
theorem wf_i64 {x : Int} (h : (Lit.int .i64 x).wf = true) : -9223372036854775808 ≤ x ∧ x ≤ 9223372036854775807 := by
  simp [Lit.wf, IntKind.min, IntKind.max, IntKind.bits, IntKind.signed] at h; omega
end
end Go.Proofs.YtoafjbillcooiaaGreat
namespace Go.Proofs.YtoafjbillcooiaaGreat
open Go.RowKit Go.ChangeShapes Go.WideShapes Go.ChangeAt Go.Deep Go.ChangeMaps
set_option linter.unusedSimpArgs false
set_option linter.unusedVariables false
set_option maxRecDepth 100000 in
theorem open_made {H : Type} {enc : TypeId × Value → H} {w : World} {v : Value} {d : DataW H} {p : List MemPlace} {r : Reach} {base : Nat} (hv : Value.okWide Tryz.prog w r base 50 v) (h : DataW.Trod enc Tryz.prog w 0 (fun _ => true) true 50 v d p) :
    ∃ (s d9 z F L : Nat) (K : Int) (R wt : Nat), v = .agg (madeV s d9 z F L K R wt).toArray ∧ s ≤ 255 ∧ d9 ≤ 255 ∧ z ≤ 255 ∧ F < 18446744073709551616 ∧ L < 18446744073709551616 ∧ (-9223372036854775808 ≤ K ∧ K ≤ 9223372036854775807) ∧ R < 18446744073709551616 ∧ wt < 18446744073709551616 := by
  obtain ⟨cs', rfl, hsz⟩ := okWide_struct Tryz.underlying50 hv
  have hsz' : cs'.size = 8 := hsz.trans (by kernel_rfl)
  obtain ⟨l⟩ := cs'
  match l, hsz' with
  | [v0, v1, v2, v3, v4, v5, v6, v7], _ =>
    obtain ⟨fuel, hf⟩ := h
    obtain ⟨xs, m, _, _, _, hxl, hx⟩ := DataW.trod_struct Tryz.underlying50 hf
    have hxl' : xs.length = 8 := hxl
    simp only [Value.cells] at hx
    have h0 : DataW.trod enc Tryz.prog w 0 (fun _ => true) true m 5 (([v0, v1, v2, v3, v4, v5, v6, v7].drop 0).take (Tryz.prog.cellsOf 5)) = xs[0]? := hx 0 _ rfl
    rw [show Tryz.prog.cellsOf 5 = 1 by kernel_rfl] at h0
    have h1 : DataW.trod enc Tryz.prog w 0 (fun _ => true) true m 5 (([v0, v1, v2, v3, v4, v5, v6, v7].drop 1).take (Tryz.prog.cellsOf 5)) = xs[1]? := hx 1 _ rfl
    rw [show Tryz.prog.cellsOf 5 = 1 by kernel_rfl] at h1
    have h2 : DataW.trod enc Tryz.prog w 0 (fun _ => true) true m 5 (([v0, v1, v2, v3, v4, v5, v6, v7].drop 2).take (Tryz.prog.cellsOf 5)) = xs[2]? := hx 2 _ rfl
    rw [show Tryz.prog.cellsOf 5 = 1 by kernel_rfl] at h2
    have h3 : DataW.trod enc Tryz.prog w 0 (fun _ => true) true m 37 (([v0, v1, v2, v3, v4, v5, v6, v7].drop 3).take (Tryz.prog.cellsOf 37)) = xs[3]? := hx 3 _ rfl
    rw [show Tryz.prog.cellsOf 37 = 1 by kernel_rfl] at h3
    have h4 : DataW.trod enc Tryz.prog w 0 (fun _ => true) true m 37 (([v0, v1, v2, v3, v4, v5, v6, v7].drop 4).take (Tryz.prog.cellsOf 37)) = xs[4]? := hx 4 _ rfl
    rw [show Tryz.prog.cellsOf 37 = 1 by kernel_rfl] at h4
    have h5 : DataW.trod enc Tryz.prog w 0 (fun _ => true) true m 3 (([v0, v1, v2, v3, v4, v5, v6, v7].drop 5).take (Tryz.prog.cellsOf 3)) = xs[5]? := hx 5 _ rfl
    rw [show Tryz.prog.cellsOf 3 = 1 by kernel_rfl] at h5
    have h6 : DataW.trod enc Tryz.prog w 0 (fun _ => true) true m 37 (([v0, v1, v2, v3, v4, v5, v6, v7].drop 6).take (Tryz.prog.cellsOf 37)) = xs[6]? := hx 6 _ rfl
    rw [show Tryz.prog.cellsOf 37 = 1 by kernel_rfl] at h6
    have h7 : DataW.trod enc Tryz.prog w 0 (fun _ => true) true m 37 (([v0, v1, v2, v3, v4, v5, v6, v7].drop 7).take (Tryz.prog.cellsOf 37)) = xs[7]? := hx 7 _ rfl
    rw [show Tryz.prog.cellsOf 37 = 1 by kernel_rfl] at h7
    obtain ⟨n0, rfl, w0⟩ := cell_read Tryz.underlying5 (h0.trans (List.getElem?_eq_getElem (show 0 < xs.length by omega)))
    obtain ⟨n1, rfl, w1⟩ := cell_read Tryz.underlying5 (h1.trans (List.getElem?_eq_getElem (show 1 < xs.length by omega)))
    obtain ⟨n2, rfl, w2⟩ := cell_read Tryz.underlying5 (h2.trans (List.getElem?_eq_getElem (show 2 < xs.length by omega)))
    obtain ⟨n3, rfl, w3⟩ := cell_read Tryz.underlying37 (h3.trans (List.getElem?_eq_getElem (show 3 < xs.length by omega)))
    obtain ⟨n4, rfl, w4⟩ := cell_read Tryz.underlying37 (h4.trans (List.getElem?_eq_getElem (show 4 < xs.length by omega)))
    obtain ⟨n5, rfl, w5⟩ := cell_read Tryz.underlying3 (h5.trans (List.getElem?_eq_getElem (show 5 < xs.length by omega)))
    obtain ⟨n6, rfl, w6⟩ := cell_read Tryz.underlying37 (h6.trans (List.getElem?_eq_getElem (show 6 < xs.length by omega)))
    obtain ⟨n7, rfl, w7⟩ := cell_read Tryz.underlying37 (h7.trans (List.getElem?_eq_getElem (show 7 < xs.length by omega)))
    have u0 := wf_u8 w0
    have u1 := wf_u8 w1
    have u2 := wf_u8 w2
    have u3 := wf_u64 w3
    have u4 := wf_u64 w4
    have u5 := wf_i64 w5
    have u6 := wf_u64 w6
    have u7 := wf_u64 w7
    obtain ⟨s, rfl⟩ := Int.eq_ofNat_of_zero_le u0.1
    obtain ⟨d9, rfl⟩ := Int.eq_ofNat_of_zero_le u1.1
    obtain ⟨z, rfl⟩ := Int.eq_ofNat_of_zero_le u2.1
    obtain ⟨F, rfl⟩ := Int.eq_ofNat_of_zero_le u3.1
    obtain ⟨L, rfl⟩ := Int.eq_ofNat_of_zero_le u4.1
    obtain ⟨R, rfl⟩ := Int.eq_ofNat_of_zero_le u6.1
    obtain ⟨wt, rfl⟩ := Int.eq_ofNat_of_zero_le u7.1
    exact ⟨s, d9, z, F, L, n5, R, wt, rfl, by omega, by omega, by omega, by omega, by omega, u5, by omega, by omega⟩
end Go.Proofs.YtoafjbillcooiaaGreat
