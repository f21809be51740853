/- Parts of the proof, one behind the other. -/
import Derived.Test.YtoafjbillcooiaaGreatLhoP3
import Derived.ProofKit
import Derived.OpenShut
import Derived.ShutString
import Derived.ChangeOld
import Derived.Deep.Slices
import Derived.Deep.Fields
import Derived.ChangeMaps5
namespace Go.Proofs.YtoafjbillcooiaaGreat
open Go.RowKit
set_option linter.unusedSimpArgs false
set_option linter.unusedVariables false
theorem ladR_one (seed : ByteArray) : ladR seed 1 = hashP leafT [num8S 0 ++ publicP seed 0] := by
  unfold ladR treeR
  have e : depN (rungL seed 1) = 0 := by unfold depN; rw [rungL_len]; rfl
  rw [e]
  unfold plD
  have e2 : revOf 0 0 = 0 := rfl
  rw [e2, if_pos (by rw [rungL_len]; decide), rungL_at _ _ _ (by decide)]
  rfl
theorem wk_new : newE 32 7 3 1 = 0 := by decide
theorem wk_key7 : keyO 7 3 1 7 = some 0 := by decide
theorem wk_key9 : keyO 7 3 1 9 = some 0 := by decide
theorem wk_key10 : keyO 7 3 1 10 = none := by decide
theorem wk_ver (seed dg : ByteArray) (hd : dg.size = 32) (r : Nat) : verE (ladR seed 1) 7 3 1 r dg (signD seed 7 3 1 9 dg) = match keyO 7 3 1 r with | none => 16 | some j => if j = 0 then 0 else 10 :=
  holds_verE hd (by decide) (by decide) (by decide) wk_key9
theorem SignIs.lit {S : SigD} {E : Int} {w w' : World} {e : Ending} (h : SignIs S E w e w') : ∃ wa wc pa pc, e = .returned (.tuple #[.agg #[.int .u64 S.ix, .slice wa (len S.ws) wc, .slice pa (len S.ps) pc], .int .i64 E]) ∧ Txts w' wa S.ws ∧ Txts w' pa S.ps ∧ len S.ps ≤ pc ∧ Below w.heap.size w w' := by
  obtain ⟨v, p, rfl, ⟨wa, wc, rfl, h1, -⟩, ⟨pa, pc, rfl, h2, h3, -⟩, hb⟩ := h
  exact ⟨wa, wc, pa, pc, rfl, h1, h2, h3, hb⟩
set_option maxRecDepth 100000 in
set_option maxHeartbeats 8000000 in
theorem works14_any (w : World) : Calls Tryz.prog 29 #[] w fun e w' => e = .returned (.bool true) ∧ Below w.heap.size w w' := by
  go_enter Tryz.func29, Tryz.ntmps29
  go_wp2_with fail
  refine (text14_any 115 32 w (by decide) (by decide)).mono ?_
  rintro e w1 ⟨rfl, hb1⟩
  have HB1 := Lib.hid hb1
  clear hb1
  go_wp2_with fail
  refine (text14_any 100 32 w1 (by decide) (by decide)).mono ?_
  rintro e w2 ⟨rfl, hb2⟩
  have HB2 := Lib.hid (bnext HB1.out hb2)
  obtain ⟨seed, hseed⟩ : ∃ s, textN 115 32 = s := ⟨_, rfl⟩
  obtain ⟨dg, hdg⟩ : ∃ s, textN 100 32 = s := ⟨_, rfl⟩
  have HSS : Hid (seed.size = 32) := Lib.hid (by rw [← hseed]; exact textN_size _ _)
  have HDS : Hid (dg.size = 32) := Lib.hid (by rw [← hdg]; exact textN_size _ _)
  rw [hseed, hdg]
  clear hb2 hseed hdg
  go_wp2_with fail
  refine (new14_any seed 7 3 1 w2 (by decide)).mono ?_
  rintro e w3 ⟨hn, hb3⟩
  have HB3 := Lib.hid (bnext HB2.out hb3)
  rw [HSS.out, wk_new] at hn
  obtain ⟨h9, -⟩ | ⟨-, lb, tb, rfl, hl, -⟩ := hn
  · exact absurd rfl h9
  have HL : Hid (LadAt seed 7 3 1 lb tb w3) := Lib.hid hl
  clear hb3 hl
  go_wp2_with fail
  have hsg := sign14_any seed dg 7 3 1 lb tb 9 w3 HL.out (by decide) (by decide) (by decide) (by decide) (by rw [HSS.out]; decide)
  refine hsg.mono ?_
  rintro e w4 hs
  obtain ⟨wa, wc, pa, pc, rfl, htw, htp, hpc, hb4⟩ := hs.lit
  have hsd := signD_ok (seed := seed) (d := dg) wk_key9 HDS.out
  have HV := Lib.hid (wk_ver seed dg HDS.out)
  obtain ⟨ws, hws⟩ : ∃ ws, (signD seed 7 3 1 9 dg).ws = ws := ⟨_, rfl⟩
  obtain ⟨ps, hps⟩ : ∃ ps, (signD seed 7 3 1 9 dg).ps = ps := ⟨_, rfl⟩
  have hix : (signD seed 7 3 1 9 dg).ix = 0 := by rw [hsd.1]; rfl
  have HSD : Hid (signD seed 7 3 1 9 dg = ⟨0, ws, ps⟩) := Lib.hid (by rw [← hws, ← hps, ← hix])
  have hl67 : len ws = 67 := by rw [← hws, hsd.1]; show len (sgL seed 0 dg) = 67; unfold sgL; rw [if_pos HDS.out]; exact chL_len _ _
  have hl0 : len ps = 0 := by rw [← hps, hsd.1]; show len (oneD (rungL seed 1) 0) = 0; rw [oneD_len (by rw [rungL_len]; decide)]; unfold depN; rw [rungL_len]; rfl
  rw [hws, hps, hix, hsd.2, hl67, hl0]
  rw [hws] at htw
  rw [hps] at htp hpc
  have HL67 := Lib.hid hl67
  have HL0 := Lib.hid hl0
  have HTW := Lib.hid htw
  have HTP := Lib.hid htp
  have HB4 := Lib.hid (bnext HB3.out hb4)
  have HL4 := Lib.hid (HL.out.below hb4)
  clear hsg hs hsd hws hps hix hl67 hl0 htw htp hpc hb4
  go_upto_region 6 with fail
  obtain ⟨sb, hsb⟩ : ∃ sb, w4.heap.size = sb := ⟨_, rfl⟩
  obtain ⟨V, hV⟩ : ∃ V, w4.alloc (.cells #[.int .u64 0, .slice wa 67 wc, .slice pa 0 pc] 54) = V := ⟨_, rfl⟩
  have HSB : Hid (V.heap[sb]? = some (.cells #[.int .u64 0, .slice wa 67 wc, .slice pa 0 pc] 54 (0, 0))) := Lib.hid (by rw [← hV]; exact alloc_new_at _ hsb)
  have hbv : Below w4.heap.size w4 V := by rw [← hV]; exact balloc (Below.refl _ _) _
  have HBV := Lib.hid (bnext HB4.out hbv)
  have HLV := Lib.hid (HL4.out.below hbv)
  have HTWV := Lib.hid (HTW.out.below hbv)
  have HTPV := Lib.hid (HTP.out.below hbv)
  rw [hV, hsb]
  clear hV hsb hbv
  go_wp2_with fail
  refine (lpart_any seed 7 3 1 lb tb 5 V HLV.out).mono ?_
  rintro e w5 ⟨rfl, hb5⟩
  obtain ⟨RT, hrt⟩ : ∃ rt, ladR seed 1 = rt := ⟨_, rfl⟩
  rw [hrt]
  have HSB5 := Lib.hid ((hb5.block _ (lt_of_block HSB.out)).trans HSB.out)
  have HB5 := Lib.hid (bnext HBV.out hb5)
  have HL5 := Lib.hid (HLV.out.below hb5)
  have HTW5 := Lib.hid (HTWV.out.below hb5)
  have HTP5 := Lib.hid (HTPV.out.below hb5)
  have HV9 := HV.out
  rw [hrt, HSD.out] at HV9
  have HVV := Lib.hid HV9
  have HRQ := Lib.hid (ladR_one seed)
  rw [hrt] at HRQ
  have HLR : Hid (∀ wv lb' tb', LadAt seed 7 3 1 lb' tb' wv → Calls Tryz.prog 35 #[.pointer (some ⟨lb', 0, none⟩)] wv fun e w' => e = .returned (.string RT) ∧ Below wv.heap.size wv w') := Lib.hid (fun wv b1 b2 h => by rw [← hrt]; exact lroot14_any seed 7 3 1 b1 b2 wv h)
  clear hb5 HV9 hrt
  go_upto_region 7 with fail
  obtain ⟨pb, hpb⟩ : ∃ pb, w5.heap.size = pb := ⟨_, rfl⟩
  obtain ⟨W, hW⟩ : ∃ W, w5.alloc (.cells #[.string RT, .int .u64 5, .int .u64 7, .int .u64 3, .int .u64 1] 62) = W := ⟨_, rfl⟩
  have hpw : W.heap[pb]? = some (.cells #[.string RT, .int .u64 5, .int .u64 7, .int .u64 3, .int .u64 1] 62 (0, 0)) := by rw [← hW]; exact alloc_new_at _ hpb
  have hbw : Below w5.heap.size w5 W := by rw [← hW]; exact balloc (Below.refl _ _) _
  have hsw := (hbw.block _ (lt_of_block HSB5.out)).trans HSB5.out
  have s0 : W.cell? ⟨sb, 0, none⟩ = some (.int .u64 0) := block_cell hsw 0
  have s1 : W.cell? ⟨sb, 1, none⟩ = some (.slice wa 67 wc) := block_cell hsw 1
  have s2 : W.cell? ⟨sb, 2, none⟩ = some (.slice pa 0 pc) := block_cell hsw 2
  have t0 : W.cell? ⟨pb, 0, none⟩ = some (.string RT) := block_cell hpw 0
  have t1 : W.cell? ⟨pb, 1, none⟩ = some (.int .u64 5) := block_cell hpw 1
  have t2 : W.cell? ⟨pb, 2, none⟩ = some (.int .u64 7) := block_cell hpw 2
  have t3 : W.cell? ⟨pb, 3, none⟩ = some (.int .u64 3) := block_cell hpw 3
  have t4 : W.cell? ⟨pb, 4, none⟩ = some (.int .u64 1) := block_cell hpw 4
  have HBW := Lib.hid (bnext HB5.out hbw)
  have HLW := Lib.hid (HL5.out.below hbw)
  have HTWW := Lib.hid (HTW5.out.below hbw)
  have HTPW := Lib.hid (HTP5.out.below hbw)
  rw [hW, hpb]
  clear hW hpb hpw hbw hsw
  obtain ⟨P, hP⟩ : ∃ P, num8S 0 = P := ⟨_, rfl⟩
  obtain ⟨Q, hQ⟩ : ∃ Q, publicP seed 0 = Q := ⟨_, rfl⟩
  have qz : P.size + Q.size ≤ 9223372036854775807 := by rw [← hP, ← hQ, num8S_size, publicP_size]; decide
  have qb : (RT.toList == RT.toList) = true := by rw [str_beq]; exact decide_eq_true rfl
  have HRT : Hid (∀ wv, Below W.heap.size W wv → Calls Tryz.prog 35 #[.pointer (some ⟨lb, 0, none⟩)] wv fun e w' => e = .returned (.string RT) ∧ Below wv.heap.size wv w') := Lib.hid (fun wv hb => HLR.out wv lb tb (HLW.out.below hb))
  have HNM : Hid (∀ wv, Calls Tryz.prog 40 #[.int .u64 0] wv fun e w' => e = .returned (.string P) ∧ Below wv.heap.size wv w') := Lib.hid (fun wv => by rw [← hP]; exact dnum_any 0 wv (by decide))
  have HPB : Hid (∀ wv, Calls Tryz.prog 41 #[.string seed, .int .u64 0] wv fun e w' => e = .returned (.string Q) ∧ Below wv.heap.size wv w') := Lib.hid (fun wv => by rw [← hQ]; exact public_any seed 0 wv (by decide) (by rw [HSS.out]; decide))
  have HHS : Hid (∀ wv b, wv.heap[b]? = some (.cells #[.string (P ++ Q)] 9 (0, 0)) → Calls Tryz.prog 53 #[.string leafT, .slice (some ⟨b, 0, none⟩) 1 1] wv fun e w' => e = .returned (.string RT) ∧ Below wv.heap.size wv w') := Lib.hid (fun wv b h => by
    rw [HRQ.out, hP, hQ]
    exact hash_any leafT [P ++ Q] (some ⟨b, 0, none⟩) 1 wv (by decide) (by decide) (txts1 h) (by
      have e : (P ++ Q).size = 40 := by rw [ByteArray.size_append, ← hP, ← hQ, num8S_size, publicP_size]
      simp [partsL, partL_len, e]))
  have hver : ∀ r, r < 18446744073709551616 → ∀ wv, Below W.heap.size W wv → Calls Tryz.prog 27 #[.agg #[.string RT, .int .u64 5, .int .u64 7, .int .u64 3, .int .u64 1], .int .u64 (r : Nat), .string dg, .agg #[.int .u64 0, .slice wa 67 wc, .slice pa 0 pc]] wv fun e w' => e = .returned (.int .i64 (verE RT 7 3 1 r dg ⟨0, ws, ps⟩)) ∧ Below wv.heap.size wv w' := fun r hr wv hb => by
    have h9 := verify_any RT dg 5 7 3 1 r 0 ws ps wa pa wc pc wv (HTWW.out.below hb) (HTPW.out.below hb) (by decide) hr (by rw [HL67.out]; decide) (by rw [HL0.out]; decide) (by rw [HL0.out]; exact Nat.zero_le _)
    rw [HL67.out, HL0.out] at h9
    exact h9
  have HV7 : Hid (∀ wv, Below W.heap.size W wv → Calls Tryz.prog 27 #[.agg #[.string RT, .int .u64 5, .int .u64 7, .int .u64 3, .int .u64 1], .int .u64 7, .string dg, .agg #[.int .u64 0, .slice wa 67 wc, .slice pa 0 pc]] wv fun e w' => e = .returned (.int .i64 0) ∧ Below wv.heap.size wv w') := Lib.hid (fun wv hb => by
    have h9 := hver 7 (by decide) wv hb
    rw [HVV.out 7, wk_key7] at h9
    exact h9)
  have HV10 : Hid (∀ wv, Below W.heap.size W wv → Calls Tryz.prog 27 #[.agg #[.string RT, .int .u64 5, .int .u64 7, .int .u64 3, .int .u64 1], .int .u64 10, .string dg, .agg #[.int .u64 0, .slice wa 67 wc, .slice pa 0 pc]] wv fun e w' => e = .returned (.int .i64 16) ∧ Below wv.heap.size wv w') := Lib.hid (fun wv hb => by
    have h9 := hver 10 (by decide) wv hb
    rw [HVV.out 10, wk_key10] at h9
    exact h9)
  clear hver hP hQ
  refine wp_region_all 1000 (none) (phis [fun u _ => u = (.pointer (some ⟨lb, 0, none⟩)), fun u _ => u = (.string RT), fun u _ => u = (.string P), fun u _ => u = (.string seed), fun u _ => u = (.string Q), fun u _ => u = (.string (P ++ Q)), fun u w' => ∃ b, u = .slice (some ⟨b, 0, none⟩) 1 1 ∧ w'.heap[b]? = some (.cells #[.string (P ++ Q)] 9 (0, 0)), fun u _ => u = (.string RT), fun u _ => u = (.bool true), fun u _ => u = (.bool true), fun u _ => u = (.int .i64 0), fun u _ => u = (.bool true), fun u _ => u = (.bool true), fun u _ => u = (.bool true), fun u _ => u = (.pointer (some ⟨sb, 1, none⟩)), fun u _ => u = (.slice wa 67 wc), fun u _ => u = (.int .i64 67), fun u _ => u = (.bool true), fun u _ => u = (.bool true), fun u _ => u = (.bool true), fun u _ => u = (.pointer (some ⟨sb, 2, none⟩)), fun u _ => u = (.slice pa 0 pc), fun u _ => u = (.int .i64 0), fun u _ => u = (.bool true), fun u _ => u = (.bool true), fun u _ => u = (.bool true), fun u _ => u = (.agg #[.string RT, .int .u64 5, .int .u64 7, .int .u64 3, .int .u64 1]), fun u _ => u = (.pointer (some ⟨lb, 0, none⟩)), fun u _ => u = (.string RT), fun u _ => u = (.agg #[.string RT, .int .u64 5, .int .u64 7, .int .u64 3, .int .u64 1]), fun u _ => u = (.bool true), fun u _ => u = (.bool true), fun u _ => u = (.bool true), fun u _ => u = (.agg #[.string RT, .int .u64 5, .int .u64 7, .int .u64 3, .int .u64 1]), fun u _ => u = (.string dg), fun u _ => u = (.agg #[.int .u64 0, .slice wa 67 wc, .slice pa 0 pc]), fun u _ => u = (.int .i64 0), fun u _ => u = (.bool true), fun u _ => u = (.bool true), fun u _ => u = (.bool true), fun u _ => u = (.agg #[.string RT, .int .u64 5, .int .u64 7, .int .u64 3, .int .u64 1]), fun u _ => u = (.string dg), fun u _ => u = (.agg #[.int .u64 0, .slice wa 67 wc, .slice pa 0 pc]), fun u _ => u = (.int .i64 16), fun u _ => u = (.bool true), fun u _ => u = (.bool true), fun u _ => u = (.bool true)]) rfl (by kernel_rfl) (mono_of ⟨mono_eq, mono_eq, mono_eq, mono_eq, mono_eq, mono_eq, ?m6, mono_eq, mono_eq, mono_eq, mono_eq, mono_eq, mono_eq, mono_eq, mono_eq, mono_eq, mono_eq, mono_eq, mono_eq, mono_eq, mono_eq, mono_eq, mono_eq, mono_eq, mono_eq, mono_eq, mono_eq, mono_eq, mono_eq, mono_eq, mono_eq, mono_eq, mono_eq, mono_eq, mono_eq, mono_eq, mono_eq, mono_eq, mono_eq, mono_eq, mono_eq, mono_eq, mono_eq, mono_eq, mono_eq, mono_eq, mono_eq, trivial⟩) (steps_of 47 ⟨?s0, ?s1, ?s2, ?s3, ?s4, ?s5, ?s6, ?s7, ?s8, ?s9, ?s10, ?s11, ?s12, ?s13, ?s14, ?s15, ?s16, ?s17, ?s18, ?s19, ?s20, ?s21, ?s22, ?s23, ?s24, ?s25, ?s26, ?s27, ?s28, ?s29, ?s30, ?s31, ?s32, ?s33, ?s34, ?s35, ?s36, ?s37, ?s38, ?s39, ?s40, ?s41, ?s42, ?s43, ?s44, ?s45, ?s46, trivial⟩) ?_
  case m6 =>
    exact ⟨fun u w1 w' h ⟨b, h1, hb⟩ => ⟨b, h1, ext_block h hb⟩, fun _ u w1 w' h ⟨b, h1, hb⟩ => ⟨b, h1, extB_block h (by simp) hb⟩⟩
  case s0 =>
    refine qV (fun _ => rfl) rfl fun av wv hE hO hD => ?_
    simp [go_sem, qF av 3 (.pointer (some ⟨lb, 0, none⟩)) (hO.2.2 3 rfl), qz, qb]
  case s1 =>
    refine step_wp (fun av wv hE hS hO hD => ⟨rfl, ?_⟩)
    have f29 := qE (hD.1 rfl _ rfl)
    refine wp_of_call (v := .string RT) (by simp [go_sem, f29]) (HRT.out wv (of_drew hE)) (fun w2 hb => ⟨_, rfl, es_of_ext hb, rfl⟩)
  case s2 =>
    refine step_wp (fun av wv hE hS hO hD => ⟨rfl, ?_⟩)
    refine wp_of_call (v := .string P) (by simp [go_sem]) (HNM.out wv) (fun w2 hb => ⟨_, rfl, es_of_ext hb, rfl⟩)
  case s3 =>
    refine qV (fun _ => rfl) rfl fun av wv hE hO hD => ?_
    simp [go_sem, qF av 1 (.string seed) (hO.2.2 1 rfl), qz, qb]
  case s4 =>
    refine step_wp (fun av wv hE hS hO hD => ⟨rfl, ?_⟩)
    have f32 := qE (hD.1 rfl _ rfl)
    refine wp_of_call (v := .string Q) (by simp [go_sem, f32]) (HPB.out wv) (fun w2 hb => ⟨_, rfl, es_of_ext hb, rfl⟩)
  case s5 =>
    refine qV (fun _ => rfl) rfl fun av wv hE hO hD => ?_
    simp [go_sem, qE (hD.1 rfl _ rfl), qE (hD.2.1 rfl _ rfl), qz, qb]
  case s6 =>
    refine step_wp (fun av wv hE hS hO hD => ⟨rfl, ?_⟩)
    have f34 := qE (hD.1 rfl _ rfl)
    exact wp_of_run (v := .slice (some ⟨wv.heap.size, 0, none⟩) 1 1) (w' := wv.alloc (.cells #[.string (P ++ Q)] 9)) (by simp [go_sem, f34]) ⟨_, rfl, es_of_ext (balloc (Ext_refl _) _), wv.heap.size, rfl, heap_alloc_new _ _⟩
  case s7 =>
    refine step_wp (fun av wv hE hS hO hD => ⟨rfl, ?_⟩)
    have d35 : (fun u w' => ∃ b, u = .slice (some ⟨b, 0, none⟩) 1 1 ∧ w'.heap[b]? = some (.cells #[.string (P ++ Q)] 9 (0, 0))) (av.eval (.tmp 35)) wv := hD.1 rfl _ rfl
    obtain ⟨b, hq, hcq⟩ := d35
    have fq := (ev_form av 35).symm.trans hq
    refine wp_of_call (v := .string RT) (by simp [go_sem, fq, leafT]) (HHS.out wv b hcq) (fun w2 hb => ⟨_, rfl, es_of_ext hb, rfl⟩)
  case s8 =>
    refine qV (fun _ => rfl) rfl fun av wv hE hO hD => ?_
    simp [go_sem, qE (hD.1 rfl _ rfl), qE (hD.2.1 rfl _ rfl), qz, qb]
  case s9 =>
    refine qV (fun _ => rfl) rfl fun av wv hE hO hD => ?_
    simp [go_sem, qE (hD.1 rfl _ rfl), qz, qb]
  case s10 =>
    refine step_val (fun av wv hE hS hO hD => ⟨(wY rfl rfl rfl (hD.1 rfl _ rfl)), ?_⟩) (fun _ => rfl)
    simp [go_sem, qF av 6 (.int .i64 0) (hO.2.2 6 rfl), qE (hD.1 rfl _ rfl), qz, qb]
  case s11 =>
    refine step_val (fun av wv hE hS hO hD => ⟨(wY rfl rfl rfl (hD.2.1 rfl _ rfl)), ?_⟩) (fun _ => rfl)
    simp [go_sem, qE (hD.1 rfl _ rfl), qE (hD.2.1 rfl _ rfl), qz, qb]
  case s12 =>
    refine qV (fun _ => rfl) rfl fun av wv hE hO hD => ?_
    simp [go_sem, qE (hD.1 rfl _ rfl), qE (hD.2.1 rfl _ rfl), qz, qb]
  case s13 =>
    refine qV (fun _ => rfl) rfl fun av wv hE hO hD => ?_
    simp [go_sem, qE (hD.1 rfl _ rfl), qz, qb]
  case s14 =>
    refine step_val (fun av wv hE hS hO hD => ⟨(wY rfl rfl rfl (hD.1 rfl _ rfl)), ?_⟩) (fun _ => rfl)
    simp [go_sem, qF av 5 (.pointer (some ⟨sb, 0, none⟩)) (hO.2.2 5 rfl), qE (hD.1 rfl _ rfl), qz, qb]
  case s15 =>
    refine step_val (fun av wv hE hS hO hD => ⟨(wY rfl rfl rfl (hD.2.1 rfl _ rfl)), ?_⟩) (fun _ => rfl)
    simp [go_sem, qE (hD.1 rfl _ rfl), qE (hD.2.1 rfl _ rfl), extB_cell hE (by simp) s0, extB_cell hE (by simp) s1, extB_cell hE (by simp) s2, extB_cell hE (by simp) t0, extB_cell hE (by simp) t1, extB_cell hE (by simp) t2, extB_cell hE (by simp) t3, extB_cell hE (by simp) t4, qz, qb]
  case s16 =>
    refine step_val (fun av wv hE hS hO hD => ⟨(wY rfl rfl rfl (hD.2.1 rfl _ rfl)), ?_⟩) (fun _ => rfl)
    simp [go_sem, qE (hD.1 rfl _ rfl), qE (hD.2.1 rfl _ rfl), qz, qb]
  case s17 =>
    refine step_val (fun av wv hE hS hO hD => ⟨(wY rfl rfl rfl (hD.2.1 rfl _ rfl)), ?_⟩) (fun _ => rfl)
    simp [go_sem, qE (hD.1 rfl _ rfl), qE (hD.2.1 rfl _ rfl), qz, qb]
  case s18 =>
    refine qV (fun _ => rfl) rfl fun av wv hE hO hD => ?_
    simp [go_sem, qE (hD.1 rfl _ rfl), qE (hD.2.1 rfl _ rfl), qz, qb]
  case s19 =>
    refine qV (fun _ => rfl) rfl fun av wv hE hO hD => ?_
    simp [go_sem, qE (hD.1 rfl _ rfl), qz, qb]
  case s20 =>
    refine step_val (fun av wv hE hS hO hD => ⟨(wY rfl rfl rfl (hD.1 rfl _ rfl)), ?_⟩) (fun _ => rfl)
    simp [go_sem, qF av 5 (.pointer (some ⟨sb, 0, none⟩)) (hO.2.2 5 rfl), qE (hD.1 rfl _ rfl), qz, qb]
  case s21 =>
    refine step_val (fun av wv hE hS hO hD => ⟨(wY rfl rfl rfl (hD.2.1 rfl _ rfl)), ?_⟩) (fun _ => rfl)
    simp [go_sem, qE (hD.1 rfl _ rfl), qE (hD.2.1 rfl _ rfl), extB_cell hE (by simp) s0, extB_cell hE (by simp) s1, extB_cell hE (by simp) s2, extB_cell hE (by simp) t0, extB_cell hE (by simp) t1, extB_cell hE (by simp) t2, extB_cell hE (by simp) t3, extB_cell hE (by simp) t4, qz, qb]
  case s22 =>
    refine step_val (fun av wv hE hS hO hD => ⟨(wY rfl rfl rfl (hD.2.1 rfl _ rfl)), ?_⟩) (fun _ => rfl)
    simp [go_sem, qE (hD.1 rfl _ rfl), qE (hD.2.1 rfl _ rfl), qz, qb]
  case s23 =>
    refine step_val (fun av wv hE hS hO hD => ⟨(wY rfl rfl rfl (hD.2.1 rfl _ rfl)), ?_⟩) (fun _ => rfl)
    simp [go_sem, qE (hD.1 rfl _ rfl), qE (hD.2.1 rfl _ rfl), qz, qb]
  case s24 =>
    refine qV (fun _ => rfl) rfl fun av wv hE hO hD => ?_
    simp [go_sem, qE (hD.1 rfl _ rfl), qE (hD.2.1 rfl _ rfl), qz, qb]
  case s25 =>
    refine qV (fun _ => rfl) rfl fun av wv hE hO hD => ?_
    simp [go_sem, qE (hD.1 rfl _ rfl), qz, qb]
  case s26 =>
    refine step_val (fun av wv hE hS hO hD => ⟨(wY rfl rfl rfl (hD.1 rfl _ rfl)), ?_⟩) (fun _ => rfl)
    simp [go_sem, qF av 7 (.pointer (some ⟨pb, 0, none⟩)) (hO.2.2 7 rfl), qE (hD.1 rfl _ rfl), extB_cell hE (by simp) s0, extB_cell hE (by simp) s1, extB_cell hE (by simp) s2, extB_cell hE (by simp) t0, extB_cell hE (by simp) t1, extB_cell hE (by simp) t2, extB_cell hE (by simp) t3, extB_cell hE (by simp) t4, qz, qb]
  case s27 =>
    refine step_val (fun av wv hE hS hO hD => ⟨(wY rfl rfl rfl (hD.1 rfl _ rfl)), ?_⟩) (fun _ => rfl)
    simp [go_sem, qF av 3 (.pointer (some ⟨lb, 0, none⟩)) (hO.2.2 3 rfl), qE (hD.1 rfl _ rfl), qz, qb]
  case s28 =>
    refine step_wp (fun av wv hE hS hO hD => ⟨(wY rfl rfl rfl (hD.2.1 rfl _ rfl)), ?_⟩)
    have f56 := qE (hD.1 rfl _ rfl)
    refine wp_of_call (v := .string RT) (by simp [go_sem, f56]) (HRT.out wv (of_drew hE)) (fun w2 hb => ⟨_, rfl, es_of_ext hb, rfl⟩)
  case s29 =>
    refine step_val (fun av wv hE hS hO hD => ⟨(wY rfl rfl rfl (hD.2.1 rfl _ rfl)), ?_⟩) (fun _ => rfl)
    simp [go_sem, qE (hD.1 rfl _ rfl), qE (hD.2.1 rfl _ rfl), qz, qb]
  case s30 =>
    refine step_val (fun av wv hE hS hO hD => ⟨(wY rfl rfl rfl (hD.2.2.1 rfl _ rfl)), ?_⟩) (fun _ => rfl)
    simp [go_sem, qE (hD.1 rfl _ rfl), qE (hD.2.1 rfl _ rfl), qE (hD.2.2.1 rfl _ rfl), qz, qb]
  case s31 =>
    refine qV (fun _ => rfl) rfl fun av wv hE hO hD => ?_
    simp [go_sem, qE (hD.1 rfl _ rfl), qE (hD.2.1 rfl _ rfl), qz, qb]
  case s32 =>
    refine qV (fun _ => rfl) rfl fun av wv hE hO hD => ?_
    simp [go_sem, qE (hD.1 rfl _ rfl), qz, qb]
  case s33 =>
    refine step_val (fun av wv hE hS hO hD => ⟨(wY rfl rfl rfl (hD.1 rfl _ rfl)), ?_⟩) (fun _ => rfl)
    simp [go_sem, qF av 7 (.pointer (some ⟨pb, 0, none⟩)) (hO.2.2 7 rfl), qE (hD.1 rfl _ rfl), extB_cell hE (by simp) s0, extB_cell hE (by simp) s1, extB_cell hE (by simp) s2, extB_cell hE (by simp) t0, extB_cell hE (by simp) t1, extB_cell hE (by simp) t2, extB_cell hE (by simp) t3, extB_cell hE (by simp) t4, qz, qb]
  case s34 =>
    refine step_val (fun av wv hE hS hO hD => ⟨(wY rfl rfl rfl (hD.1 rfl _ rfl)), ?_⟩) (fun _ => rfl)
    simp [go_sem, qF av 2 (.string dg) (hO.2.2 2 rfl), qE (hD.1 rfl _ rfl), qz, qb]
  case s35 =>
    refine step_val (fun av wv hE hS hO hD => ⟨(wY rfl rfl rfl (hD.1 rfl _ rfl)), ?_⟩) (fun _ => rfl)
    simp [go_sem, qF av 5 (.pointer (some ⟨sb, 0, none⟩)) (hO.2.2 5 rfl), qE (hD.1 rfl _ rfl), extB_cell hE (by simp) s0, extB_cell hE (by simp) s1, extB_cell hE (by simp) s2, extB_cell hE (by simp) t0, extB_cell hE (by simp) t1, extB_cell hE (by simp) t2, extB_cell hE (by simp) t3, extB_cell hE (by simp) t4, qz, qb]
  case s36 =>
    refine step_wp (fun av wv hE hS hO hD => ⟨(wY rfl rfl rfl (hD.2.2.2.1 rfl _ rfl)), ?_⟩)
    have f62 := qE (hD.1 rfl _ rfl)
    have f63 := qE (hD.2.1 rfl _ rfl)
    have f64 := qE (hD.2.2.1 rfl _ rfl)
    refine wp_of_call (v := .int .i64 0) (by simp [go_sem, f62, f63, f64]) (HV7.out wv (of_drew hE)) (fun w2 hb => ⟨_, rfl, es_of_ext hb, rfl⟩)
  case s37 =>
    refine step_val (fun av wv hE hS hO hD => ⟨(wY rfl rfl rfl (hD.2.1 rfl _ rfl)), ?_⟩) (fun _ => rfl)
    simp [go_sem, qE (hD.1 rfl _ rfl), qE (hD.2.1 rfl _ rfl), qz, qb]
  case s38 =>
    refine qV (fun _ => rfl) rfl fun av wv hE hO hD => ?_
    simp [go_sem, qE (hD.1 rfl _ rfl), qE (hD.2.1 rfl _ rfl), qz, qb]
  case s39 =>
    refine qV (fun _ => rfl) rfl fun av wv hE hO hD => ?_
    simp [go_sem, qE (hD.1 rfl _ rfl), qz, qb]
  case s40 =>
    refine step_val (fun av wv hE hS hO hD => ⟨(wY rfl rfl rfl (hD.1 rfl _ rfl)), ?_⟩) (fun _ => rfl)
    simp [go_sem, qF av 7 (.pointer (some ⟨pb, 0, none⟩)) (hO.2.2 7 rfl), qE (hD.1 rfl _ rfl), extB_cell hE (by simp) s0, extB_cell hE (by simp) s1, extB_cell hE (by simp) s2, extB_cell hE (by simp) t0, extB_cell hE (by simp) t1, extB_cell hE (by simp) t2, extB_cell hE (by simp) t3, extB_cell hE (by simp) t4, qz, qb]
  case s41 =>
    refine step_val (fun av wv hE hS hO hD => ⟨(wY rfl rfl rfl (hD.1 rfl _ rfl)), ?_⟩) (fun _ => rfl)
    simp [go_sem, qF av 2 (.string dg) (hO.2.2 2 rfl), qE (hD.1 rfl _ rfl), qz, qb]
  case s42 =>
    refine step_val (fun av wv hE hS hO hD => ⟨(wY rfl rfl rfl (hD.1 rfl _ rfl)), ?_⟩) (fun _ => rfl)
    simp [go_sem, qF av 5 (.pointer (some ⟨sb, 0, none⟩)) (hO.2.2 5 rfl), qE (hD.1 rfl _ rfl), extB_cell hE (by simp) s0, extB_cell hE (by simp) s1, extB_cell hE (by simp) s2, extB_cell hE (by simp) t0, extB_cell hE (by simp) t1, extB_cell hE (by simp) t2, extB_cell hE (by simp) t3, extB_cell hE (by simp) t4, qz, qb]
  case s43 =>
    refine step_wp (fun av wv hE hS hO hD => ⟨(wY rfl rfl rfl (hD.2.2.2.1 rfl _ rfl)), ?_⟩)
    have f69 := qE (hD.1 rfl _ rfl)
    have f70 := qE (hD.2.1 rfl _ rfl)
    have f71 := qE (hD.2.2.1 rfl _ rfl)
    refine wp_of_call (v := .int .i64 16) (by simp [go_sem, f69, f70, f71]) (HV10.out wv (of_drew hE)) (fun w2 hb => ⟨_, rfl, es_of_ext hb, rfl⟩)
  case s44 =>
    refine step_val (fun av wv hE hS hO hD => ⟨(wY rfl rfl rfl (hD.2.1 rfl _ rfl)), ?_⟩) (fun _ => rfl)
    simp [go_sem, qE (hD.1 rfl _ rfl), qE (hD.2.1 rfl _ rfl), qz, qb]
  case s45 =>
    refine qV (fun _ => rfl) rfl fun av wv hE hO hD => ?_
    simp [go_sem, qE (hD.1 rfl _ rfl), qE (hD.2.1 rfl _ rfl), qz, qb]
  case s46 =>
    refine qV (fun _ => rfl) rfl fun av wv hE hO hD => ?_
    simp [go_sem, qE (hD.1 rfl _ rfl), qz, qb]
  intro a' w' hE hO hall
  have hA := act_of_outer (ds := [29, 30, 31, 32, 33, 34, 35, 36, 37, 38, 39, 40, 41, 42, 43, 44, 45, 46, 47, 48, 49, 50, 51, 52, 53, 54, 55, 56, 57, 58, 59, 60, 61, 62, 63, 64, 65, 66, 67, 68, 69, 70, 71, 72, 73, 74, 0]) rfl hO (by kernel_rfl)
  obtain ⟨j0, j1, j2, j3, j4, j5, j6, j7, j8, j9, j10, j11, j12, j13, j14, j15, j16, j17, j18, j19, j20, j21, j22, j23, j24, j25, j26, j27, j28, j29, j30, j31, j32, j33, j34, j35, j36, j37, j38, j39, j40, j41, j42, j43, j44, j45, j46, -⟩ := hall
  have e35 : (fun u w' => ∃ b, u = .slice (some ⟨b, 0, none⟩) 1 1 ∧ w'.heap[b]? = some (.cells #[.string (P ++ Q)] 9 (0, 0))) (a'.eval (.tmp 35)) w' := j6 _ rfl
  obtain ⟨v35, hv35⟩ : ∃ v, a'.eval (.tmp 35) = v := ⟨_, rfl⟩
  rw [hv35] at e35
  simp only [List.foldl_cons, List.foldl_nil, Act.put, List.setIfInBounds_toArray, List.set_cons_succ, List.set_cons_zero, qJ 29 (j0 _ rfl), qJ 30 (j1 _ rfl), qJ 31 (j2 _ rfl), qJ 32 (j3 _ rfl), qJ 33 (j4 _ rfl), qJ 34 (j5 _ rfl), hv35, qJ 36 (j7 _ rfl), qJ 37 (j8 _ rfl), qJ 38 (j9 _ rfl), qJ 39 (j10 _ rfl), qJ 40 (j11 _ rfl), qJ 41 (j12 _ rfl), qJ 42 (j13 _ rfl), qJ 43 (j14 _ rfl), qJ 44 (j15 _ rfl), qJ 45 (j16 _ rfl), qJ 46 (j17 _ rfl), qJ 47 (j18 _ rfl), qJ 48 (j19 _ rfl), qJ 49 (j20 _ rfl), qJ 50 (j21 _ rfl), qJ 51 (j22 _ rfl), qJ 52 (j23 _ rfl), qJ 53 (j24 _ rfl), qJ 54 (j25 _ rfl), qJ 55 (j26 _ rfl), qJ 56 (j27 _ rfl), qJ 57 (j28 _ rfl), qJ 58 (j29 _ rfl), qJ 59 (j30 _ rfl), qJ 60 (j31 _ rfl), qJ 61 (j32 _ rfl), qJ 62 (j33 _ rfl), qJ 63 (j34 _ rfl), qJ 64 (j35 _ rfl), qJ 65 (j36 _ rfl), qJ 66 (j37 _ rfl), qJ 67 (j38 _ rfl), qJ 68 (j39 _ rfl), qJ 69 (j40 _ rfl), qJ 70 (j41 _ rfl), qJ 71 (j42 _ rfl), qJ 72 (j43 _ rfl), qJ 73 (j44 _ rfl), qJ 74 (j45 _ rfl), qJ 0 (j46 _ rfl)] at hA
  clear hO j6 j0 j1 j2 j3 j4 j5 hv35 j7 j8 j9 j10 j11 j12 j13 j14 j15 j16 j17 j18 j19 j20 j21 j22 j23 j24 j25 j26 j27 j28 j29 j30 j31 j32 j33 j34 j35 j36 j37 j38 j39 j40 j41 j42 j43 j44 j45 j46
  subst hA
  have HE := Lib.hid (of_drew hE)
  clear hE s0 s1 s2 t0 t1 t2 t3 t4 qz qb
  go_wp2
  go_ret
  exact ⟨rfl, bnext HBW.out HE.out⟩
end Go.Proofs.YtoafjbillcooiaaGreat
namespace Go.Proofs.YtoafjbillcooiaaGreat
open Go.RowKit
set_option linter.unusedSimpArgs false
set_option linter.unusedVariables false
def madeV (s d z : Nat) (F0 L0 : Nat) (K0 : Int) (r wt : Nat) : List Value := [.int .u8 (s : Nat), .int .u8 (d : Nat), .int .u8 (z : Nat), .int .u64 (F0 : Nat), .int .u64 (L0 : Nat), .int .i64 K0, .int .u64 (r : Nat), .int .u64 (wt : Nat)]
theorem keys_nat (K0 : Int) (n : Nat) (h1 : K0 ≤ 9223372036854775807) : ∃ M q K : Nat, max 0 K0 = (M : Int) ∧ M % n = q ∧ K = 1 + q ∧ M ≤ 9223372036854775807 := by
  refine ⟨(max 0 K0).toNat, _, _, ?_, rfl, rfl, ?_⟩ <;> omega
set_option maxRecDepth 100000 in
set_option maxHeartbeats 8000000 in
theorem holds14_law (s d z F0 L0 r wt : Nat) (K0 : Int) (w : World) (hs : s ≤ 255) (hd : d ≤ 255) (hF : F0 < 18446744073709551616) (hL : L0 < 18446744073709551616) (hr : r < 18446744073709551616) (hK : K0 ≤ 9223372036854775807) :
    Calls Tryz.prog 6 #[.agg (madeV s d z F0 L0 K0 r wt).toArray] w fun e w' => e = .returned (.bool true) ∧ Below w.heap.size w w' := by
  have HS := Lib.hid hs
  have HD := Lib.hid hd
  obtain ⟨M, q, K, hM, hq, hKq, hM9⟩ := keys_nat K0 8 hK
  unfold madeV
  clear hs hd
  go_enter Tryz.func6, Tryz.ntmps6
  go_wp2_with fail
  refine (works14_any _).mono ?_
  rintro e w1 ⟨rfl, hb⟩
  obtain ⟨mb, hmb⟩ : ∃ mb, w.heap.size = mb := ⟨_, rfl⟩
  have ha := alloc_new_at (.cells #[.int .u8 (s : Nat), .int .u8 (d : Nat), .int .u8 (z : Nat), .int .u64 (F0 : Nat), .int .u64 (L0 : Nat), .int .i64 K0, .int .u64 (r : Nat), .int .u64 (wt : Nat)] 50) hmb
  have HMB : Hid (w1.heap[mb]? = some (.cells #[.int .u8 (s : Nat), .int .u8 (d : Nat), .int .u8 (z : Nat), .int .u64 (F0 : Nat), .int .u64 (L0 : Nat), .int .i64 K0, .int .u64 (r : Nat), .int .u64 (wt : Nat)] 50 (0, 0))) := Lib.hid ((hb.block _ (lt_of_block ha)).trans ha)
  have HB1 : Hid (Below w.heap.size w w1) := Lib.hid (bnext (balloc (Below.refl _ _) _) hb)
  rw [hmb]
  clear hb ha hmb
  have m3 : w1.cell? ⟨mb, 3, none⟩ = some (.int .u64 (F0 : Nat)) := block_cell HMB.out 3
  have m4 : w1.cell? ⟨mb, 4, none⟩ = some (.int .u64 (L0 : Nat)) := block_cell HMB.out 4
  have m5 : w1.cell? ⟨mb, 5, none⟩ = some (.int .i64 K0) := block_cell HMB.out 5
  go_upto_region 3 with fail
  obtain ⟨l, hl⟩ : ∃ l, L0 % 6 = l := ⟨_, rfl⟩
  obtain ⟨L, hL9⟩ : ∃ L, 1 + l = L := ⟨_, rfl⟩
  obtain ⟨f, hf⟩ : ∃ f, F0 / 2 = f := ⟨_, rfl⟩
  have k1 : max 0 K0 = (M : Int) := hM
  have k2 : Int.tmod ((M : Nat) : Int) 8 = (q : Int) := by rw [← hq]; exact (Int.ofNat_tmod M 8).symm
  have k3 : ((M : Nat) : Int) % 8 = (q : Int) := by omega
  have k4 : 1 + ((q : Nat) : Int) = (K : Int) := by omega
  have k5 : Int.tmod ((L0 : Nat) : Int) 6 = (l : Int) := by rw [← hl]; exact (Int.ofNat_tmod L0 6).symm
  have k6 : ((L0 : Nat) : Int) % 6 = (l : Int) := by omega
  have k7 : 1 + ((l : Nat) : Int) = (L : Int) := by omega
  have k8 : Int.tdiv ((F0 : Nat) : Int) 2 = (f : Int) := by rw [← hf]; exact (Int.ofNat_tdiv F0 2).symm
  have k9 : ((F0 : Nat) : Int) / 2 = (f : Int) := by omega
  have y1 : IntKind.i64.wrap ((K : Nat) : Int) = (K : Int) := IntWalk.i64_in _ (by omega)
  have y2 : IntKind.u64.wrap ((L : Nat) : Int) = (L : Int) := IntWalk.u64_in _ (by omega)
  have y3 : IntKind.u64.wrap ((f : Nat) : Int) = (f : Int) := IntWalk.u64_in _ (by omega)
  have y4 : IntKind.u64.wrap ((l : Nat) : Int) = (l : Int) := IntWalk.u64_in _ (by omega)
  have y5 : IntKind.i64.wrap ((q : Nat) : Int) = (q : Int) := IntWalk.i64_in _ (by omega)
  have HR := Lib.hid hr
  have HKL : Hid (1 ≤ K ∧ K ≤ 8 ∧ 1 ≤ L ∧ L ≤ 6 ∧ f ≤ 9223372036854775807) := Lib.hid (by omega)
  clear hM hq hKq hM9 hF hL hr hK hl hL9 hf
  refine wp_region_all 1000 (none) (phis (List.map qv [.pointer (some ⟨mb, 5, none⟩), .int .i64 K0, .int .i64 (M : Nat), .int .i64 (q : Nat), .int .i64 (K : Nat), .pointer (some ⟨mb, 4, none⟩), .int .u64 (L0 : Nat), .int .u64 (l : Nat), .int .u64 (L : Nat), .pointer (some ⟨mb, 3, none⟩), .int .u64 (F0 : Nat), .int .u64 (f : Nat), .int .i64 (K : Nat), .int .u64 (L : Nat), .int .u64 (f : Nat)])) rfl (by kernel_rfl) (mono_of mono_qv) (steps_of 15 ⟨?s0, ?s1, ?s2, ?s3, ?s4, ?s5, ?s6, ?s7, ?s8, ?s9, ?s10, ?s11, ?s12, ?s13, ?s14, trivial⟩) ?_
  case s0 =>
    refine qV (fun _ => rfl) rfl fun av wv hE hO hD => ?_
    simp [go_sem, qF av 1 (.pointer (some ⟨mb, 0, none⟩)) (hO.2.2 1 rfl), k1, k2, k3, k4, k5, k6, k7, k8, k9, y1, y2, y3, y4, y5]
  case s1 =>
    refine qV (fun _ => rfl) rfl fun av wv hE hO hD => ?_
    simp [go_sem, qE (hD.1 rfl _ rfl), extB_cell hE (by simp) m3, extB_cell hE (by simp) m4, extB_cell hE (by simp) m5, k1, k2, k3, k4, k5, k6, k7, k8, k9, y1, y2, y3, y4, y5]
  case s2 =>
    refine qV (fun _ => rfl) rfl fun av wv hE hO hD => ?_
    simp [go_sem, qE (hD.1 rfl _ rfl), k1, k2, k3, k4, k5, k6, k7, k8, k9, y1, y2, y3, y4, y5]
  case s3 =>
    refine qV (fun _ => rfl) rfl fun av wv hE hO hD => ?_
    simp [go_sem, qE (hD.1 rfl _ rfl), k1, k2, k3, k4, k5, k6, k7, k8, k9, y1, y2, y3, y4, y5]
  case s4 =>
    refine qV (fun _ => rfl) rfl fun av wv hE hO hD => ?_
    simp [go_sem, qE (hD.1 rfl _ rfl), k1, k2, k3, k4, k5, k6, k7, k8, k9, y1, y2, y3, y4, y5]
  case s5 =>
    refine qV (fun _ => rfl) rfl fun av wv hE hO hD => ?_
    simp [go_sem, qF av 1 (.pointer (some ⟨mb, 0, none⟩)) (hO.2.2 1 rfl), k1, k2, k3, k4, k5, k6, k7, k8, k9, y1, y2, y3, y4, y5]
  case s6 =>
    refine qV (fun _ => rfl) rfl fun av wv hE hO hD => ?_
    simp [go_sem, qE (hD.1 rfl _ rfl), extB_cell hE (by simp) m3, extB_cell hE (by simp) m4, extB_cell hE (by simp) m5, k1, k2, k3, k4, k5, k6, k7, k8, k9, y1, y2, y3, y4, y5]
  case s7 =>
    refine qV (fun _ => rfl) rfl fun av wv hE hO hD => ?_
    simp [go_sem, qE (hD.1 rfl _ rfl), k1, k2, k3, k4, k5, k6, k7, k8, k9, y1, y2, y3, y4, y5]
  case s8 =>
    refine qV (fun _ => rfl) rfl fun av wv hE hO hD => ?_
    simp [go_sem, qE (hD.1 rfl _ rfl), k1, k2, k3, k4, k5, k6, k7, k8, k9, y1, y2, y3, y4, y5]
  case s9 =>
    refine qV (fun _ => rfl) rfl fun av wv hE hO hD => ?_
    simp [go_sem, qF av 1 (.pointer (some ⟨mb, 0, none⟩)) (hO.2.2 1 rfl), k1, k2, k3, k4, k5, k6, k7, k8, k9, y1, y2, y3, y4, y5]
  case s10 =>
    refine qV (fun _ => rfl) rfl fun av wv hE hO hD => ?_
    simp [go_sem, qE (hD.1 rfl _ rfl), extB_cell hE (by simp) m3, extB_cell hE (by simp) m4, extB_cell hE (by simp) m5, k1, k2, k3, k4, k5, k6, k7, k8, k9, y1, y2, y3, y4, y5]
  case s11 =>
    refine qV (fun _ => rfl) rfl fun av wv hE hO hD => ?_
    simp [go_sem, qE (hD.1 rfl _ rfl), k1, k2, k3, k4, k5, k6, k7, k8, k9, y1, y2, y3, y4, y5]
  case s12 =>
    refine qV (fun _ => rfl) rfl fun av wv hE hO hD => ?_
    simp [go_sem, qE (hD.1 rfl _ rfl), k1, k2, k3, k4, k5, k6, k7, k8, k9, y1, y2, y3, y4, y5]
  case s13 =>
    refine qV (fun _ => rfl) rfl fun av wv hE hO hD => ?_
    simp [go_sem, qE (hD.1 rfl _ rfl), k1, k2, k3, k4, k5, k6, k7, k8, k9, y1, y2, y3, y4, y5]
  case s14 =>
    refine qV (fun _ => rfl) rfl fun av wv hE hO hD => ?_
    simp [go_sem, qE (hD.1 rfl _ rfl), k1, k2, k3, k4, k5, k6, k7, k8, k9, y1, y2, y3, y4, y5]
  intro a' w' hE hO hall
  have hA := act_of_outer (ds := [18, 19, 20, 21, 22, 23, 24, 25, 26, 27, 28, 29, 3, 4, 5]) rfl hO (by kernel_rfl)
  obtain ⟨j0, j1, j2, j3, j4, j5, j6, j7, j8, j9, j10, j11, j12, j13, j14, -⟩ := hall
  simp only [List.foldl_cons, List.foldl_nil, Act.put, List.setIfInBounds_toArray, List.set_cons_succ, List.set_cons_zero, qJ 18 (j0 _ rfl), qJ 19 (j1 _ rfl), qJ 20 (j2 _ rfl), qJ 21 (j3 _ rfl), qJ 22 (j4 _ rfl), qJ 23 (j5 _ rfl), qJ 24 (j6 _ rfl), qJ 25 (j7 _ rfl), qJ 26 (j8 _ rfl), qJ 27 (j9 _ rfl), qJ 28 (j10 _ rfl), qJ 29 (j11 _ rfl), qJ 3 (j12 _ rfl), qJ 4 (j13 _ rfl), qJ 5 (j14 _ rfl)] at hA
  clear hO j0 j1 j2 j3 j4 j5 j6 j7 j8 j9 j10 j11 j12 j13 j14
  subst hA
  have HBE := Lib.hid (of_drew hE)
  have HB2 := Lib.hid (bnext HB1.out HBE.out)
  have HM2 := (HBE.out.block _ (lt_of_block HMB.out)).trans HMB.out
  have m0 : w'.cell? ⟨mb, 0, none⟩ = some (.int .u8 (s : Nat)) := block_cell HM2 0
  have m1 : w'.cell? ⟨mb, 1, none⟩ = some (.int .u8 (d : Nat)) := block_cell HM2 1
  have HMB2 := Lib.hid HM2
  clear hE m3 m4 m5 k1 k2 k3 k4 k5 k6 k7 k8 k9 y1 y2 y3 y4 y5 HM2 HBE HB1 HMB
  go_wp2_with fail
  refine (text14_any d 32 w' HD.out (by decide)).mono ?_
  rintro e w2 ⟨rfl, hb⟩
  have HB3 := Lib.hid (bnext HB2.out hb)
  have HMB3 := Lib.hid ((hb.block _ (lt_of_block HMB2.out)).trans HMB2.out)
  have m0' : w2.cell? ⟨mb, 0, none⟩ = some (.int .u8 (s : Nat)) := block_cell HMB3.out 0
  obtain ⟨dg, hdg⟩ : ∃ x, textN d 32 = x := ⟨_, rfl⟩
  have HDS : Hid (dg.size = 32) := Lib.hid (by rw [← hdg]; exact textN_size _ _)
  rw [hdg]
  clear hb hdg m0 m1
  go_wp2_with fail
  refine (text14_any s 32 w2 HS.out (by decide)).mono ?_
  rintro e w3 ⟨rfl, hb⟩
  have HB4 := Lib.hid (bnext HB3.out hb)
  have HMB4 := Lib.hid ((hb.block _ (lt_of_block HMB3.out)).trans HMB3.out)
  obtain ⟨seed, hseed⟩ : ∃ x, textN s 32 = x := ⟨_, rfl⟩
  have HSS : Hid (seed.size = 32) := Lib.hid (by rw [← hseed]; exact textN_size _ _)
  rw [hseed]
  clear hb hseed m0'
  go_wp2_with fail
  refine (new14_any seed f L (K : Nat) w3 (by have := HKL.out; omega)).mono ?_
  rintro e w4 ⟨hn, hb⟩
  have hne : newE seed.size f L ((K : Nat) : Int) = 0 := by
    have h1 := HKL.out
    unfold newE
    have hm : mayL seed.size L ((K : Nat) : Int) = true := by
      unfold mayL
      simp [HSS.out]
      omega
    rw [if_pos hm, if_pos]
    rw [fitsL_iff (by omega) (by omega), Int.toNat_natCast]
    have : K * L ≤ 8 * 6 := Nat.mul_le_mul h1.2.1 h1.2.2.2.1
    omega
  rw [hne] at hn
  obtain ⟨h9, -⟩ | ⟨-, lb, tb, rfl, hl, -⟩ := hn
  · exact absurd rfl h9
  rw [Int.toNat_natCast] at hl
  have HL := Lib.hid hl
  have HB5 := Lib.hid (bnext HB4.out hb)
  have HMB5 := Lib.hid ((hb.block _ (lt_of_block HMB4.out)).trans HMB4.out)
  have m6 : w4.cell? ⟨mb, 6, none⟩ = some (.int .u64 (r : Nat)) := block_cell HMB5.out 6
  obtain ⟨A, hA⟩ : ∃ A, L * K = A := ⟨_, rfl⟩
  have HA : Hid (1 ≤ A ∧ A ≤ 48 ∧ A = L * K) := Lib.hid ⟨by have := HKL.out; rw [← hA]; exact Nat.mul_pos (by omega) (by omega), by
    have h1 := HKL.out
    have : L * K ≤ 6 * 8 := Nat.mul_le_mul h1.2.2.2.1 h1.2.1
    omega, hA.symm⟩
  obtain ⟨z9, hz9⟩ : ∃ z9, r % A = z9 := ⟨_, rfl⟩
  have HZ : Hid (z9 < A) := Lib.hid (by rw [← hz9]; exact Nat.mod_lt _ HA.out.1)
  have y0 : IntKind.u64.wrap ((K : Nat) : Int) = (K : Int) := IntWalk.u64_in _ (by have := HKL.out; omega)
  have y1 : ((L : Nat) : Int) * (K : Int) = (A : Int) := by rw [← hA, Int.natCast_mul]
  have y2 : IntKind.u64.wrap ((A : Nat) : Int) = (A : Int) := IntWalk.u64_in _ (by have := HA.out; omega)
  have y3 : ((A : Nat) : Int) ≠ 0 := by have := HA.out; omega
  have y4 : Int.tmod ((r : Nat) : Int) (A : Int) = (z9 : Int) := by rw [← hz9]; exact (Int.ofNat_tmod r A).symm
  have y5 : ((r : Nat) : Int) % (A : Int) = (z9 : Int) := by rw [← hz9]; exact (Int.natCast_emod r A).symm
  have y6 : IntKind.u64.wrap ((z9 : Nat) : Int) = (z9 : Int) := IntWalk.u64_in _ (by have := HA.out; have := HZ.out; omega)
  obtain ⟨R, hR⟩ : ∃ R, f + z9 = R := ⟨_, rfl⟩
  have y7 : ((f : Nat) : Int) + (z9 : Int) = (R : Int) := by omega
  have y8 : IntKind.u64.wrap ((R : Nat) : Int) = (R : Int) := IntWalk.u64_in _ (by have := HA.out; have := HZ.out; have := HKL.out; omega)
  have HRR := Lib.hid hR
  clear hb hl hne hA hz9 hR
  go_wp2_with fail
  have hsg := sign14_any seed dg f L K lb tb R w4 HL.out (by have := HKL.out; omega) (by have := HRR.out; have := HKL.out; have := HZ.out; have := HA.out; omega) (by have := HKL.out; omega) (by have := HKL.out; omega) (by rw [HSS.out]; decide)
  refine hsg.mono ?_
  rintro e w5 hs
  obtain ⟨wa, wc, pa, pc, rfl, htw, htp, hpc, hb⟩ := hs.lit
  obtain ⟨k, hk9⟩ : ∃ k, z9 / L = k := ⟨_, rfl⟩
  have HKO : Hid (keyO f L K R = some k) := Lib.hid (by
    have h1 := HRR.out
    have h2 := HKL.out
    have h3 := HZ.out
    have h4 := HA.out
    have h5 := keyO_inner (f := f) (L := L) (K := K) (r := R) (by omega) (by omega) (by omega)
    rw [show R - f = z9 by omega, hk9] at h5
    exact h5)
  have hsd := signD_ok (seed := seed) (d := dg) HKO.out HDS.out
  have HV : Hid (∀ r, verE (ladR seed K) f L K r dg (signD seed f L K R dg) = match keyO f L K r with | none => 16 | some j => if j = k then 0 else 10) := Lib.hid (fun r => holds_verE HDS.out (by have := HKL.out; omega) (by have := HKL.out; omega) (by have := HKL.out; omega) HKO.out)
  obtain ⟨ws, hws⟩ : ∃ ws, (signD seed f L K R dg).ws = ws := ⟨_, rfl⟩
  obtain ⟨ps, hps⟩ : ∃ ps, (signD seed f L K R dg).ps = ps := ⟨_, rfl⟩
  have hix : (signD seed f L K R dg).ix = (k : Nat) := by rw [hsd.1]
  have HSD : Hid (signD seed f L K R dg = ⟨(k : Nat), ws, ps⟩) := Lib.hid (by rw [← hws, ← hps, ← hix])
  have HL67 : Hid (len ws ≤ 1000000) := Lib.hid (by
    have h67 : len ws = 67 := by rw [← hws, hsd.1]; show len (sgL seed k dg) = 67; unfold sgL; rw [if_pos HDS.out]; exact chL_len _ _
    rw [h67]; decide)
  have HL0 : Hid (len ps ≤ 1000000) := Lib.hid (by
    have h0 : len ps ≤ 16 := by
      rw [← hps, hsd.1]
      show len (oneD (rungL seed K) k) ≤ 16
      rw [oneD_len (by rw [rungL_len]; have := HKL.out; omega)]
      exact depN_le (by rw [rungL_len]; have := HKL.out; omega)
    omega)
  rw [hws, hps, hix, hsd.2]
  rw [hws] at htw
  rw [hps] at htp hpc
  have HTW := Lib.hid htw
  have HTP := Lib.hid htp
  have HPC := Lib.hid hpc
  have HB6 := Lib.hid (bnext HB5.out hb)
  have HL6 := Lib.hid (HL.out.below hb)
  have hk8 : k * L ≤ z9 := by rw [← hk9]; exact Nat.div_mul_le_self _ _
  have HKZ := Lib.hid hk9
  clear hsg hs hsd hws hps hix htw htp hpc hb hk9 y0 y1 y2 y3 y4 y5 y6 y7 y8 m6 hk8
  go_upto_region 11 with fail
  obtain ⟨gb, hgb⟩ : ∃ gb, w5.heap.size = gb := ⟨_, rfl⟩
  obtain ⟨V, hV⟩ : ∃ V, w5.alloc (.cells #[.int .u64 (k : Nat), .slice wa (len ws) wc, .slice pa (len ps) pc] 54) = V := ⟨_, rfl⟩
  have HGB : Hid (V.heap[gb]? = some (.cells #[.int .u64 (k : Nat), .slice wa (len ws) wc, .slice pa (len ps) pc] 54 (0, 0))) := Lib.hid (by rw [← hV]; exact alloc_new_at _ hgb)
  have hbv : Below w5.heap.size w5 V := by rw [← hV]; exact balloc (Below.refl _ _) _
  have HBV := Lib.hid (bnext HB6.out hbv)
  have HLV := Lib.hid (HL6.out.below hbv)
  have HTWV := Lib.hid (HTW.out.below hbv)
  have HTPV := Lib.hid (HTP.out.below hbv)
  rw [hV, hgb]
  clear hV hgb hbv
  have g0 : V.cell? ⟨gb, 0, none⟩ = some (.int .u64 (k : Nat)) := block_cell HGB.out 0
  have v1 : ((R : Nat) : Int) - (f : Int) = (z9 : Int) := by have := HRR.out; omega
  have v2 : IntKind.u64.wrap ((z9 : Nat) : Int) = (z9 : Int) := IntWalk.u64_in _ (by have := HZ.out; have := HA.out; omega)
  have v3 : Int.tdiv ((z9 : Nat) : Int) (L : Int) = (k : Int) := by rw [← HKZ.out]; exact (Int.ofNat_tdiv z9 L).symm
  have v4 : ((z9 : Nat) : Int) / (L : Int) = (k : Int) := by rw [← HKZ.out]; exact (Int.natCast_ediv z9 L).symm
  have HK48 : Hid (k ≤ 48) := Lib.hid (by rw [← HKZ.out]; have h1 := Nat.div_le_self z9 L; have := HZ.out; have := HA.out; omega)
  have v5 : IntKind.u64.wrap ((k : Nat) : Int) = (k : Int) := IntWalk.u64_in _ (by have := HK48.out; omega)
  have v6 : L ≠ 0 := by have := HKL.out; omega
  refine wp_region_all 1000 (none) (phis (List.map qv [.int .i64 0, .bool false, .bool false, .pointer (some ⟨gb, 0, none⟩), .int .u64 (k : Nat), .int .u64 (R : Nat), .int .u64 (f : Nat), .int .u64 (z9 : Nat), .int .u64 (L : Nat), .int .u64 (k : Nat), .bool false, .bool false])) rfl (by kernel_rfl) (mono_of mono_qv) (steps_of 12 ⟨?s0, ?s1, ?s2, ?s3, ?s4, ?s5, ?s6, ?s7, ?s8, ?s9, ?s10, ?s11, trivial⟩) ?_
  case s0 =>
    refine qV (fun _ => rfl) rfl fun av wv hE hO hD => ?_
    simp [go_sem, qF av 12 (.int .i64 0) (hO.2.2 12 rfl), v1, v2, v3, v4, v5, v6]
  case s1 =>
    refine qV (fun _ => rfl) rfl fun av wv hE hO hD => ?_
    simp [go_sem, qE (hD.1 rfl _ rfl), v1, v2, v3, v4, v5, v6]
  case s2 =>
    refine qV (fun _ => rfl) rfl fun av wv hE hO hD => ?_
    simp [go_sem, qE (hD.1 rfl _ rfl), v1, v2, v3, v4, v5, v6]
  case s3 =>
    refine step_val (fun av wv hE hS hO hD => ⟨(wY rfl rfl rfl (hD.1 rfl _ rfl)), ?_⟩) (fun _ => rfl)
    simp [go_sem, qF av 11 (.pointer (some ⟨gb, 0, none⟩)) (hO.2.2 11 rfl), qE (hD.1 rfl _ rfl), v1, v2, v3, v4, v5, v6]
  case s4 =>
    refine step_val (fun av wv hE hS hO hD => ⟨(wY rfl rfl rfl (hD.2.1 rfl _ rfl)), ?_⟩) (fun _ => rfl)
    simp [go_sem, qE (hD.1 rfl _ rfl), qE (hD.2.1 rfl _ rfl), extB_cell hE (by simp) g0, v1, v2, v3, v4, v5, v6]
  case s5 =>
    refine step_val (fun av wv hE hS hO hD => ⟨(wY rfl rfl rfl (hD.1 rfl _ rfl)), ?_⟩) (fun _ => rfl)
    simp [go_sem, qF av 10 (.int .u64 (R : Nat)) (hO.2.2 10 rfl), qE (hD.1 rfl _ rfl), v1, v2, v3, v4, v5, v6]
  case s6 =>
    refine step_val (fun av wv hE hS hO hD => ⟨(wY rfl rfl rfl (hD.1 rfl _ rfl)), ?_⟩) (fun _ => rfl)
    simp [go_sem, qF av 5 (.int .u64 (f : Nat)) (hO.2.2 5 rfl), qE (hD.1 rfl _ rfl), v1, v2, v3, v4, v5, v6]
  case s7 =>
    refine step_val (fun av wv hE hS hO hD => ⟨(wY rfl rfl rfl (hD.2.2.1 rfl _ rfl)), ?_⟩) (fun _ => rfl)
    simp [go_sem, qE (hD.1 rfl _ rfl), qE (hD.2.1 rfl _ rfl), qE (hD.2.2.1 rfl _ rfl), v1, v2, v3, v4, v5, v6]
  case s8 =>
    refine step_val (fun av wv hE hS hO hD => ⟨(wY rfl rfl rfl (hD.1 rfl _ rfl)), ?_⟩) (fun _ => rfl)
    simp [go_sem, qF av 4 (.int .u64 (L : Nat)) (hO.2.2 4 rfl), qE (hD.1 rfl _ rfl), v1, v2, v3, v4, v5, v6]
  case s9 =>
    refine step_val (fun av wv hE hS hO hD => ⟨(wY rfl rfl rfl (hD.2.2.1 rfl _ rfl)), ?_⟩) (fun _ => rfl)
    simp [go_sem, qE (hD.1 rfl _ rfl), qE (hD.2.1 rfl _ rfl), qE (hD.2.2.1 rfl _ rfl), v1, v2, v3, v4, v5, v6]
  case s10 =>
    refine step_val (fun av wv hE hS hO hD => ⟨(wY rfl rfl rfl (hD.2.2.1 rfl _ rfl)), ?_⟩) (fun _ => rfl)
    simp [go_sem, qE (hD.1 rfl _ rfl), qE (hD.2.1 rfl _ rfl), qE (hD.2.2.1 rfl _ rfl), v1, v2, v3, v4, v5, v6]
  case s11 =>
    refine qV (fun _ => rfl) rfl fun av wv hE hO hD => ?_
    simp [go_sem, qE (hD.1 rfl _ rfl), qE (hD.2.1 rfl _ rfl), v1, v2, v3, v4, v5, v6]
  intro a' w' hE hO hall
  have hA := act_of_outer (ds := [66, 67, 68, 69, 70, 71, 72, 73, 74, 75, 76, 77]) rfl hO (by kernel_rfl)
  obtain ⟨j0, j1, j2, j3, j4, j5, j6, j7, j8, j9, j10, j11, -⟩ := hall
  simp only [List.foldl_cons, List.foldl_nil, Act.put, List.setIfInBounds_toArray, List.set_cons_succ, List.set_cons_zero, qJ 66 (j0 _ rfl), qJ 67 (j1 _ rfl), qJ 68 (j2 _ rfl), qJ 69 (j3 _ rfl), qJ 70 (j4 _ rfl), qJ 71 (j5 _ rfl), qJ 72 (j6 _ rfl), qJ 73 (j7 _ rfl), qJ 74 (j8 _ rfl), qJ 75 (j9 _ rfl), qJ 76 (j10 _ rfl), qJ 77 (j11 _ rfl)] at hA
  clear hO j0 j1 j2 j3 j4 j5 j6 j7 j8 j9 j10 j11
  subst hA
  have hb9 := of_drew hE
  have HGB2 := Lib.hid ((hb9.block _ (lt_of_block HGB.out)).trans HGB.out)
  have HB7 := Lib.hid (bnext HBV.out hb9)
  have HL7 := Lib.hid (HLV.out.below hb9)
  have HTW7 := Lib.hid (HTWV.out.below hb9)
  have HTP7 := Lib.hid (HTPV.out.below hb9)
  clear hE hb9 g0 v1 v2 v3 v4 v5 v6
  go_wp2_with fail
  refine (lpart_any seed f L K lb tb 1 _ HL7.out).mono ?_
  rintro e w7 ⟨rfl, hb⟩
  obtain ⟨RT, hrt⟩ : ∃ rt, ladR seed K = rt := ⟨_, rfl⟩
  have HV9 := HV.out
  rw [hrt, HSD.out] at HV9
  have HVV := Lib.hid HV9
  have HB8 := Lib.hid (bnext HB7.out hb)
  have HGB3 := Lib.hid ((hb.block _ (lt_of_block HGB2.out)).trans HGB2.out)
  have HTW8 := Lib.hid (HTW7.out.below hb)
  have HTP8 := Lib.hid (HTP7.out.below hb)
  rw [hrt]
  clear hb hrt HV9
  go_upto_region 14 with fail
  obtain ⟨pb, hpb⟩ : ∃ pb, w7.heap.size = pb := ⟨_, rfl⟩
  obtain ⟨W, hW⟩ : ∃ W, w7.alloc (.cells #[.string RT, .int .u64 1, .int .u64 (f : Nat), .int .u64 (L : Nat), .int .u64 (K : Nat)] 62) = W := ⟨_, rfl⟩
  have HPW : Hid (W.heap[pb]? = some (.cells #[.string RT, .int .u64 1, .int .u64 (f : Nat), .int .u64 (L : Nat), .int .u64 (K : Nat)] 62 (0, 0))) := Lib.hid (by rw [← hW]; exact alloc_new_at _ hpb)
  have hbw : Below w7.heap.size w7 W := by rw [← hW]; exact balloc (Below.refl _ _) _
  have HGW := Lib.hid ((hbw.block _ (lt_of_block HGB3.out)).trans HGB3.out)
  have HBW := Lib.hid (bnext HB8.out hbw)
  have HTWW := Lib.hid (HTW8.out.below hbw)
  have HTPW := Lib.hid (HTP8.out.below hbw)
  rw [hW, hpb]
  clear hW hpb hbw
  have HVR : Hid (∀ r, r < 18446744073709551616 → ∀ wv, Below W.heap.size W wv → Calls Tryz.prog 27 #[.agg #[.string RT, .int .u64 1, .int .u64 (f : Nat), .int .u64 (L : Nat), .int .u64 (K : Nat)], .int .u64 (r : Nat), .string dg, .agg #[.int .u64 (k : Nat), .slice wa (len ws) wc, .slice pa (len ps) pc]] wv fun e w' => e = .returned (.int .i64 (match keyO f L K r with | none => 16 | some j => if j = k then 0 else 10)) ∧ Below wv.heap.size wv w') := Lib.hid (fun r hr wv hb => by
    have h9 := verify_any RT dg 1 f L K r (k : Nat) ws ps wa pa wc pc wv (HTWW.out.below hb) (HTPW.out.below hb) (by have := HKL.out; omega) hr HL67.out HL0.out HPC.out
    rw [HVV.out r] at h9
    exact h9)
  have HGS : Hid (∀ wv, Below W.heap.size W wv → wv.heap[gb]? = some (.cells #[.int .u64 (k : Nat), .slice wa (len ws) wc, .slice pa (len ps) pc] 54 (0, 0)) ∧ wv.heap[pb]? = some (.cells #[.string RT, .int .u64 1, .int .u64 (f : Nat), .int .u64 (L : Nat), .int .u64 (K : Nat)] 62 (0, 0))) := Lib.hid (fun wv hb => ⟨(hb.block _ (lt_of_block HGW.out)).trans HGW.out, (hb.block _ (lt_of_block HPW.out)).trans HPW.out⟩)
  obtain ⟨E, hE9⟩ : ∃ E, f + A = E := ⟨_, rfl⟩
  have x1 : ((f : Nat) : Int) + (A : Int) = (E : Int) := by omega
  have x2 : IntKind.u64.wrap ((E : Nat) : Int) = (E : Int) := IntWalk.u64_in _ (by have := HA.out; have := HKL.out; omega)
  have HEE := Lib.hid hE9
  clear hE9
  go_wp2
  go_loopg [14, 15] A (fun gg i _ wr => ∃ j : Nat, gg + j = A ∧ i = .int .u64 ((f + j : Nat) : Int) ∧ Hid (Below W.heap.size W wr))
  case atStart => exact ⟨0, rfl, rfl, Lib.hid (Below.refl _ _)⟩
  case round =>
    obtain ⟨j, hj, rfl, HBR⟩ := hrel
    by_cases hlt : j < A
    · obtain ⟨t, ht⟩ : ∃ t, f + j = t := ⟨_, rfl⟩
      rw [ht]
      have b0 : ((t : Nat) : Int) < (E : Int) := by have := HEE.out; omega
      have HJ := Lib.hid hj
      have HLT := Lib.hid hlt
      have HTT := Lib.hid ht
      obtain ⟨hg9, hp9⟩ := HGS.out wr HBR.out
      have g0 : wr.cell? ⟨gb, 0, none⟩ = some (.int .u64 (k : Nat)) := block_cell hg9 0
      obtain ⟨a, ha⟩ : ∃ a, j / L = a := ⟨_, rfl⟩
      have HKA : Hid (keyO f L K t = some a) := Lib.hid (by
        have h2 := HKL.out
        have h4 := HA.out
        have h5 := keyO_inner (f := f) (L := L) (K := K) (r := t) (by omega) (by omega) (by omega)
        rw [show t - f = j by omega, ha] at h5
        exact h5)
      have v1 : ((t : Nat) : Int) - (f : Int) = (j : Int) := by omega
      have v2 : IntKind.u64.wrap ((j : Nat) : Int) = (j : Int) := IntWalk.u64_in _ (by have := HA.out; omega)
      have v3 : Int.tdiv ((j : Nat) : Int) (L : Int) = (a : Int) := by rw [← ha]; exact (Int.ofNat_tdiv j L).symm
      have v4 : ((j : Nat) : Int) / (L : Int) = (a : Int) := by rw [← ha]; exact (Int.natCast_ediv j L).symm
      have v5 : IntKind.u64.wrap ((a : Nat) : Int) = (a : Int) := IntWalk.u64_in _ (by have h1 := Nat.div_le_self j L; have := HA.out; omega)
      have v6 : L ≠ 0 := by have := HKL.out; omega
      obtain ⟨bq, hbq⟩ : ∃ bq, decide (a = k) = bq := ⟨_, rfl⟩
      have v7 : (((a : Nat) : Int) == ((k : Nat) : Int)) = bq := by
        rw [← hbq]
        by_cases h9 : a = k
        · subst h9; simp
        · rw [decide_eq_false h9]; simp; omega
      clear hj hlt ht ha hg9 hp9
      go_upto_region 18 with fail
      clear b0
      refine wp_region_all 1000 (none) (phis (List.map qv [.int .u64 (t : Nat), .int .u64 (f : Nat), .int .u64 (j : Nat), .int .u64 (L : Nat), .int .u64 (a : Nat), .pointer (some ⟨gb, 0, none⟩), .int .u64 (k : Nat), .bool bq])) rfl (by kernel_rfl) (mono_of mono_qv) (steps_of 8 ⟨?s0, ?s1, ?s2, ?s3, ?s4, ?s5, ?s6, ?s7, trivial⟩) ?_
      case s0 =>
        refine qV (fun _ => rfl) rfl fun av wv hE hO hD => ?_
        simp [go_sem, qF av 14 (.int .u64 (t : Nat)) (hO.2.2 14 rfl), v1, v2, v3, v4, v5, v6, v7]
      case s1 =>
        refine qV (fun _ => rfl) rfl fun av wv hE hO hD => ?_
        simp [go_sem, qF av 5 (.int .u64 (f : Nat)) (hO.2.2 5 rfl), v1, v2, v3, v4, v5, v6, v7]
      case s2 =>
        refine qV (fun _ => rfl) rfl fun av wv hE hO hD => ?_
        simp [go_sem, qE (hD.1 rfl _ rfl), qE (hD.2.1 rfl _ rfl), v1, v2, v3, v4, v5, v6, v7]
      case s3 =>
        refine qV (fun _ => rfl) rfl fun av wv hE hO hD => ?_
        simp [go_sem, qF av 4 (.int .u64 (L : Nat)) (hO.2.2 4 rfl), v1, v2, v3, v4, v5, v6, v7]
      case s4 =>
        refine qV (fun _ => rfl) rfl fun av wv hE hO hD => ?_
        simp [go_sem, qE (hD.1 rfl _ rfl), qE (hD.2.1 rfl _ rfl), v1, v2, v3, v4, v5, v6, v7]
      case s5 =>
        refine qV (fun _ => rfl) rfl fun av wv hE hO hD => ?_
        simp [go_sem, qF av 11 (.pointer (some ⟨gb, 0, none⟩)) (hO.2.2 11 rfl), v1, v2, v3, v4, v5, v6, v7]
      case s6 =>
        refine qV (fun _ => rfl) rfl fun av wv hE hO hD => ?_
        simp [go_sem, qE (hD.1 rfl _ rfl), extB_cell hE (by simp) g0, v1, v2, v3, v4, v5, v6, v7]
      case s7 =>
        refine qV (fun _ => rfl) rfl fun av wv hE hO hD => ?_
        simp [go_sem, qE (hD.1 rfl _ rfl), qE (hD.2.1 rfl _ rfl), v1, v2, v3, v4, v5, v6, v7]
      intro a' w' hE hO hall
      have hA := act_of_outer (ds := [88, 89, 90, 91, 92, 93, 94, 95]) rfl hO (by kernel_rfl)
      obtain ⟨j0, j1, j2, j3, j4, j5, j6, j7, -⟩ := hall
      simp only [List.foldl_cons, List.foldl_nil, Act.put, List.setIfInBounds_toArray, List.set_cons_succ, List.set_cons_zero, qJ 88 (j0 _ rfl), qJ 89 (j1 _ rfl), qJ 90 (j2 _ rfl), qJ 91 (j3 _ rfl), qJ 92 (j4 _ rfl), qJ 93 (j5 _ rfl), qJ 94 (j6 _ rfl), qJ 95 (j7 _ rfl)] at hA
      clear hO j0 j1 j2 j3 j4 j5 j6 j7
      subst hA
      have hb9 := of_drew hE
      have HBS := Lib.hid (bnext HBR.out hb9)
      obtain ⟨hg9, hp9⟩ := HGS.out w' HBS.out
      have gc := fun o => block_cell hg9 o
      have pcs := fun o => block_cell hp9 o
      have HBQ := Lib.hid hbq
      have hvr := HVR.out t (by have := HTT.out; have := HLT.out; have := HA.out; have := HKL.out; omega) w' HBS.out
      rw [HKA.out] at hvr
      have t1 : IntKind.u64.wrap (((t : Nat) : Int) + 1) = (t : Int) + 1 := IntWalk.u64_in _ (by have := HTT.out; have := HLT.out; have := HA.out; have := HKL.out; omega)
      clear hE hb9 g0 v1 v2 v3 v4 v5 v6 v7 hbq hg9 hp9
      cases bq with
      | true =>
        have hak : a = k := of_decide_eq_true HBQ.out
        dsimp only at hvr
        rw [if_pos hak] at hvr
        have HVQ := Lib.hid hvr
        clear hvr hak
        go_wp2_with fail
        refine HVQ.out.mono ?_
        rintro e w9 ⟨rfl, hb⟩
        have HBT := Lib.hid (bnext HBS.out hb)
        clear hb gc pcs
        go_wp2
        go_roundg (gk - 1)
        case rel => exact ⟨j + 1, by have := HJ.out; have := HLT.out; omega, by rw [← Nat.add_assoc, HTT.out]; go_num, HBT⟩
        case measure => have := HJ.out; have := HLT.out; omega
      | false =>
        have hak : ¬ a = k := of_decide_eq_false HBQ.out
        dsimp only at hvr
        rw [if_neg hak] at hvr
        have HVQ := Lib.hid hvr
        clear hvr hak
        go_wp2_with fail
        refine HVQ.out.mono ?_
        rintro e w9 ⟨rfl, hb⟩
        have HBT := Lib.hid (bnext HBS.out hb)
        clear hb gc pcs
        go_wp2
        go_roundg (gk - 1)
        case rel => exact ⟨j + 1, by have := HJ.out; have := HLT.out; omega, by rw [← Nat.add_assoc, HTT.out]; go_num, HBT⟩
        case measure => have := HJ.out; have := HLT.out; omega
    · obtain rfl : j = A := by omega
      have b0 : ¬ ((f + j : Nat) : Int) < (E : Int) := by have := HEE.out; omega
      obtain ⟨hg9, hp9⟩ := HGS.out wr HBR.out
      have gc := fun o => block_cell hg9 o
      have pcs := fun o => block_cell hp9 o
      have hvr := HVR.out E (by have := HEE.out; have := HA.out; have := HKL.out; omega) wr HBR.out
      rw [keyO_end (by have := HKL.out; omega) (by have := HEE.out; have := HA.out; omega)] at hvr
      have HVQ := Lib.hid hvr
      clear hvr hg9 hp9
      go_wp2_with fail
      refine HVQ.out.mono ?_
      rintro e w9 ⟨rfl, hb⟩
      have HBT := Lib.hid (bnext HBR.out hb)
      clear hb gc pcs
      by_cases hf0 : f = 0
      · subst hf0
        go_wp2
        go_ret
        exact ⟨rfl, HBW.out.trans (HBT.out.mono HBW.out.size)⟩
      · have f1 : ¬ ((f : Nat) : Int) = 0 := by omega
        have f2 : (((f : Nat) : Int) == 0) = false := by simpa using hf0
        obtain ⟨g, rfl⟩ : ∃ g, f = g + 1 := ⟨f - 1, by omega⟩
        have f3 : ((g + 1 : Nat) : Int) - 1 = (g : Int) := by omega
        have f4 : IntKind.u64.wrap ((g : Nat) : Int) = (g : Int) := IntWalk.u64_in _ (by have := HKL.out; omega)
        obtain ⟨hg9, hp9⟩ := HGS.out w9 HBT.out
        have gc := fun o => block_cell hg9 o
        have pcs := fun o => block_cell hp9 o
        have hvr := HVR.out g (by have := HKL.out; omega) w9 HBT.out
        rw [keyO_low (by omega)] at hvr
        have HVQ2 := Lib.hid hvr
        clear hvr hg9 hp9 hf0
        go_wp2_with fail
        refine HVQ2.out.mono ?_
        rintro e w8 ⟨rfl, hb⟩
        have HBU := Lib.hid (bnext HBT.out hb)
        clear hb gc pcs
        go_wp2
        go_ret
        exact ⟨rfl, HBW.out.trans (HBU.out.mono HBW.out.size)⟩
end Go.Proofs.YtoafjbillcooiaaGreat
namespace Go.Proofs.YtoafjbillcooiaaGreat
set_option linter.unusedSimpArgs false
set_option linter.unusedVariables false
open Go.RowKit Go.ChangeShapes Go.WideShapes Go.ChangeAt Go.Deep
section
variable {H : Type} {enc : TypeId × Value → H} {P : Program} {w : World}
theorem below_trodAll (hl : laidOutB P = true) {W W' : World} (hb : Below W.heap.size W W') : ∀ {ts : List TypeId} {vs : List Value} {ds : List (DataW H)} {ps : List MemPlace},
    (∀ t ∈ ts, P.readableRec t = true ∧ t < P.types.size) → DataW.TrodAll enc P W 0 (fun _ => true) true ts vs ds ps → DataW.TrodAll enc P W' 0 (fun b => decide (b < W.heap.size)) true ts vs ds ps
  | [], vs, ds, ps, _, h => by
    obtain ⟨rfl, rfl, rfl⟩ := trodAll_nil h
    exact trodAll_mk0
  | t :: ts, vs, ds, ps, ht, h => by
    obtain ⟨v, vs', d, ds', p, q, rfl, rfl, rfl, h0, r0⟩ := trodAll_cons h
    have lt0 : ∀ x ∈ p, x.block < W.heap.size := by obtain ⟨m, hm⟩ := h0; exact DataW.trod_lt m _ _ _ hm
    exact trodAll_cons_mk (Below.trod hl (ht t (List.mem_cons_self ..)).1 (ht t (List.mem_cons_self ..)).2 h0 hb lt0) (below_trodAll hl hb (fun t' h' => ht t' (List.mem_cons_of_mem _ h')) r0)
theorem cell_read {n : Nat} {e : TypeId} {k : IntKind} {v : Value} {y : DataW H × List MemPlace} (he : P.underlying e = some (.int k)) (h : DataW.trod enc P w 0 (fun _ => true) true n e [v] = some y) : ∃ x, v = .int k x ∧ (Lit.int k x).wf = true := by
  obtain ⟨x, hx, _, hw⟩ := DataW.trod_int he h
  exact ⟨x, by simpa using hx, hw⟩
theorem wf_u64 {x : Int} (h : (Lit.int .u64 x).wf = true) : 0 ≤ x ∧ x < 18446744073709551616 := by
  simp [Lit.wf, IntKind.min, IntKind.max, IntKind.bits, IntKind.signed] at h; omega
theorem wf_u8 {x : Int} (h : (Lit.int .u8 x).wf = true) : 0 ≤ x ∧ x ≤ 255 := by
  simp [Lit.wf, IntKind.min, IntKind.max, IntKind.bits, IntKind.signed] at h; omega
end
end Go.Proofs.YtoafjbillcooiaaGreat
namespace Go.Proofs.YtoafjbillcooiaaGreat
set_option linter.unusedSimpArgs false
set_option linter.unusedVariables false
open Go.RowKit Go.ChangeShapes Go.WideShapes Go.ChangeAt
theorem own : ownKnob Tryz.prog.godebug = none := by kernel_rfl
theorem laidOut : laidOutB Tryz.prog = true := by kernel_rfl
end Go.Proofs.YtoafjbillcooiaaGreat
namespace Go.Proofs.YtoafjbillcooiaaGreat
set_option linter.unusedSimpArgs false
set_option linter.unusedVariables false
open Go.RowKit Go.ChangeShapes Go.WideShapes Go.ChangeAt Go.ChangeMaps
section
variable {P : Program} {H : Type} {enc : TypeId × Value → H} {w : World}
theorem wf_i64 {x : Int} (h : (Lit.int .i64 x).wf = true) : -9223372036854775808 ≤ x ∧ x ≤ 9223372036854775807 := by
  simp [Lit.wf, IntKind.min, IntKind.max, IntKind.bits, IntKind.signed] at h; omega
end
end Go.Proofs.YtoafjbillcooiaaGreat
namespace Go.Proofs.YtoafjbillcooiaaGreat
open Go.RowKit Go.ChangeShapes Go.WideShapes Go.ChangeAt Go.Deep Go.ChangeMaps
set_option linter.unusedSimpArgs false
set_option linter.unusedVariables false
set_option maxRecDepth 100000 in
theorem open_made {H : Type} {enc : TypeId × Value → H} {w : World} {v : Value} {d : DataW H} {p : List MemPlace} {r : Reach} {base : Nat} (hv : Value.okWide Tryz.prog w r base 50 v) (h : DataW.Trod enc Tryz.prog w 0 (fun _ => true) true 50 v d p) :
    ∃ (s d9 z F L : Nat) (K : Int) (R wt : Nat), v = .agg (madeV s d9 z F L K R wt).toArray ∧ s ≤ 255 ∧ d9 ≤ 255 ∧ z ≤ 255 ∧ F < 18446744073709551616 ∧ L < 18446744073709551616 ∧ (-9223372036854775808 ≤ K ∧ K ≤ 9223372036854775807) ∧ R < 18446744073709551616 ∧ wt < 18446744073709551616 := by
  obtain ⟨cs', rfl, hsz⟩ := okWide_struct Tryz.underlying50 hv
  have hsz' : cs'.size = 8 := hsz.trans (by kernel_rfl)
  obtain ⟨l⟩ := cs'
  match l, hsz' with
  | [v0, v1, v2, v3, v4, v5, v6, v7], _ =>
    obtain ⟨fuel, hf⟩ := h
    obtain ⟨xs, m, _, _, _, hxl, hx⟩ := DataW.trod_struct Tryz.underlying50 hf
    have hxl' : xs.length = 8 := hxl
    simp only [Value.cells] at hx
    have h0 : DataW.trod enc Tryz.prog w 0 (fun _ => true) true m 5 (([v0, v1, v2, v3, v4, v5, v6, v7].drop 0).take (Tryz.prog.cellsOf 5)) = xs[0]? := hx 0 _ rfl
    rw [show Tryz.prog.cellsOf 5 = 1 by kernel_rfl] at h0
    have h1 : DataW.trod enc Tryz.prog w 0 (fun _ => true) true m 5 (([v0, v1, v2, v3, v4, v5, v6, v7].drop 1).take (Tryz.prog.cellsOf 5)) = xs[1]? := hx 1 _ rfl
    rw [show Tryz.prog.cellsOf 5 = 1 by kernel_rfl] at h1
    have h2 : DataW.trod enc Tryz.prog w 0 (fun _ => true) true m 5 (([v0, v1, v2, v3, v4, v5, v6, v7].drop 2).take (Tryz.prog.cellsOf 5)) = xs[2]? := hx 2 _ rfl
    rw [show Tryz.prog.cellsOf 5 = 1 by kernel_rfl] at h2
    have h3 : DataW.trod enc Tryz.prog w 0 (fun _ => true) true m 37 (([v0, v1, v2, v3, v4, v5, v6, v7].drop 3).take (Tryz.prog.cellsOf 37)) = xs[3]? := hx 3 _ rfl
    rw [show Tryz.prog.cellsOf 37 = 1 by kernel_rfl] at h3
    have h4 : DataW.trod enc Tryz.prog w 0 (fun _ => true) true m 37 (([v0, v1, v2, v3, v4, v5, v6, v7].drop 4).take (Tryz.prog.cellsOf 37)) = xs[4]? := hx 4 _ rfl
    rw [show Tryz.prog.cellsOf 37 = 1 by kernel_rfl] at h4
    have h5 : DataW.trod enc Tryz.prog w 0 (fun _ => true) true m 3 (([v0, v1, v2, v3, v4, v5, v6, v7].drop 5).take (Tryz.prog.cellsOf 3)) = xs[5]? := hx 5 _ rfl
    rw [show Tryz.prog.cellsOf 3 = 1 by kernel_rfl] at h5
    have h6 : DataW.trod enc Tryz.prog w 0 (fun _ => true) true m 37 (([v0, v1, v2, v3, v4, v5, v6, v7].drop 6).take (Tryz.prog.cellsOf 37)) = xs[6]? := hx 6 _ rfl
    rw [show Tryz.prog.cellsOf 37 = 1 by kernel_rfl] at h6
    have h7 : DataW.trod enc Tryz.prog w 0 (fun _ => true) true m 37 (([v0, v1, v2, v3, v4, v5, v6, v7].drop 7).take (Tryz.prog.cellsOf 37)) = xs[7]? := hx 7 _ rfl
    rw [show Tryz.prog.cellsOf 37 = 1 by kernel_rfl] at h7
    obtain ⟨n0, rfl, w0⟩ := cell_read Tryz.underlying5 (h0.trans (List.getElem?_eq_getElem (show 0 < xs.length by omega)))
    obtain ⟨n1, rfl, w1⟩ := cell_read Tryz.underlying5 (h1.trans (List.getElem?_eq_getElem (show 1 < xs.length by omega)))
    obtain ⟨n2, rfl, w2⟩ := cell_read Tryz.underlying5 (h2.trans (List.getElem?_eq_getElem (show 2 < xs.length by omega)))
    obtain ⟨n3, rfl, w3⟩ := cell_read Tryz.underlying37 (h3.trans (List.getElem?_eq_getElem (show 3 < xs.length by omega)))
    obtain ⟨n4, rfl, w4⟩ := cell_read Tryz.underlying37 (h4.trans (List.getElem?_eq_getElem (show 4 < xs.length by omega)))
    obtain ⟨n5, rfl, w5⟩ := cell_read Tryz.underlying3 (h5.trans (List.getElem?_eq_getElem (show 5 < xs.length by omega)))
    obtain ⟨n6, rfl, w6⟩ := cell_read Tryz.underlying37 (h6.trans (List.getElem?_eq_getElem (show 6 < xs.length by omega)))
    obtain ⟨n7, rfl, w7⟩ := cell_read Tryz.underlying37 (h7.trans (List.getElem?_eq_getElem (show 7 < xs.length by omega)))
    have u0 := wf_u8 w0
    have u1 := wf_u8 w1
    have u2 := wf_u8 w2
    have u3 := wf_u64 w3
    have u4 := wf_u64 w4
    have u5 := wf_i64 w5
    have u6 := wf_u64 w6
    have u7 := wf_u64 w7
    obtain ⟨s, rfl⟩ := Int.eq_ofNat_of_zero_le u0.1
    obtain ⟨d9, rfl⟩ := Int.eq_ofNat_of_zero_le u1.1
    obtain ⟨z, rfl⟩ := Int.eq_ofNat_of_zero_le u2.1
    obtain ⟨F, rfl⟩ := Int.eq_ofNat_of_zero_le u3.1
    obtain ⟨L, rfl⟩ := Int.eq_ofNat_of_zero_le u4.1
    obtain ⟨R, rfl⟩ := Int.eq_ofNat_of_zero_le u6.1
    obtain ⟨wt, rfl⟩ := Int.eq_ofNat_of_zero_le u7.1
    exact ⟨s, d9, z, F, L, n5, R, wt, rfl, by omega, by omega, by omega, by omega, by omega, u5, by omega, by omega⟩
end Go.Proofs.YtoafjbillcooiaaGreat
