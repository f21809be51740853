/- Parts of the proof, one behind the other. -/
import Derived.Test.YtoafjbillcooiaaGreatLknP3
import Derived.ProofKit
import Derived.OpenShut
import Derived.ShutString
import Derived.ChangeOld
import Derived.Deep.Slices
import Derived.Deep.Fields
namespace Go.Proofs.YtoafjbillcooiaaGreat
open Go.RowKit
set_option linter.unusedSimpArgs false
set_option linter.unusedVariables false
theorem ladR_one (seed : ByteArray) : ladR seed 1 = hashP leafT [num8S 0 ++ publicP seed 0] := by
  unfold ladR treeR
  have e : depN (rungL seed 1) = 0 := by unfold depN; rw [rungL_len]; rfl
  rw [e]
  unfold plD
  have e2 : revOf 0 0 = 0 := rfl
  rw [e2, if_pos (by rw [rungL_len]; decide), rungL_at _ _ _ (by decide)]
  rfl
theorem wk_new : newE 32 7 3 1 = 0 := by decide
theorem wk_key7 : keyO 7 3 1 7 = some 0 := by decide
theorem wk_key9 : keyO 7 3 1 9 = some 0 := by decide
theorem wk_key10 : keyO 7 3 1 10 = none := by decide
theorem wk_ver (seed dg : ByteArray) (hd : dg.size = 32) (r : Nat) : verE (ladR seed 1) 7 3 1 r dg (signD seed 7 3 1 9 dg) = match keyO 7 3 1 r with | none => 16 | some j => if j = 0 then 0 else 10 :=
  holds_verE hd (by decide) (by decide) (by decide) wk_key9
theorem SignIs.lit {S : SigD} {E : Int} {w w' : World} {e : Ending} (h : SignIs S E w e w') : ∃ wa wc pa pc, e = .returned (.tuple #[.agg #[.int .u64 S.ix, .slice wa (len S.ws) wc, .slice pa (len S.ps) pc], .int .i64 E]) ∧ Txts w' wa S.ws ∧ Txts w' pa S.ps ∧ len S.ps ≤ pc ∧ Below w.heap.size w w' := by
  obtain ⟨v, p, rfl, ⟨wa, wc, rfl, h1, -⟩, ⟨pa, pc, rfl, h2, h3, -⟩, hb⟩ := h
  exact ⟨wa, wc, pa, pc, rfl, h1, h2, h3, hb⟩
set_option maxRecDepth 100000 in
set_option maxHeartbeats 8000000 in
theorem works14_any (w : World) : Calls Tryz.prog 29 #[] w fun e w' => e = .returned (.bool true) ∧ Below w.heap.size w w' := by
  go_enter Tryz.func29, Tryz.ntmps29
  go_wp2_with fail
  refine (text14_any 115 32 w (by decide) (by decide)).mono ?_
  rintro e w1 ⟨rfl, hb1⟩
  have HB1 := Lib.hid hb1
  clear hb1
  go_wp2_with fail
  refine (text14_any 100 32 w1 (by decide) (by decide)).mono ?_
  rintro e w2 ⟨rfl, hb2⟩
  have HB2 := Lib.hid (bnext HB1.out hb2)
  obtain ⟨seed, hseed⟩ : ∃ s, textN 115 32 = s := ⟨_, rfl⟩
  obtain ⟨dg, hdg⟩ : ∃ s, textN 100 32 = s := ⟨_, rfl⟩
  have HSS : Hid (seed.size = 32) := Lib.hid (by rw [← hseed]; exact textN_size _ _)
  have HDS : Hid (dg.size = 32) := Lib.hid (by rw [← hdg]; exact textN_size _ _)
  rw [hseed, hdg]
  clear hb2 hseed hdg
  go_wp2_with fail
  refine (new14_any seed 7 3 1 w2 (by decide)).mono ?_
  rintro e w3 ⟨hn, hb3⟩
  have HB3 := Lib.hid (bnext HB2.out hb3)
  rw [HSS.out, wk_new] at hn
  obtain ⟨h9, -⟩ | ⟨-, lb, tb, rfl, hl, -⟩ := hn
  · exact absurd rfl h9
  have HL : Hid (LadAt seed 7 3 1 lb tb w3) := Lib.hid hl
  clear hb3 hl
  go_wp2_with fail
  have hsg := sign14_any seed dg 7 3 1 lb tb 9 w3 HL.out (by decide) (by decide) (by decide) (by decide) (by rw [HSS.out]; decide)
  refine hsg.mono ?_
  rintro e w4 hs
  obtain ⟨wa, wc, pa, pc, rfl, htw, htp, hpc, hb4⟩ := hs.lit
  have hsd := signD_ok (seed := seed) (d := dg) wk_key9 HDS.out
  have HV := Lib.hid (wk_ver seed dg HDS.out)
  obtain ⟨ws, hws⟩ : ∃ ws, (signD seed 7 3 1 9 dg).ws = ws := ⟨_, rfl⟩
  obtain ⟨ps, hps⟩ : ∃ ps, (signD seed 7 3 1 9 dg).ps = ps := ⟨_, rfl⟩
  have hix : (signD seed 7 3 1 9 dg).ix = 0 := by rw [hsd.1]; rfl
  have HSD : Hid (signD seed 7 3 1 9 dg = ⟨0, ws, ps⟩) := Lib.hid (by rw [← hws, ← hps, ← hix])
  have hl67 : len ws = 67 := by rw [← hws, hsd.1]; show len (sgL seed 0 dg) = 67; unfold sgL; rw [if_pos HDS.out]; exact chL_len _ _
  have hl0 : len ps = 0 := by rw [← hps, hsd.1]; show len (oneD (rungL seed 1) 0) = 0; rw [oneD_len (by rw [rungL_len]; decide)]; unfold depN; rw [rungL_len]; rfl
  rw [hws, hps, hix, hsd.2, hl67, hl0]
  rw [hws] at htw
  rw [hps] at htp hpc
  have HL67 := Lib.hid hl67
  have HL0 := Lib.hid hl0
  have HTW := Lib.hid htw
  have HTP := Lib.hid htp
  have HB4 := Lib.hid (bnext HB3.out hb4)
  have HL4 := Lib.hid (HL.out.below hb4)
  clear hsg hs hsd hws hps hix hl67 hl0 htw htp hpc hb4
  go_upto_region 6 with fail
  obtain ⟨sb, hsb⟩ : ∃ sb, w4.heap.size = sb := ⟨_, rfl⟩
  obtain ⟨V, hV⟩ : ∃ V, w4.alloc (.cells #[.int .u64 0, .slice wa 67 wc, .slice pa 0 pc] 54) = V := ⟨_, rfl⟩
  have HSB : Hid (V.heap[sb]? = some (.cells #[.int .u64 0, .slice wa 67 wc, .slice pa 0 pc] 54 (0, 0))) := Lib.hid (by rw [← hV]; exact alloc_new_at _ hsb)
  have hbv : Below w4.heap.size w4 V := by rw [← hV]; exact balloc (Below.refl _ _) _
  have HBV := Lib.hid (bnext HB4.out hbv)
  have HLV := Lib.hid (HL4.out.below hbv)
  have HTWV := Lib.hid (HTW.out.below hbv)
  have HTPV := Lib.hid (HTP.out.below hbv)
  rw [hV, hsb]
  clear hV hsb hbv
  go_wp2_with fail
  refine (lpart_any seed 7 3 1 lb tb 5 V HLV.out).mono ?_
  rintro e w5 ⟨rfl, hb5⟩
  obtain ⟨RT, hrt⟩ : ∃ rt, ladR seed 1 = rt := ⟨_, rfl⟩
  rw [hrt]
  have HSB5 := Lib.hid ((hb5.block _ (lt_of_block HSB.out)).trans HSB.out)
  have HB5 := Lib.hid (bnext HBV.out hb5)
  have HL5 := Lib.hid (HLV.out.below hb5)
  have HTW5 := Lib.hid (HTWV.out.below hb5)
  have HTP5 := Lib.hid (HTPV.out.below hb5)
  have HV9 := HV.out
  rw [hrt, HSD.out] at HV9
  have HVV := Lib.hid HV9
  have HRQ := Lib.hid (ladR_one seed)
  rw [hrt] at HRQ
  have HLR : Hid (∀ wv lb' tb', LadAt seed 7 3 1 lb' tb' wv → Calls Tryz.prog 35 #[.pointer (some ⟨lb', 0, none⟩)] wv fun e w' => e = .returned (.string RT) ∧ Below wv.heap.size wv w') := Lib.hid (fun wv b1 b2 h => by rw [← hrt]; exact lroot14_any seed 7 3 1 b1 b2 wv h)
  clear hb5 HV9 hrt
  go_upto_region 7 with fail
  obtain ⟨pb, hpb⟩ : ∃ pb, w5.heap.size = pb := ⟨_, rfl⟩
  obtain ⟨W, hW⟩ : ∃ W, w5.alloc (.cells #[.string RT, .int .u64 5, .int .u64 7, .int .u64 3, .int .u64 1] 62) = W := ⟨_, rfl⟩
  have hpw : W.heap[pb]? = some (.cells #[.string RT, .int .u64 5, .int .u64 7, .int .u64 3, .int .u64 1] 62 (0, 0)) := by rw [← hW]; exact alloc_new_at _ hpb
  have hbw : Below w5.heap.size w5 W := by rw [← hW]; exact balloc (Below.refl _ _) _
  have hsw := (hbw.block _ (lt_of_block HSB5.out)).trans HSB5.out
  have s0 : W.cell? ⟨sb, 0, none⟩ = some (.int .u64 0) := block_cell hsw 0
  have s1 : W.cell? ⟨sb, 1, none⟩ = some (.slice wa 67 wc) := block_cell hsw 1
  have s2 : W.cell? ⟨sb, 2, none⟩ = some (.slice pa 0 pc) := block_cell hsw 2
  have t0 : W.cell? ⟨pb, 0, none⟩ = some (.string RT) := block_cell hpw 0
  have t1 : W.cell? ⟨pb, 1, none⟩ = some (.int .u64 5) := block_cell hpw 1
  have t2 : W.cell? ⟨pb, 2, none⟩ = some (.int .u64 7) := block_cell hpw 2
  have t3 : W.cell? ⟨pb, 3, none⟩ = some (.int .u64 3) := block_cell hpw 3
  have t4 : W.cell? ⟨pb, 4, none⟩ = some (.int .u64 1) := block_cell hpw 4
  have HBW := Lib.hid (bnext HB5.out hbw)
  have HLW := Lib.hid (HL5.out.below hbw)
  have HTWW := Lib.hid (HTW5.out.below hbw)
  have HTPW := Lib.hid (HTP5.out.below hbw)
  rw [hW, hpb]
  clear hW hpb hpw hbw hsw
  obtain ⟨P, hP⟩ : ∃ P, num8S 0 = P := ⟨_, rfl⟩
  obtain ⟨Q, hQ⟩ : ∃ Q, publicP seed 0 = Q := ⟨_, rfl⟩
  have qz : P.size + Q.size ≤ 9223372036854775807 := by rw [← hP, ← hQ, num8S_size, publicP_size]; decide
  have qb : (RT.toList == RT.toList) = true := by rw [str_beq]; exact decide_eq_true rfl
  have HRT : Hid (∀ wv, Below W.heap.size W wv → Calls Tryz.prog 35 #[.pointer (some ⟨lb, 0, none⟩)] wv fun e w' => e = .returned (.string RT) ∧ Below wv.heap.size wv w') := Lib.hid (fun wv hb => HLR.out wv lb tb (HLW.out.below hb))
  have HNM : Hid (∀ wv, Calls Tryz.prog 40 #[.int .u64 0] wv fun e w' => e = .returned (.string P) ∧ Below wv.heap.size wv w') := Lib.hid (fun wv => by rw [← hP]; exact dnum_any 0 wv (by decide))
  have HPB : Hid (∀ wv, Calls Tryz.prog 41 #[.string seed, .int .u64 0] wv fun e w' => e = .returned (.string Q) ∧ Below wv.heap.size wv w') := Lib.hid (fun wv => by rw [← hQ]; exact public_any seed 0 wv (by decide) (by rw [HSS.out]; decide))
  have HHS : Hid (∀ wv b, wv.heap[b]? = some (.cells #[.string (P ++ Q)] 9 (0, 0)) → Calls Tryz.prog 53 #[.string leafT, .slice (some ⟨b, 0, none⟩) 1 1] wv fun e w' => e = .returned (.string RT) ∧ Below wv.heap.size wv w') := Lib.hid (fun wv b h => by
    rw [HRQ.out, hP, hQ]
    exact hash_any leafT [P ++ Q] (some ⟨b, 0, none⟩) 1 wv (by decide) (by decide) (txts1 h) (by
      have e : (P ++ Q).size = 40 := by rw [ByteArray.size_append, ← hP, ← hQ, num8S_size, publicP_size]
      simp [partsL, partL_len, e]))
  have hver : ∀ r, r < 18446744073709551616 → ∀ wv, Below W.heap.size W wv → Calls Tryz.prog 27 #[.agg #[.string RT, .int .u64 5, .int .u64 7, .int .u64 3, .int .u64 1], .int .u64 (r : Nat), .string dg, .agg #[.int .u64 0, .slice wa 67 wc, .slice pa 0 pc]] wv fun e w' => e = .returned (.int .i64 (verE RT 7 3 1 r dg ⟨0, ws, ps⟩)) ∧ Below wv.heap.size wv w' := fun r hr wv hb => by
    have h9 := verify_any RT dg 5 7 3 1 r 0 ws ps wa pa wc pc wv (HTWW.out.below hb) (HTPW.out.below hb) (by decide) hr (by rw [HL67.out]; decide) (by rw [HL0.out]; decide) (by rw [HL0.out]; exact Nat.zero_le _)
    rw [HL67.out, HL0.out] at h9
    exact h9
  have HV7 : Hid (∀ wv, Below W.heap.size W wv → Calls Tryz.prog 27 #[.agg #[.string RT, .int .u64 5, .int .u64 7, .int .u64 3, .int .u64 1], .int .u64 7, .string dg, .agg #[.int .u64 0, .slice wa 67 wc, .slice pa 0 pc]] wv fun e w' => e = .returned (.int .i64 0) ∧ Below wv.heap.size wv w') := Lib.hid (fun wv hb => by
    have h9 := hver 7 (by decide) wv hb
    rw [HVV.out 7, wk_key7] at h9
    exact h9)
  have HV10 : Hid (∀ wv, Below W.heap.size W wv → Calls Tryz.prog 27 #[.agg #[.string RT, .int .u64 5, .int .u64 7, .int .u64 3, .int .u64 1], .int .u64 10, .string dg, .agg #[.int .u64 0, .slice wa 67 wc, .slice pa 0 pc]] wv fun e w' => e = .returned (.int .i64 16) ∧ Below wv.heap.size wv w') := Lib.hid (fun wv hb => by
    have h9 := hver 10 (by decide) wv hb
    rw [HVV.out 10, wk_key10] at h9
    exact h9)
  clear hver hP hQ
  refine wp_region_all 1000 (none) (phis [fun u _ => u = (.pointer (some ⟨lb, 0, none⟩)), fun u _ => u = (.string RT), fun u _ => u = (.string P), fun u _ => u = (.string seed), fun u _ => u = (.string Q), fun u _ => u = (.string (P ++ Q)), fun u w' => ∃ b, u = .slice (some ⟨b, 0, none⟩) 1 1 ∧ w'.heap[b]? = some (.cells #[.string (P ++ Q)] 9 (0, 0)), fun u _ => u = (.string RT), fun u _ => u = (.bool true), fun u _ => u = (.bool true), fun u _ => u = (.int .i64 0), fun u _ => u = (.bool true), fun u _ => u = (.bool true), fun u _ => u = (.bool true), fun u _ => u = (.pointer (some ⟨sb, 1, none⟩)), fun u _ => u = (.slice wa 67 wc), fun u _ => u = (.int .i64 67), fun u _ => u = (.bool true), fun u _ => u = (.bool true), fun u _ => u = (.bool true), fun u _ => u = (.pointer (some ⟨sb, 2, none⟩)), fun u _ => u = (.slice pa 0 pc), fun u _ => u = (.int .i64 0), fun u _ => u = (.bool true), fun u _ => u = (.bool true), fun u _ => u = (.bool true), fun u _ => u = (.agg #[.string RT, .int .u64 5, .int .u64 7, .int .u64 3, .int .u64 1]), fun u _ => u = (.pointer (some ⟨lb, 0, none⟩)), fun u _ => u = (.string RT), fun u _ => u = (.agg #[.string RT, .int .u64 5, .int .u64 7, .int .u64 3, .int .u64 1]), fun u _ => u = (.bool true), fun u _ => u = (.bool true), fun u _ => u = (.bool true), fun u _ => u = (.agg #[.string RT, .int .u64 5, .int .u64 7, .int .u64 3, .int .u64 1]), fun u _ => u = (.string dg), fun u _ => u = (.agg #[.int .u64 0, .slice wa 67 wc, .slice pa 0 pc]), fun u _ => u = (.int .i64 0), fun u _ => u = (.bool true), fun u _ => u = (.bool true), fun u _ => u = (.bool true), fun u _ => u = (.agg #[.string RT, .int .u64 5, .int .u64 7, .int .u64 3, .int .u64 1]), fun u _ => u = (.string dg), fun u _ => u = (.agg #[.int .u64 0, .slice wa 67 wc, .slice pa 0 pc]), fun u _ => u = (.int .i64 16), fun u _ => u = (.bool true), fun u _ => u = (.bool true), fun u _ => u = (.bool true)]) rfl (by kernel_rfl) (mono_of ⟨mono_eq, mono_eq, mono_eq, mono_eq, mono_eq, mono_eq, ?m6, mono_eq, mono_eq, mono_eq, mono_eq, mono_eq, mono_eq, mono_eq, mono_eq, mono_eq, mono_eq, mono_eq, mono_eq, mono_eq, mono_eq, mono_eq, mono_eq, mono_eq, mono_eq, mono_eq, mono_eq, mono_eq, mono_eq, mono_eq, mono_eq, mono_eq, mono_eq, mono_eq, mono_eq, mono_eq, mono_eq, mono_eq, mono_eq, mono_eq, mono_eq, mono_eq, mono_eq, mono_eq, mono_eq, mono_eq, mono_eq, trivial⟩) (steps_of 47 ⟨?s0, ?s1, ?s2, ?s3, ?s4, ?s5, ?s6, ?s7, ?s8, ?s9, ?s10, ?s11, ?s12, ?s13, ?s14, ?s15, ?s16, ?s17, ?s18, ?s19, ?s20, ?s21, ?s22, ?s23, ?s24, ?s25, ?s26, ?s27, ?s28, ?s29, ?s30, ?s31, ?s32, ?s33, ?s34, ?s35, ?s36, ?s37, ?s38, ?s39, ?s40, ?s41, ?s42, ?s43, ?s44, ?s45, ?s46, trivial⟩) ?_
  case m6 =>
    exact ⟨fun u w1 w' h ⟨b, h1, hb⟩ => ⟨b, h1, ext_block h hb⟩, fun _ u w1 w' h ⟨b, h1, hb⟩ => ⟨b, h1, extB_block h (by simp) hb⟩⟩
  case s0 =>
    refine qV (fun _ => rfl) rfl fun av wv hE hO hD => ?_
    simp [go_sem, qF av 3 (.pointer (some ⟨lb, 0, none⟩)) (hO.2.2 3 rfl), qz, qb]
  case s1 =>
    refine step_wp (fun av wv hE hS hO hD => ⟨rfl, ?_⟩)
    have f29 := qE (hD.1 rfl _ rfl)
    refine wp_of_call (v := .string RT) (by simp [go_sem, f29]) (HRT.out wv (of_drew hE)) (fun w2 hb => ⟨_, rfl, es_of_ext hb, rfl⟩)
  case s2 =>
    refine step_wp (fun av wv hE hS hO hD => ⟨rfl, ?_⟩)
    refine wp_of_call (v := .string P) (by simp [go_sem]) (HNM.out wv) (fun w2 hb => ⟨_, rfl, es_of_ext hb, rfl⟩)
  case s3 =>
    refine qV (fun _ => rfl) rfl fun av wv hE hO hD => ?_
    simp [go_sem, qF av 1 (.string seed) (hO.2.2 1 rfl), qz, qb]
  case s4 =>
    refine step_wp (fun av wv hE hS hO hD => ⟨rfl, ?_⟩)
    have f32 := qE (hD.1 rfl _ rfl)
    refine wp_of_call (v := .string Q) (by simp [go_sem, f32]) (HPB.out wv) (fun w2 hb => ⟨_, rfl, es_of_ext hb, rfl⟩)
  case s5 =>
    refine qV (fun _ => rfl) rfl fun av wv hE hO hD => ?_
    simp [go_sem, qE (hD.1 rfl _ rfl), qE (hD.2.1 rfl _ rfl), qz, qb]
  case s6 =>
    refine step_wp (fun av wv hE hS hO hD => ⟨rfl, ?_⟩)
    have f34 := qE (hD.1 rfl _ rfl)
    exact wp_of_run (v := .slice (some ⟨wv.heap.size, 0, none⟩) 1 1) (w' := wv.alloc (.cells #[.string (P ++ Q)] 9)) (by simp [go_sem, f34]) ⟨_, rfl, es_of_ext (balloc (Ext_refl _) _), wv.heap.size, rfl, heap_alloc_new _ _⟩
  case s7 =>
    refine step_wp (fun av wv hE hS hO hD => ⟨rfl, ?_⟩)
    have d35 : (fun u w' => ∃ b, u = .slice (some ⟨b, 0, none⟩) 1 1 ∧ w'.heap[b]? = some (.cells #[.string (P ++ Q)] 9 (0, 0))) (av.eval (.tmp 35)) wv := hD.1 rfl _ rfl
    obtain ⟨b, hq, hcq⟩ := d35
    have fq := (ev_form av 35).symm.trans hq
    refine wp_of_call (v := .string RT) (by simp [go_sem, fq, leafT]) (HHS.out wv b hcq) (fun w2 hb => ⟨_, rfl, es_of_ext hb, rfl⟩)
  case s8 =>
    refine qV (fun _ => rfl) rfl fun av wv hE hO hD => ?_
    simp [go_sem, qE (hD.1 rfl _ rfl), qE (hD.2.1 rfl _ rfl), qz, qb]
  case s9 =>
    refine qV (fun _ => rfl) rfl fun av wv hE hO hD => ?_
    simp [go_sem, qE (hD.1 rfl _ rfl), qz, qb]
  case s10 =>
    refine step_val (fun av wv hE hS hO hD => ⟨(wY rfl rfl rfl (hD.1 rfl _ rfl)), ?_⟩) (fun _ => rfl)
    simp [go_sem, qF av 6 (.int .i64 0) (hO.2.2 6 rfl), qE (hD.1 rfl _ rfl), qz, qb]
  case s11 =>
    refine step_val (fun av wv hE hS hO hD => ⟨(wY rfl rfl rfl (hD.2.1 rfl _ rfl)), ?_⟩) (fun _ => rfl)
    simp [go_sem, qE (hD.1 rfl _ rfl), qE (hD.2.1 rfl _ rfl), qz, qb]
  case s12 =>
    refine qV (fun _ => rfl) rfl fun av wv hE hO hD => ?_
    simp [go_sem, qE (hD.1 rfl _ rfl), qE (hD.2.1 rfl _ rfl), qz, qb]
  case s13 =>
    refine qV (fun _ => rfl) rfl fun av wv hE hO hD => ?_
    simp [go_sem, qE (hD.1 rfl _ rfl), qz, qb]
  case s14 =>
    refine step_val (fun av wv hE hS hO hD => ⟨(wY rfl rfl rfl (hD.1 rfl _ rfl)), ?_⟩) (fun _ => rfl)
    simp [go_sem, qF av 5 (.pointer (some ⟨sb, 0, none⟩)) (hO.2.2 5 rfl), qE (hD.1 rfl _ rfl), qz, qb]
  case s15 =>
    refine step_val (fun av wv hE hS hO hD => ⟨(wY rfl rfl rfl (hD.2.1 rfl _ rfl)), ?_⟩) (fun _ => rfl)
    simp [go_sem, qE (hD.1 rfl _ rfl), qE (hD.2.1 rfl _ rfl), extB_cell hE (by simp) s0, extB_cell hE (by simp) s1, extB_cell hE (by simp) s2, extB_cell hE (by simp) t0, extB_cell hE (by simp) t1, extB_cell hE (by simp) t2, extB_cell hE (by simp) t3, extB_cell hE (by simp) t4, qz, qb]
  case s16 =>
    refine step_val (fun av wv hE hS hO hD => ⟨(wY rfl rfl rfl (hD.2.1 rfl _ rfl)), ?_⟩) (fun _ => rfl)
    simp [go_sem, qE (hD.1 rfl _ rfl), qE (hD.2.1 rfl _ rfl), qz, qb]
  case s17 =>
    refine step_val (fun av wv hE hS hO hD => ⟨(wY rfl rfl rfl (hD.2.1 rfl _ rfl)), ?_⟩) (fun _ => rfl)
    simp [go_sem, qE (hD.1 rfl _ rfl), qE (hD.2.1 rfl _ rfl), qz, qb]
  case s18 =>
    refine qV (fun _ => rfl) rfl fun av wv hE hO hD => ?_
    simp [go_sem, qE (hD.1 rfl _ rfl), qE (hD.2.1 rfl _ rfl), qz, qb]
  case s19 =>
    refine qV (fun _ => rfl) rfl fun av wv hE hO hD => ?_
    simp [go_sem, qE (hD.1 rfl _ rfl), qz, qb]
  case s20 =>
    refine step_val (fun av wv hE hS hO hD => ⟨(wY rfl rfl rfl (hD.1 rfl _ rfl)), ?_⟩) (fun _ => rfl)
    simp [go_sem, qF av 5 (.pointer (some ⟨sb, 0, none⟩)) (hO.2.2 5 rfl), qE (hD.1 rfl _ rfl), qz, qb]
  case s21 =>
    refine step_val (fun av wv hE hS hO hD => ⟨(wY rfl rfl rfl (hD.2.1 rfl _ rfl)), ?_⟩) (fun _ => rfl)
    simp [go_sem, qE (hD.1 rfl _ rfl), qE (hD.2.1 rfl _ rfl), extB_cell hE (by simp) s0, extB_cell hE (by simp) s1, extB_cell hE (by simp) s2, extB_cell hE (by simp) t0, extB_cell hE (by simp) t1, extB_cell hE (by simp) t2, extB_cell hE (by simp) t3, extB_cell hE (by simp) t4, qz, qb]
  case s22 =>
    refine step_val (fun av wv hE hS hO hD => ⟨(wY rfl rfl rfl (hD.2.1 rfl _ rfl)), ?_⟩) (fun _ => rfl)
    simp [go_sem, qE (hD.1 rfl _ rfl), qE (hD.2.1 rfl _ rfl), qz, qb]
  case s23 =>
    refine step_val (fun av wv hE hS hO hD => ⟨(wY rfl rfl rfl (hD.2.1 rfl _ rfl)), ?_⟩) (fun _ => rfl)
    simp [go_sem, qE (hD.1 rfl _ rfl), qE (hD.2.1 rfl _ rfl), qz, qb]
  case s24 =>
    refine qV (fun _ => rfl) rfl fun av wv hE hO hD => ?_
    simp [go_sem, qE (hD.1 rfl _ rfl), qE (hD.2.1 rfl _ rfl), qz, qb]
  case s25 =>
    refine qV (fun _ => rfl) rfl fun av wv hE hO hD => ?_
    simp [go_sem, qE (hD.1 rfl _ rfl), qz, qb]
  case s26 =>
    refine step_val (fun av wv hE hS hO hD => ⟨(wY rfl rfl rfl (hD.1 rfl _ rfl)), ?_⟩) (fun _ => rfl)
    simp [go_sem, qF av 7 (.pointer (some ⟨pb, 0, none⟩)) (hO.2.2 7 rfl), qE (hD.1 rfl _ rfl), extB_cell hE (by simp) s0, extB_cell hE (by simp) s1, extB_cell hE (by simp) s2, extB_cell hE (by simp) t0, extB_cell hE (by simp) t1, extB_cell hE (by simp) t2, extB_cell hE (by simp) t3, extB_cell hE (by simp) t4, qz, qb]
  case s27 =>
    refine step_val (fun av wv hE hS hO hD => ⟨(wY rfl rfl rfl (hD.1 rfl _ rfl)), ?_⟩) (fun _ => rfl)
    simp [go_sem, qF av 3 (.pointer (some ⟨lb, 0, none⟩)) (hO.2.2 3 rfl), qE (hD.1 rfl _ rfl), qz, qb]
  case s28 =>
    refine step_wp (fun av wv hE hS hO hD => ⟨(wY rfl rfl rfl (hD.2.1 rfl _ rfl)), ?_⟩)
    have f56 := qE (hD.1 rfl _ rfl)
    refine wp_of_call (v := .string RT) (by simp [go_sem, f56]) (HRT.out wv (of_drew hE)) (fun w2 hb => ⟨_, rfl, es_of_ext hb, rfl⟩)
  case s29 =>
    refine step_val (fun av wv hE hS hO hD => ⟨(wY rfl rfl rfl (hD.2.1 rfl _ rfl)), ?_⟩) (fun _ => rfl)
    simp [go_sem, qE (hD.1 rfl _ rfl), qE (hD.2.1 rfl _ rfl), qz, qb]
  case s30 =>
    refine step_val (fun av wv hE hS hO hD => ⟨(wY rfl rfl rfl (hD.2.2.1 rfl _ rfl)), ?_⟩) (fun _ => rfl)
    simp [go_sem, qE (hD.1 rfl _ rfl), qE (hD.2.1 rfl _ rfl), qE (hD.2.2.1 rfl _ rfl), qz, qb]
  case s31 =>
    refine qV (fun _ => rfl) rfl fun av wv hE hO hD => ?_
    simp [go_sem, qE (hD.1 rfl _ rfl), qE (hD.2.1 rfl _ rfl), qz, qb]
  case s32 =>
    refine qV (fun _ => rfl) rfl fun av wv hE hO hD => ?_
    simp [go_sem, qE (hD.1 rfl _ rfl), qz, qb]
  case s33 =>
    refine step_val (fun av wv hE hS hO hD => ⟨(wY rfl rfl rfl (hD.1 rfl _ rfl)), ?_⟩) (fun _ => rfl)
    simp [go_sem, qF av 7 (.pointer (some ⟨pb, 0, none⟩)) (hO.2.2 7 rfl), qE (hD.1 rfl _ rfl), extB_cell hE (by simp) s0, extB_cell hE (by simp) s1, extB_cell hE (by simp) s2, extB_cell hE (by simp) t0, extB_cell hE (by simp) t1, extB_cell hE (by simp) t2, extB_cell hE (by simp) t3, extB_cell hE (by simp) t4, qz, qb]
  case s34 =>
    refine step_val (fun av wv hE hS hO hD => ⟨(wY rfl rfl rfl (hD.1 rfl _ rfl)), ?_⟩) (fun _ => rfl)
    simp [go_sem, qF av 2 (.string dg) (hO.2.2 2 rfl), qE (hD.1 rfl _ rfl), qz, qb]
  case s35 =>
    refine step_val (fun av wv hE hS hO hD => ⟨(wY rfl rfl rfl (hD.1 rfl _ rfl)), ?_⟩) (fun _ => rfl)
    simp [go_sem, qF av 5 (.pointer (some ⟨sb, 0, none⟩)) (hO.2.2 5 rfl), qE (hD.1 rfl _ rfl), extB_cell hE (by simp) s0, extB_cell hE (by simp) s1, extB_cell hE (by simp) s2, extB_cell hE (by simp) t0, extB_cell hE (by simp) t1, extB_cell hE (by simp) t2, extB_cell hE (by simp) t3, extB_cell hE (by simp) t4, qz, qb]
  case s36 =>
    refine step_wp (fun av wv hE hS hO hD => ⟨(wY rfl rfl rfl (hD.2.2.2.1 rfl _ rfl)), ?_⟩)
    have f62 := qE (hD.1 rfl _ rfl)
    have f63 := qE (hD.2.1 rfl _ rfl)
    have f64 := qE (hD.2.2.1 rfl _ rfl)
    refine wp_of_call (v := .int .i64 0) (by simp [go_sem, f62, f63, f64]) (HV7.out wv (of_drew hE)) (fun w2 hb => ⟨_, rfl, es_of_ext hb, rfl⟩)
  case s37 =>
    refine step_val (fun av wv hE hS hO hD => ⟨(wY rfl rfl rfl (hD.2.1 rfl _ rfl)), ?_⟩) (fun _ => rfl)
    simp [go_sem, qE (hD.1 rfl _ rfl), qE (hD.2.1 rfl _ rfl), qz, qb]
  case s38 =>
    refine qV (fun _ => rfl) rfl fun av wv hE hO hD => ?_
    simp [go_sem, qE (hD.1 rfl _ rfl), qE (hD.2.1 rfl _ rfl), qz, qb]
  case s39 =>
    refine qV (fun _ => rfl) rfl fun av wv hE hO hD => ?_
    simp [go_sem, qE (hD.1 rfl _ rfl), qz, qb]
  case s40 =>
    refine step_val (fun av wv hE hS hO hD => ⟨(wY rfl rfl rfl (hD.1 rfl _ rfl)), ?_⟩) (fun _ => rfl)
    simp [go_sem, qF av 7 (.pointer (some ⟨pb, 0, none⟩)) (hO.2.2 7 rfl), qE (hD.1 rfl _ rfl), extB_cell hE (by simp) s0, extB_cell hE (by simp) s1, extB_cell hE (by simp) s2, extB_cell hE (by simp) t0, extB_cell hE (by simp) t1, extB_cell hE (by simp) t2, extB_cell hE (by simp) t3, extB_cell hE (by simp) t4, qz, qb]
  case s41 =>
    refine step_val (fun av wv hE hS hO hD => ⟨(wY rfl rfl rfl (hD.1 rfl _ rfl)), ?_⟩) (fun _ => rfl)
    simp [go_sem, qF av 2 (.string dg) (hO.2.2 2 rfl), qE (hD.1 rfl _ rfl), qz, qb]
  case s42 =>
    refine step_val (fun av wv hE hS hO hD => ⟨(wY rfl rfl rfl (hD.1 rfl _ rfl)), ?_⟩) (fun _ => rfl)
    simp [go_sem, qF av 5 (.pointer (some ⟨sb, 0, none⟩)) (hO.2.2 5 rfl), qE (hD.1 rfl _ rfl), extB_cell hE (by simp) s0, extB_cell hE (by simp) s1, extB_cell hE (by simp) s2, extB_cell hE (by simp) t0, extB_cell hE (by simp) t1, extB_cell hE (by simp) t2, extB_cell hE (by simp) t3, extB_cell hE (by simp) t4, qz, qb]
  case s43 =>
    refine step_wp (fun av wv hE hS hO hD => ⟨(wY rfl rfl rfl (hD.2.2.2.1 rfl _ rfl)), ?_⟩)
    have f69 := qE (hD.1 rfl _ rfl)
    have f70 := qE (hD.2.1 rfl _ rfl)
    have f71 := qE (hD.2.2.1 rfl _ rfl)
    refine wp_of_call (v := .int .i64 16) (by simp [go_sem, f69, f70, f71]) (HV10.out wv (of_drew hE)) (fun w2 hb => ⟨_, rfl, es_of_ext hb, rfl⟩)
  case s44 =>
    refine step_val (fun av wv hE hS hO hD => ⟨(wY rfl rfl rfl (hD.2.1 rfl _ rfl)), ?_⟩) (fun _ => rfl)
    simp [go_sem, qE (hD.1 rfl _ rfl), qE (hD.2.1 rfl _ rfl), qz, qb]
  case s45 =>
    refine qV (fun _ => rfl) rfl fun av wv hE hO hD => ?_
    simp [go_sem, qE (hD.1 rfl _ rfl), qE (hD.2.1 rfl _ rfl), qz, qb]
  case s46 =>
    refine qV (fun _ => rfl) rfl fun av wv hE hO hD => ?_
    simp [go_sem, qE (hD.1 rfl _ rfl), qz, qb]
  intro a' w' hE hO hall
  have hA := act_of_outer (ds := [29, 30, 31, 32, 33, 34, 35, 36, 37, 38, 39, 40, 41, 42, 43, 44, 45, 46, 47, 48, 49, 50, 51, 52, 53, 54, 55, 56, 57, 58, 59, 60, 61, 62, 63, 64, 65, 66, 67, 68, 69, 70, 71, 72, 73, 74, 0]) rfl hO (by kernel_rfl)
  obtain ⟨j0, j1, j2, j3, j4, j5, j6, j7, j8, j9, j10, j11, j12, j13, j14, j15, j16, j17, j18, j19, j20, j21, j22, j23, j24, j25, j26, j27, j28, j29, j30, j31, j32, j33, j34, j35, j36, j37, j38, j39, j40, j41, j42, j43, j44, j45, j46, -⟩ := hall
  have e35 : (fun u w' => ∃ b, u = .slice (some ⟨b, 0, none⟩) 1 1 ∧ w'.heap[b]? = some (.cells #[.string (P ++ Q)] 9 (0, 0))) (a'.eval (.tmp 35)) w' := j6 _ rfl
  obtain ⟨v35, hv35⟩ : ∃ v, a'.eval (.tmp 35) = v := ⟨_, rfl⟩
  rw [hv35] at e35
  simp only [List.foldl_cons, List.foldl_nil, Act.put, List.setIfInBounds_toArray, List.set_cons_succ, List.set_cons_zero, qJ 29 (j0 _ rfl), qJ 30 (j1 _ rfl), qJ 31 (j2 _ rfl), qJ 32 (j3 _ rfl), qJ 33 (j4 _ rfl), qJ 34 (j5 _ rfl), hv35, qJ 36 (j7 _ rfl), qJ 37 (j8 _ rfl), qJ 38 (j9 _ rfl), qJ 39 (j10 _ rfl), qJ 40 (j11 _ rfl), qJ 41 (j12 _ rfl), qJ 42 (j13 _ rfl), qJ 43 (j14 _ rfl), qJ 44 (j15 _ rfl), qJ 45 (j16 _ rfl), qJ 46 (j17 _ rfl), qJ 47 (j18 _ rfl), qJ 48 (j19 _ rfl), qJ 49 (j20 _ rfl), qJ 50 (j21 _ rfl), qJ 51 (j22 _ rfl), qJ 52 (j23 _ rfl), qJ 53 (j24 _ rfl), qJ 54 (j25 _ rfl), qJ 55 (j26 _ rfl), qJ 56 (j27 _ rfl), qJ 57 (j28 _ rfl), qJ 58 (j29 _ rfl), qJ 59 (j30 _ rfl), qJ 60 (j31 _ rfl), qJ 61 (j32 _ rfl), qJ 62 (j33 _ rfl), qJ 63 (j34 _ rfl), qJ 64 (j35 _ rfl), qJ 65 (j36 _ rfl), qJ 66 (j37 _ rfl), qJ 67 (j38 _ rfl), qJ 68 (j39 _ rfl), qJ 69 (j40 _ rfl), qJ 70 (j41 _ rfl), qJ 71 (j42 _ rfl), qJ 72 (j43 _ rfl), qJ 73 (j44 _ rfl), qJ 74 (j45 _ rfl), qJ 0 (j46 _ rfl)] at hA
  clear hO j6 j0 j1 j2 j3 j4 j5 hv35 j7 j8 j9 j10 j11 j12 j13 j14 j15 j16 j17 j18 j19 j20 j21 j22 j23 j24 j25 j26 j27 j28 j29 j30 j31 j32 j33 j34 j35 j36 j37 j38 j39 j40 j41 j42 j43 j44 j45 j46
  subst hA
  have HE := Lib.hid (of_drew hE)
  clear hE s0 s1 s2 t0 t1 t2 t3 t4 qz qb
  go_wp2
  go_ret
  exact ⟨rfl, bnext HBW.out HE.out⟩
end Go.Proofs.YtoafjbillcooiaaGreat
namespace Go.Proofs.YtoafjbillcooiaaGreat
open Go.RowKit
set_option linter.unusedSimpArgs false
set_option linter.unusedVariables false
theorem rootN_any (w : World) : Calls Tryz.prog 35 #[.pointer none] w fun e w' => e = .returned (.string ⟨#[]⟩) ∧ Below w.heap.size w w' := by
  go_enter Tryz.func35, Tryz.ntmps35
  go_wp2
  go_ret
  exact ⟨rfl, by (repeat (first | exact Below.refl _ _ | assumption | (refine bdrew ?_) | (refine bdrewN ?_ _) | (refine balloc ?_ _) | (refine bset ?_ (by first | omega | (simp; done) | (simp; omega)) _) | (refine bnext ?_ (by assumption))))⟩
theorem keyN_any (r : Nat) (w : World) : Calls Tryz.prog 37 #[.pointer none, .int .u64 (r : Nat)] w fun e w' => e = .returned (.tuple #[.int .u64 0, .bool false]) ∧ Below w.heap.size w w' := by
  go_enter Tryz.func37, Tryz.ntmps37
  go_wp2
  go_ret2
  exact ⟨rfl, by (repeat (first | exact Below.refl _ _ | assumption | (refine bdrew ?_) | (refine bdrewN ?_ _) | (refine balloc ?_ _) | (refine bset ?_ (by first | omega | (simp; done) | (simp; omega)) _) | (refine bnext ?_ (by assumption))))⟩
theorem partN_any (wt : Nat) (w : World) : Calls Tryz.prog 32 #[.pointer none, .int .u64 (wt : Nat)] w fun e w' => e = .returned (.agg #[.string ⟨#[]⟩, .int .u64 0, .int .u64 0, .int .u64 0, .int .u64 0]) ∧ Below w.heap.size w w' := by
  go_enter Tryz.func32, Tryz.ntmps32
  go_wp2
  have hk := alloc_new_at (w := w) (.cells #[.string ⟨#[]⟩, .int .u64 0, .int .u64 0, .int .u64 0, .int .u64 0] 62) rfl
  have e0 := block_cell hk 0
  have e1 := block_cell hk 1
  have e2 := block_cell hk 2
  have e3 := block_cell hk 3
  have e4 := block_cell hk 4
  refine bodyPost_ret (v := .agg #[.string ⟨#[]⟩, .int .u64 0, .int .u64 0, .int .u64 0, .int .u64 0]) ?_ rfl ⟨rfl, by (repeat (first | exact Below.refl _ _ | assumption | (refine bdrew ?_) | (refine bdrewN ?_ _) | (refine balloc ?_ _) | (refine bset ?_ (by first | omega | (simp; done) | (simp; omega)) _) | (refine bnext ?_ (by assumption))))⟩
  simp [results, Tryz.results32, go_sem, e0, e1, e2, e3, e4]
theorem signN_any (r : Nat) (d : ByteArray) (w : World) : Calls Tryz.prog 31 #[.pointer none, .int .u64 (r : Nat), .string d] w fun e w' => e = .returned (.tuple #[.agg #[.int .u64 0, .slice none 0 0, .slice none 0 0], .int .i64 1]) ∧ Below w.heap.size w w' := by
  go_enter Tryz.func31, Tryz.ntmps31
  go_wp2
  have hk := alloc_new_at (w := (w.alloc (.cells #[.pointer none] 68)).alloc (.cells #[.string d] 9)) (n := w.heap.size + 1 + 1) (.cells #[.int .u64 0, .slice none 0 0, .slice none 0 0] 54) (by simp)
  have e0 := block_cell hk 0
  have e1 := block_cell hk 1
  have e2 := block_cell hk 2
  refine bodyPost_ret (v := .tuple #[.agg #[.int .u64 0, .slice none 0 0, .slice none 0 0], .int .i64 1]) ?_ rfl ⟨rfl, by (repeat (first | exact Below.refl _ _ | assumption | (refine bdrew ?_) | (refine bdrewN ?_ _) | (refine balloc ?_ _) | (refine bset ?_ (by first | omega | (simp; done) | (simp; omega)) _) | (refine bnext ?_ (by assumption))))⟩
  simp [results, Tryz.results31, go_sem, e0, e1, e2]
theorem new14_err (seed : ByteArray) (f L : Nat) (K x : Int) (w : World) (hf : f < 18446744073709551616) (h : newE seed.size f L K = x) (hx : x ≠ 0) : Calls Tryz.prog 30 #[.string seed, .int .u64 (f : Nat), .int .u64 (L : Nat), .int .i64 K] w fun e w' => e = .returned (.tuple #[.pointer none, .int .i64 x]) ∧ Below w.heap.size w w' := by
  refine (new14_any seed f L K w hf).mono ?_
  rintro e w' ⟨⟨-, rfl⟩ | ⟨h0, -⟩, hb⟩
  · rw [h]; exact ⟨rfl, hb⟩
  · rw [h] at h0; exact absurd h0 hx
theorem new14_ok (seed : ByteArray) (f L : Nat) (K : Int) (w : World) (hf : f < 18446744073709551616) (h : newE seed.size f L K = 0) : Calls Tryz.prog 30 #[.string seed, .int .u64 (f : Nat), .int .u64 (L : Nat), .int .i64 K] w fun e w' => ∃ b tb, e = .returned (.tuple #[.pointer (some ⟨b, 0, none⟩), .int .i64 0]) ∧ LadAt seed f L K.toNat b tb w' ∧ Below w.heap.size w w' := by
  refine (new14_any seed f L K w hf).mono ?_
  rintro e w' ⟨⟨h0, -⟩ | ⟨-, b, tb, rfl, hl, -⟩, hb⟩
  · exact absurd h h0
  · exact ⟨b, tb, rfl, hl, hb⟩
theorem kn_sz (d : ByteArray) (h : d.size = 32) : (d.extract 1 32).size = 31 := by
  rw [ByteArray.size_extract, h]
  decide
set_option maxRecDepth 100000 in
set_option maxHeartbeats 8000000 in
theorem known14_law (w : World) : Calls Tryz.prog 9 #[] w fun e w' => e = .returned (.bool true) ∧ Below w.heap.size w w' := by
  go_enter Tryz.func9, Tryz.ntmps9
  go_wp2_with fail
  refine (text14_any 115 32 w (by decide) (by decide)).mono ?_
  rintro e w1 ⟨rfl, hb1⟩
  have HB1 := Lib.hid hb1
  clear hb1
  go_wp2_with fail
  refine (text14_any 100 32 w1 (by decide) (by decide)).mono ?_
  rintro e w2 ⟨rfl, hb2⟩
  have HB2 := Lib.hid (bnext HB1.out hb2)
  obtain ⟨seed, hseed⟩ : ∃ s, textN 115 32 = s := ⟨_, rfl⟩
  obtain ⟨dg, hdg⟩ : ∃ s, textN 100 32 = s := ⟨_, rfl⟩
  have HSS : Hid (seed.size = 32) := Lib.hid (by rw [← hseed]; exact textN_size _ _)
  have HDS : Hid (dg.size = 32) := Lib.hid (by rw [← hdg]; exact textN_size _ _)
  rw [hseed, hdg]
  clear hb2 hseed hdg
  go_wp2_with fail
  refine (new14_ok seed 100 10 4 w2 (by decide) (by rw [HSS.out]; decide)).mono ?_
  rintro e w3 ⟨lb, tb, rfl, hl, hb3⟩
  have HB3 := Lib.hid (bnext HB2.out hb3)
  have HL : Hid (LadAt seed 100 10 4 lb tb w3) := Lib.hid hl
  clear hb3 hl
  go_wp2_with fail
  refine (works14_any w3).mono ?_
  rintro e w4 ⟨rfl, hb4⟩
  have HB4 := Lib.hid (bnext HB3.out hb4)
  have HL4 := Lib.hid (HL.out.below hb4)
  clear hb4
  go_upto_region 7 with fail
  obtain ⟨rb, hrb⟩ : ∃ rb, w4.heap.size = rb := ⟨_, rfl⟩
  obtain ⟨V, hV⟩ : ∃ V, ((w4.alloc (.cells #[.int .u64 99, .int .u64 100, .int .u64 109, .int .u64 110, .int .u64 139, .int .u64 140] 37)).alloc (.cells #[.int .u64 0, .int .u64 0, .int .u64 0, .int .u64 1, .int .u64 3, .int .u64 0] 37)) = V := ⟨_, rfl⟩
  have HR : Hid (V.heap[rb]? = some (.cells #[.int .u64 99, .int .u64 100, .int .u64 109, .int .u64 110, .int .u64 139, .int .u64 140] 37 (0, 0))) := Lib.hid (by rw [← hV]; exact block_alloc (alloc_new_at _ hrb) _)
  have HKB : Hid (V.heap[rb + 1]? = some (.cells #[.int .u64 0, .int .u64 0, .int .u64 0, .int .u64 1, .int .u64 3, .int .u64 0] 37 (0, 0))) := Lib.hid (by rw [← hV]; exact alloc_new_at _ (by simp; omega))
  have hbv : Below w4.heap.size w4 V := by rw [← hV]; exact balloc (balloc (Below.refl _ _) _) _
  have HBV := Lib.hid (bnext HB4.out hbv)
  have HLV := Lib.hid (HL4.out.below hbv)
  rw [hV, hrb]
  clear hV hrb hbv
  have HKY : Hid (∀ r : Nat, r < 18446744073709551616 → ∀ wv, Below V.heap.size V wv → Calls Tryz.prog 37 #[.pointer (some ⟨lb, 0, none⟩), .int .u64 (r : Nat)] wv fun e w' => e = .returned (keyV (keyO 100 10 4 r)) ∧ Below wv.heap.size wv w') := Lib.hid (fun r hr wv hb => lkeyM_any seed 100 10 4 lb tb r wv (HLV.out.below hb) (by decide) hr (by decide))
  go_wp2
  go_loopg [7, 8, 9] 6 (fun gg i _ _ wr => ∃ m : Nat, gg + m = 6 ∧ i = .int .i64 (m : Nat) ∧ Hid (Below V.heap.size V wr))
  case atStart => exact ⟨0, rfl, rfl, Lib.hid (Below.refl _ _)⟩
  case round =>
    obtain ⟨m, hm, rfl, HW⟩ := hrel
    have hrw := (HW.out.block _ (lt_of_block HR.out)).trans HR.out
    have hkw := (HW.out.block _ (lt_of_block HKB.out)).trans HKB.out
    by_cases hlt : m < 6
    · have HM := Lib.hid hm
      clear hm
      rcases (by omega : m = 0 ∨ m = 1 ∨ m = 2 ∨ m = 3 ∨ m = 4 ∨ m = 5) with rfl | rfl | rfl | rfl | rfl | rfl
      case' inl =>
        have c1 : wr.cell? ⟨rb, 0, none⟩ = some (.int .u64 99) := block_cell hrw 0
        have HK := Lib.hid (show Calls Tryz.prog 37 #[.pointer (some ⟨lb, 0, none⟩), .int .u64 99] wr (fun e w' => e = .returned (.tuple #[.int .u64 0, .bool false]) ∧ Below wr.heap.size wr w') from HKY.out 99 (by decide) wr HW.out)
      case' inr.inl =>
        have c1 : wr.cell? ⟨rb, 1, none⟩ = some (.int .u64 100) := block_cell hrw 1
        have HK := Lib.hid (show Calls Tryz.prog 37 #[.pointer (some ⟨lb, 0, none⟩), .int .u64 100] wr (fun e w' => e = .returned (.tuple #[.int .u64 0, .bool true]) ∧ Below wr.heap.size wr w') from HKY.out 100 (by decide) wr HW.out)
      case' inr.inr.inl =>
        have c1 : wr.cell? ⟨rb, 2, none⟩ = some (.int .u64 109) := block_cell hrw 2
        have HK := Lib.hid (show Calls Tryz.prog 37 #[.pointer (some ⟨lb, 0, none⟩), .int .u64 109] wr (fun e w' => e = .returned (.tuple #[.int .u64 0, .bool true]) ∧ Below wr.heap.size wr w') from HKY.out 109 (by decide) wr HW.out)
      case' inr.inr.inr.inl =>
        have c1 : wr.cell? ⟨rb, 3, none⟩ = some (.int .u64 110) := block_cell hrw 3
        have HK := Lib.hid (show Calls Tryz.prog 37 #[.pointer (some ⟨lb, 0, none⟩), .int .u64 110] wr (fun e w' => e = .returned (.tuple #[.int .u64 1, .bool true]) ∧ Below wr.heap.size wr w') from HKY.out 110 (by decide) wr HW.out)
      case' inr.inr.inr.inr.inl =>
        have c1 : wr.cell? ⟨rb, 4, none⟩ = some (.int .u64 139) := block_cell hrw 4
        have HK := Lib.hid (show Calls Tryz.prog 37 #[.pointer (some ⟨lb, 0, none⟩), .int .u64 139] wr (fun e w' => e = .returned (.tuple #[.int .u64 3, .bool true]) ∧ Below wr.heap.size wr w') from HKY.out 139 (by decide) wr HW.out)
      case' inr.inr.inr.inr.inr =>
        have c1 : wr.cell? ⟨rb, 5, none⟩ = some (.int .u64 140) := block_cell hrw 5
        have HK := Lib.hid (show Calls Tryz.prog 37 #[.pointer (some ⟨lb, 0, none⟩), .int .u64 140] wr (fun e w' => e = .returned (.tuple #[.int .u64 0, .bool false]) ∧ Below wr.heap.size wr w') from HKY.out 140 (by decide) wr HW.out)
      all_goals
        clear hrw hkw hlt
        go_wp2_with fail
        refine HK.out.mono ?_
        rintro e w5 ⟨rfl, hb⟩
        have HW2 := Lib.hid (bnext HW.out hb)
        have hkx := (HW2.out.block _ (lt_of_block HKB.out)).trans HKB.out
        have c2 := fun o => block_cell hkx o
        clear hb c1 hkx HK
        go_wp2
        go_roundg (gk - 1)
        case rel => first | exact ⟨1, by have := HM.out; omega, rfl, HW2⟩ | exact ⟨2, by have := HM.out; omega, rfl, HW2⟩ | exact ⟨3, by have := HM.out; omega, rfl, HW2⟩ | exact ⟨4, by have := HM.out; omega, rfl, HW2⟩ | exact ⟨5, by have := HM.out; omega, rfl, HW2⟩ | exact ⟨6, by have := HM.out; omega, rfl, HW2⟩
        case measure => have := HM.out; omega
    · obtain rfl : m = 6 := by omega
      have b0 : ¬ ((6 : Nat) : Int) < 6 := by decide
      have HLW := Lib.hid (HLV.out.below HW.out)
      have HBW := Lib.hid (bnext HBV.out HW.out)
      clear hrw hkw HW HBV HLV HKY HR HKB HL4 HB4 HB3 HL HB2 HB1 hlt hm
      go_wp2_with fail
      have hsg := sign14_any seed dg 100 10 4 lb tb 125 wr HLW.out (by decide) (by decide) (by decide) (by decide) (by rw [HSS.out]; decide)
      refine hsg.mono ?_
      rintro e w5 hs
      obtain ⟨wa, wc, pa, pc, rfl, htw, htp, hpc, hb⟩ := hs.lit
      have hko : keyO 100 10 4 125 = some 2 := by decide
      have hsd := signD_ok (seed := seed) (d := dg) hko HDS.out
      have HV : Hid (∀ r, verE (ladR seed 4) 100 10 4 r dg (signD seed 100 10 4 125 dg) = match keyO 100 10 4 r with | none => 16 | some j => if j = 2 then 0 else 10) := Lib.hid (fun r => holds_verE HDS.out (by decide) (by decide) (by decide) hko)
      obtain ⟨ws, hws⟩ : ∃ ws, (signD seed 100 10 4 125 dg).ws = ws := ⟨_, rfl⟩
      obtain ⟨ps, hps⟩ : ∃ ps, (signD seed 100 10 4 125 dg).ps = ps := ⟨_, rfl⟩
      have hix : (signD seed 100 10 4 125 dg).ix = 2 := by rw [hsd.1]; rfl
      have HSD : Hid (signD seed 100 10 4 125 dg = ⟨2, ws, ps⟩) := Lib.hid (by rw [← hws, ← hps, ← hix])
      have hl67 : len ws = 67 := by rw [← hws, hsd.1]; show len (sgL seed 2 dg) = 67; unfold sgL; rw [if_pos HDS.out]; exact chL_len _ _
      have hl2 : len ps = 2 := by rw [← hps, hsd.1]; show len (oneD (rungL seed 4) 2) = 2; rw [oneD_len (by rw [rungL_len]; decide)]; unfold depN; rw [rungL_len]; rfl
      rw [hws, hps, hix, hsd.2, hl67, hl2]
      rw [hws] at htw
      rw [hps] at htp hpc
      have HL67 := Lib.hid hl67
      have HL2 := Lib.hid hl2
      have HTW := Lib.hid htw
      have HTP := Lib.hid htp
      have HPC := Lib.hid hpc
      have HB5 := Lib.hid (bnext HBW.out hb)
      have HL5 := Lib.hid (HLW.out.below hb)
      clear hsg hs hsd hko hws hps hix hl67 hl2 htw htp hpc hb
      go_upto_region 14 with fail
      obtain ⟨gb, hgb⟩ : ∃ gb, w5.heap.size = gb := ⟨_, rfl⟩
      obtain ⟨V5, hV5⟩ : ∃ V5, w5.alloc (.cells #[.int .u64 2, .slice wa 67 wc, .slice pa 2 pc] 54) = V5 := ⟨_, rfl⟩
      have HG : Hid (V5.heap[gb]? = some (.cells #[.int .u64 2, .slice wa 67 wc, .slice pa 2 pc] 54 (0, 0))) := Lib.hid (by rw [← hV5]; exact alloc_new_at _ hgb)
      have hbv : Below w5.heap.size w5 V5 := by rw [← hV5]; exact balloc (Below.refl _ _) _
      have HB6 := Lib.hid (bnext HB5.out hbv)
      have HL6 := Lib.hid (HL5.out.below hbv)
      have HTW6 := Lib.hid (HTW.out.below hbv)
      have HTP6 := Lib.hid (HTP.out.below hbv)
      rw [hV5, hgb]
      clear hV5 hgb hbv
      go_wp2_with fail
      have hsg := sign14_any seed dg 100 10 4 lb tb 140 V5 HL6.out (by decide) (by decide) (by decide) (by decide) (by rw [HSS.out]; decide)
      rw [(signD_no (show keyO 100 10 4 140 = none by decide)).1, (signD_no (seed := seed) (d := dg) (show keyO 100 10 4 140 = none by decide)).2] at hsg
      refine hsg.mono ?_
      rintro e w6 hs
      obtain ⟨za, zc, ya, yc, rfl, -, -, -, hb⟩ := hs.lit
      have HB7 : Hid (Below V5.heap.size V5 w6) := Lib.hid hb
      clear hsg hs hb
      go_upto_region 15 with fail
      obtain ⟨V6, hV6⟩ : ∃ V6, w6.alloc (.cells #[.int .u64 0, .slice za (len ([] : List ByteArray)) zc, .slice ya (len ([] : List ByteArray)) yc] 54) = V6 := ⟨_, rfl⟩
      have HB8 : Hid (Below V5.heap.size V5 V6) := Lib.hid (by rw [← hV6]; exact balloc HB7.out _)
      rw [hV6]
      clear hV6
      have hdz := HDS.out
      go_wp2_with fail
      have hsg := sign14_any seed (dg.extract 1 32) 100 10 4 lb tb 125 V6 (HL6.out.below HB8.out) (by decide) (by decide) (by decide) (by decide) (by rw [HSS.out]; decide)
      have hn32 : (dg.extract 1 32).size ≠ 32 := by rw [kn_sz dg HDS.out]; decide
      have hb2 := signD_bad (seed := seed) (d := dg.extract 1 32) (show keyO 100 10 4 125 = some 2 by decide) hn32
      rw [hb2.1, hb2.2] at hsg
      refine hsg.mono ?_
      rintro e w7 hs
      obtain ⟨xa, xc, va, vc, rfl, -, -, -, hb⟩ := hs.lit
      have HB9 : Hid (Below V5.heap.size V5 w7) := Lib.hid (bnext HB8.out hb)
      clear hsg hs hb hb2 hn32 hdz
      go_upto_region 16 with fail
      obtain ⟨V7, hV7⟩ : ∃ V7, w7.alloc (.cells #[.int .u64 0, .slice xa (len ([] : List ByteArray)) xc, .slice va (len ([] : List ByteArray)) vc] 54) = V7 := ⟨_, rfl⟩
      have HB10 : Hid (Below V5.heap.size V5 V7) := Lib.hid (by rw [← hV7]; exact balloc HB9.out _)
      rw [hV7]
      clear hV7
      go_wp2_with fail
      refine (lpart_any seed 100 10 4 lb tb 1 V7 (HL6.out.below HB10.out)).mono ?_
      rintro e w8 ⟨rfl, hb⟩
      obtain ⟨RT, hrt⟩ : ∃ rt, ladR seed 4 = rt := ⟨_, rfl⟩
      have HV9 := HV.out
      rw [hrt, HSD.out] at HV9
      have HRS : Hid (RT.size = 32) := Lib.hid (by rw [← hrt]; exact ladR_size _ _)
      have HVV := Lib.hid HV9
      have HB11 : Hid (Below V5.heap.size V5 w8) := Lib.hid (bnext HB10.out hb)
      rw [hrt]
      clear hb hrt HV9
      go_upto_region 17 with fail
      obtain ⟨pb, hpb⟩ : ∃ pb, w8.heap.size = pb := ⟨_, rfl⟩
      obtain ⟨W, hW⟩ : ∃ W, w8.alloc (.cells #[.string RT, .int .u64 1, .int .u64 100, .int .u64 10, .int .u64 4] 62) = W := ⟨_, rfl⟩
      have HPW : Hid (W.heap[pb]? = some (.cells #[.string RT, .int .u64 1, .int .u64 100, .int .u64 10, .int .u64 4] 62 (0, 0))) := Lib.hid (by rw [← hW]; exact alloc_new_at _ hpb)
      have HB12 : Hid (Below V5.heap.size V5 W) := Lib.hid (by rw [← hW]; exact balloc HB11.out _)
      have HGW := Lib.hid ((HB12.out.block _ (lt_of_block HG.out)).trans HG.out)
      have HBW2 : Hid (Below w.heap.size w W) := Lib.hid (bnext HB6.out HB12.out)
      rw [hW, hpb]
      clear hW hpb
      have HVR : Hid (∀ (root : ByteArray) (f r : Nat) (wt L K : Nat), f < 18446744073709551616 → r < 18446744073709551616 → ∀ wv, Below W.heap.size W wv → Calls Tryz.prog 27 #[.agg #[.string root, .int .u64 (wt : Nat), .int .u64 (f : Nat), .int .u64 (L : Nat), .int .u64 (K : Nat)], .int .u64 (r : Nat), .string dg, .agg #[.int .u64 2, .slice wa 67 wc, .slice pa 2 pc]] wv fun e w' => e = .returned (.int .i64 (verE root f L K r dg ⟨2, ws, ps⟩)) ∧ Below wv.heap.size wv w') := Lib.hid (fun root f r wt L K hf hr wv hb => by
        have h9 := verify_any root dg wt f L K r 2 ws ps wa pa wc pc wv (HTW6.out.below (bnext HB12.out hb)) (HTP6.out.below (bnext HB12.out hb)) hf hr (by rw [HL67.out]; decide) (by rw [HL2.out]; decide) HPC.out
        rw [HL67.out, HL2.out] at h9
        exact h9)
      have HV4 : Hid (∀ (r : Nat) (x : Int), r < 18446744073709551616 → (match keyO 100 10 4 r with | none => 16 | some j => if j = 2 then 0 else 10) = x → ∀ wv, Below W.heap.size W wv → Calls Tryz.prog 27 #[.agg #[.string RT, .int .u64 1, .int .u64 100, .int .u64 10, .int .u64 4], .int .u64 (r : Nat), .string dg, .agg #[.int .u64 2, .slice wa 67 wc, .slice pa 2 pc]] wv fun e w' => e = .returned (.int .i64 x) ∧ Below wv.heap.size wv w') := Lib.hid (fun r x hr hx wv hb => by
        have h9 := HVR.out RT 100 r 1 10 4 (by decide) hr wv hb
        rw [HVV.out r, hx] at h9
        exact h9)
      have HCG : Hid (∀ wv, Below W.heap.size W wv → (∀ o, wv.cell? ⟨gb, o, none⟩ = (#[Value.int .u64 2, .slice wa 67 wc, .slice pa 2 pc] : Array Value)[o]?) ∧ ∀ o, wv.cell? ⟨pb, o, none⟩ = (#[Value.string RT, .int .u64 1, .int .u64 100, .int .u64 10, .int .u64 4] : Array Value)[o]?) := Lib.hid (fun wv hb => ⟨fun o => block_cell ((hb.block _ (lt_of_block HGW.out)).trans HGW.out) o, fun o => block_cell ((hb.block _ (lt_of_block HPW.out)).trans HPW.out) o⟩)
      obtain ⟨gc, pcs⟩ := HCG.out W (Below.refl _ _)
      go_wp2_with fail
      refine (HV4.out 120 0 (by decide) (by decide) W (Below.refl _ _)).mono ?_
      rintro e x1 ⟨rfl, hb⟩
      have HX1 := Lib.hid hb
      clear hb gc pcs
      obtain ⟨gc, pcs⟩ := HCG.out x1 HX1.out
      go_wp2_with fail
      refine (HV4.out 129 0 (by decide) (by decide) x1 HX1.out).mono ?_
      rintro e x2 ⟨rfl, hb⟩
      have HX2 := Lib.hid (bnext HX1.out hb)
      clear hb gc pcs
      obtain ⟨gc, pcs⟩ := HCG.out x2 HX2.out
      go_wp2_with fail
      refine (HV4.out 130 10 (by decide) (by decide) x2 HX2.out).mono ?_
      rintro e x3 ⟨rfl, hb⟩
      have HX3 := Lib.hid (bnext HX2.out hb)
      clear hb gc pcs
      obtain ⟨gc, pcs⟩ := HCG.out x3 HX3.out
      go_wp2_with fail
      refine (HV4.out 140 16 (by decide) (by decide) x3 HX3.out).mono ?_
      rintro e x4 ⟨rfl, hb⟩
      have HX4 := Lib.hid (bnext HX3.out hb)
      clear hb gc pcs
      have hsz := HSS.out
      go_wp2_with fail
      clear hsz
      refine (new14_err (seed.extract 1 32) 0 1 1 2 x4 (by decide) (by rw [kn_sz seed HSS.out]; decide) (by decide)).mono ?_
      rintro e x5 ⟨rfl, hb⟩
      have HX5 := Lib.hid (bnext HX4.out hb)
      clear hb
      go_wp2_with fail
      refine (new14_err seed 0 0 1 2 x5 (by decide) (by rw [HSS.out]; decide) (by decide)).mono ?_
      rintro e x6 ⟨rfl, hb⟩
      have HX6 := Lib.hid (bnext HX5.out hb)
      clear hb
      go_wp2_with fail
      refine (new14_err seed 0 1 0 2 x6 (by decide) (by rw [HSS.out]; decide) (by decide)).mono ?_
      rintro e x7 ⟨rfl, hb⟩
      have HX7 := Lib.hid (bnext HX6.out hb)
      clear hb
      go_wp2_with fail
      refine (new14_err seed 0 1 65 2 x7 (by decide) (by rw [HSS.out]; decide) (by decide)).mono ?_
      rintro e x8 ⟨rfl, hb⟩
      have HX8 := Lib.hid (bnext HX7.out hb)
      clear hb
      go_wp2_with fail
      refine (new14_err seed 18446744073709551613 1 3 21 x8 (by decide) (by rw [HSS.out]; decide) (by decide)).mono ?_
      rintro e x9 ⟨rfl, hb⟩
      have HX9 := Lib.hid (bnext HX8.out hb)
      clear hb
      go_wp2_with fail
      refine (new14_err seed 0 9223372036854775808 2 21 x9 (by decide) (by rw [HSS.out]; decide) (by decide)).mono ?_
      rintro e y1 ⟨rfl, hb⟩
      have HY1 := Lib.hid (bnext HX9.out hb)
      clear hb
      go_wp2_with fail
      refine (new14_ok seed 18446744073709551613 1 2 y1 (by decide) (by rw [HSS.out]; decide)).mono ?_
      rintro e y2 ⟨lb2, tb2, rfl, -, hb⟩
      have HY2 := Lib.hid (bnext HY1.out hb)
      clear hb
      go_wp2_with fail
      refine (keyN_any 1 y2).mono ?_
      rintro e y3 ⟨rfl, hb⟩
      have HY3 := Lib.hid (bnext HY2.out hb)
      clear hb
      go_wp2_with fail
      refine (signN_any 1 dg y3).mono ?_
      rintro e y4 ⟨rfl, hb⟩
      have HY4 := Lib.hid (bnext HY3.out hb)
      clear hb
      go_upto_region 29 with fail
      obtain ⟨Y5, hY5⟩ : ∃ Y5, y4.alloc (.cells #[.int .u64 0, .slice none 0 0, .slice none 0 0] 54) = Y5 := ⟨_, rfl⟩
      have HY5 : Hid (Below W.heap.size W Y5) := Lib.hid (by rw [← hY5]; exact balloc HY4.out _)
      rw [hY5]
      clear hY5
      obtain ⟨gc, pcs⟩ := HCG.out Y5 HY5.out
      go_upto_region 30 with fail
      clear gc pcs
      obtain ⟨fb, hfb⟩ : ∃ fb, Y5.heap.size = fb := ⟨_, rfl⟩
      obtain ⟨Y6, hY6⟩ : ∃ Y6, Y5.alloc (.cells #[.string RT, .int .u64 1, .int .u64 100, .int .u64 10, .int .u64 4] 62) = Y6 := ⟨_, rfl⟩
      have HF6 : Hid (Y6.heap[fb]? = some (.cells #[.string RT, .int .u64 1, .int .u64 100, .int .u64 10, .int .u64 4] 62 (0, 0))) := Lib.hid (by rw [← hY6]; exact alloc_new_at _ hfb)
      have HY6 : Hid (Below W.heap.size W Y6) := Lib.hid (by rw [← hY6]; exact balloc HY5.out _)
      have HFB : Hid (W.heap.size ≤ fb) := Lib.hid (by rw [← hfb]; exact HY5.out.size)
      rw [hY6, hfb]
      clear hY6 hfb
      have f0 := fun o => block_cell HF6.out o
      have f1 : ∀ o, Y6.frozen? ⟨fb, o, none⟩ = false := block_free HF6.out
      have f2 : fb < Y6.heap.size := lt_of_block HF6.out
      go_upto_region 31 with fail
      clear f0 f1 f2
      obtain ⟨Y7, hY7⟩ : ∃ Y7, Y6.setCell ⟨fb, 2, none⟩ (.int .u64 18446744073709551615) = Y7 := ⟨_, rfl⟩
      have HF7 : Hid (Y7.heap[fb]? = some (.cells #[.string RT, .int .u64 1, .int .u64 18446744073709551615, .int .u64 10, .int .u64 4] 62 (0, 0))) := Lib.hid (by rw [← hY7]; exact block_setCell HF6.out (o := 2) (.int .u64 18446744073709551615))
      have HY7 : Hid (Below W.heap.size W Y7) := Lib.hid (by rw [← hY7]; exact bset HY6.out HFB.out _)
      rw [hY7]
      clear hY7
      go_wp2_with fail
      refine (rootN_any Y7).mono ?_
      rintro e z1 ⟨rfl, hb⟩
      have HZ1 := Lib.hid (bnext HY7.out hb)
      have HF8 := Lib.hid ((hb.block _ (lt_of_block HF7.out)).trans HF7.out)
      clear hb
      go_wp2_with fail
      refine (partN_any 1 z1).mono ?_
      rintro e z2 ⟨rfl, hb⟩
      have HZ2 := Lib.hid (bnext HZ1.out hb)
      have HF9 := Lib.hid ((hb.block _ (lt_of_block HF8.out)).trans HF8.out)
      clear hb
      obtain ⟨gc, pcs⟩ := HCG.out z2 HZ2.out
      have f0 := fun o => block_cell HF9.out o
      go_wp2_with fail
      have hv1 := HVR.out RT 18446744073709551615 5 1 10 4 (by decide) (by decide) z2 HZ2.out
      rw [verE_none (mayV_iff.2 ⟨HDS.out, HRS.out, by decide, by decide, by decide⟩) (by decide)] at hv1
      refine hv1.mono ?_
      rintro e z3 ⟨rfl, hb⟩
      have HZ3 := Lib.hid (bnext HZ2.out hb)
      clear hb gc pcs f0 hv1
      obtain ⟨gc, pcs⟩ := HCG.out z3 HZ3.out
      go_wp2_with fail
      have hv2 := HVR.out ⟨#[]⟩ 0 5 0 0 0 (by decide) (by decide) z3 HZ3.out
      rw [verE_may (by cases h9 : mayV dg ⟨#[]⟩ 0 0 with | false => rfl | true => exact absurd (mayV_iff.1 h9).2.2.1 (by decide))] at hv2
      refine hv2.mono ?_
      rintro e z4 ⟨rfl, hb⟩
      have HZ4 := Lib.hid (bnext HZ3.out hb)
      clear hb gc pcs hv2
      go_wp2
      go_ret
      exact ⟨rfl, bnext HBW2.out HZ4.out⟩
end Go.Proofs.YtoafjbillcooiaaGreat
namespace Go.Proofs.YtoafjbillcooiaaGreat
set_option linter.unusedSimpArgs false
set_option linter.unusedVariables false
open Go.RowKit Go.ChangeShapes Go.WideShapes Go.ChangeAt
theorem own : ownKnob Tryz.prog.godebug = none := by kernel_rfl
end Go.Proofs.YtoafjbillcooiaaGreat
