/- Parts of the proof, one behind the other. -/
import Derived.Test.YtoafjbillcooiaaGreatLsgP4
import Derived.ProofKit
import Derived.OpenShut
import Derived.ShutString
import Derived.ChangeOld
import Derived.Deep.Slices
import Derived.Deep.Fields
import Derived.ChangeMaps5
namespace Go.Proofs.YtoafjbillcooiaaGreat
open Go.RowKit
set_option linter.unusedSimpArgs false
set_option linter.unusedVariables false
theorem ladR_one (seed : ByteArray) : ladR seed 1 = hashP leafT [num8S 0 ++ publicP seed 0] := by
  unfold ladR treeR
  have e : depN (rungL seed 1) = 0 := by unfold depN; rw [rungL_len]; rfl
  rw [e]
  unfold plD
  have e2 : revOf 0 0 = 0 := rfl
  rw [e2, if_pos (by rw [rungL_len]; decide), rungL_at _ _ _ (by decide)]
  rfl
theorem wk_new : newE 32 7 3 1 = 0 := by decide
theorem wk_key7 : keyO 7 3 1 7 = some 0 := by decide
theorem wk_key9 : keyO 7 3 1 9 = some 0 := by decide
theorem wk_key10 : keyO 7 3 1 10 = none := by decide
theorem wk_ver (seed dg : ByteArray) (hd : dg.size = 32) (r : Nat) : verE (ladR seed 1) 7 3 1 r dg (signD seed 7 3 1 9 dg) = match keyO 7 3 1 r with | none => 16 | some j => if j = 0 then 0 else 10 :=
  holds_verE hd (by decide) (by decide) (by decide) wk_key9
theorem SignIs.lit {S : SigD} {E : Int} {w w' : World} {e : Ending} (h : SignIs S E w e w') : ∃ wa wc pa pc, e = .returned (.tuple #[.agg #[.int .u64 S.ix, .slice wa (len S.ws) wc, .slice pa (len S.ps) pc], .int .i64 E]) ∧ Txts w' wa S.ws ∧ Txts w' pa S.ps ∧ len S.ps ≤ pc ∧ Below w.heap.size w w' := by
  obtain ⟨v, p, rfl, ⟨wa, wc, rfl, h1, -⟩, ⟨pa, pc, rfl, h2, h3, -⟩, hb⟩ := h
  exact ⟨wa, wc, pa, pc, rfl, h1, h2, h3, hb⟩
set_option maxRecDepth 100000 in
set_option maxHeartbeats 8000000 in
theorem works14_any (w : World) : Calls Tryz.prog 29 #[] w fun e w' => e = .returned (.bool true) ∧ Below w.heap.size w w' := by
  go_enter Tryz.func29, Tryz.ntmps29
  go_wp2_with fail
  refine (text14_any 115 32 w (by decide) (by decide)).mono ?_
  rintro e w1 ⟨rfl, hb1⟩
  have HB1 := Lib.hid hb1
  clear hb1
  go_wp2_with fail
  refine (text14_any 100 32 w1 (by decide) (by decide)).mono ?_
  rintro e w2 ⟨rfl, hb2⟩
  have HB2 := Lib.hid (bnext HB1.out hb2)
  obtain ⟨seed, hseed⟩ : ∃ s, textN 115 32 = s := ⟨_, rfl⟩
  obtain ⟨dg, hdg⟩ : ∃ s, textN 100 32 = s := ⟨_, rfl⟩
  have HSS : Hid (seed.size = 32) := Lib.hid (by rw [← hseed]; exact textN_size _ _)
  have HDS : Hid (dg.size = 32) := Lib.hid (by rw [← hdg]; exact textN_size _ _)
  rw [hseed, hdg]
  clear hb2 hseed hdg
  go_wp2_with fail
  refine (new14_any seed 7 3 1 w2 (by decide)).mono ?_
  rintro e w3 ⟨hn, hb3⟩
  have HB3 := Lib.hid (bnext HB2.out hb3)
  rw [HSS.out, wk_new] at hn
  obtain ⟨h9, -⟩ | ⟨-, lb, tb, rfl, hl, -⟩ := hn
  · exact absurd rfl h9
  have HL : Hid (LadAt seed 7 3 1 lb tb w3) := Lib.hid hl
  clear hb3 hl
  go_wp2_with fail
  have hsg := sign14_any seed dg 7 3 1 lb tb 9 w3 HL.out (by decide) (by decide) (by decide) (by decide) (by rw [HSS.out]; decide)
  refine hsg.mono ?_
  rintro e w4 hs
  obtain ⟨wa, wc, pa, pc, rfl, htw, htp, hpc, hb4⟩ := hs.lit
  have hsd := signD_ok (seed := seed) (d := dg) wk_key9 HDS.out
  have HV := Lib.hid (wk_ver seed dg HDS.out)
  obtain ⟨ws, hws⟩ : ∃ ws, (signD seed 7 3 1 9 dg).ws = ws := ⟨_, rfl⟩
  obtain ⟨ps, hps⟩ : ∃ ps, (signD seed 7 3 1 9 dg).ps = ps := ⟨_, rfl⟩
  have hix : (signD seed 7 3 1 9 dg).ix = 0 := by rw [hsd.1]; rfl
  have HSD : Hid (signD seed 7 3 1 9 dg = ⟨0, ws, ps⟩) := Lib.hid (by rw [← hws, ← hps, ← hix])
  have hl67 : len ws = 67 := by rw [← hws, hsd.1]; show len (sgL seed 0 dg) = 67; unfold sgL; rw [if_pos HDS.out]; exact chL_len _ _
  have hl0 : len ps = 0 := by rw [← hps, hsd.1]; show len (oneD (rungL seed 1) 0) = 0; rw [oneD_len (by rw [rungL_len]; decide)]; unfold depN; rw [rungL_len]; rfl
  rw [hws, hps, hix, hsd.2, hl67, hl0]
  rw [hws] at htw
  rw [hps] at htp hpc
  have HL67 := Lib.hid hl67
  have HL0 := Lib.hid hl0
  have HTW := Lib.hid htw
  have HTP := Lib.hid htp
  have HB4 := Lib.hid (bnext HB3.out hb4)
  have HL4 := Lib.hid (HL.out.below hb4)
  clear hsg hs hsd hws hps hix hl67 hl0 htw htp hpc hb4
  go_upto_region 6 with fail
  obtain ⟨sb, hsb⟩ : ∃ sb, w4.heap.size = sb := ⟨_, rfl⟩
  obtain ⟨V, hV⟩ : ∃ V, w4.alloc (.cells #[.int .u64 0, .slice wa 67 wc, .slice pa 0 pc] 54) = V := ⟨_, rfl⟩
  have HSB : Hid (V.heap[sb]? = some (.cells #[.int .u64 0, .slice wa 67 wc, .slice pa 0 pc] 54 (0, 0))) := Lib.hid (by rw [← hV]; exact alloc_new_at _ hsb)
  have hbv : Below w4.heap.size w4 V := by rw [← hV]; exact balloc (Below.refl _ _) _
  have HBV := Lib.hid (bnext HB4.out hbv)
  have HLV := Lib.hid (HL4.out.below hbv)
  have HTWV := Lib.hid (HTW.out.below hbv)
  have HTPV := Lib.hid (HTP.out.below hbv)
  rw [hV, hsb]
  clear hV hsb hbv
  go_wp2_with fail
  refine (lpart_any seed 7 3 1 lb tb 5 V HLV.out).mono ?_
  rintro e w5 ⟨rfl, hb5⟩
  obtain ⟨RT, hrt⟩ : ∃ rt, ladR seed 1 = rt := ⟨_, rfl⟩
  rw [hrt]
  have HSB5 := Lib.hid ((hb5.block _ (lt_of_block HSB.out)).trans HSB.out)
  have HB5 := Lib.hid (bnext HBV.out hb5)
  have HL5 := Lib.hid (HLV.out.below hb5)
  have HTW5 := Lib.hid (HTWV.out.below hb5)
  have HTP5 := Lib.hid (HTPV.out.below hb5)
  have HV9 := HV.out
  rw [hrt, HSD.out] at HV9
  have HVV := Lib.hid HV9
  have HRQ := Lib.hid (ladR_one seed)
  rw [hrt] at HRQ
  have HLR : Hid (∀ wv lb' tb', LadAt seed 7 3 1 lb' tb' wv → Calls Tryz.prog 35 #[.pointer (some ⟨lb', 0, none⟩)] wv fun e w' => e = .returned (.string RT) ∧ Below wv.heap.size wv w') := Lib.hid (fun wv b1 b2 h => by rw [← hrt]; exact lroot14_any seed 7 3 1 b1 b2 wv h)
  clear hb5 HV9 hrt
  go_upto_region 7 with fail
  obtain ⟨pb, hpb⟩ : ∃ pb, w5.heap.size = pb := ⟨_, rfl⟩
  obtain ⟨W, hW⟩ : ∃ W, w5.alloc (.cells #[.string RT, .int .u64 5, .int .u64 7, .int .u64 3, .int .u64 1] 62) = W := ⟨_, rfl⟩
  have hpw : W.heap[pb]? = some (.cells #[.string RT, .int .u64 5, .int .u64 7, .int .u64 3, .int .u64 1] 62 (0, 0)) := by rw [← hW]; exact alloc_new_at _ hpb
  have hbw : Below w5.heap.size w5 W := by rw [← hW]; exact balloc (Below.refl _ _) _
  have hsw := (hbw.block _ (lt_of_block HSB5.out)).trans HSB5.out
  have s0 : W.cell? ⟨sb, 0, none⟩ = some (.int .u64 0) := block_cell hsw 0
  have s1 : W.cell? ⟨sb, 1, none⟩ = some (.slice wa 67 wc) := block_cell hsw 1
  have s2 : W.cell? ⟨sb, 2, none⟩ = some (.slice pa 0 pc) := block_cell hsw 2
  have t0 : W.cell? ⟨pb, 0, none⟩ = some (.string RT) := block_cell hpw 0
  have t1 : W.cell? ⟨pb, 1, none⟩ = some (.int .u64 5) := block_cell hpw 1
  have t2 : W.cell? ⟨pb, 2, none⟩ = some (.int .u64 7) := block_cell hpw 2
  have t3 : W.cell? ⟨pb, 3, none⟩ = some (.int .u64 3) := block_cell hpw 3
  have t4 : W.cell? ⟨pb, 4, none⟩ = some (.int .u64 1) := block_cell hpw 4
  have HBW := Lib.hid (bnext HB5.out hbw)
  have HLW := Lib.hid (HL5.out.below hbw)
  have HTWW := Lib.hid (HTW5.out.below hbw)
  have HTPW := Lib.hid (HTP5.out.below hbw)
  rw [hW, hpb]
  clear hW hpb hpw hbw hsw
  obtain ⟨P, hP⟩ : ∃ P, num8S 0 = P := ⟨_, rfl⟩
  obtain ⟨Q, hQ⟩ : ∃ Q, publicP seed 0 = Q := ⟨_, rfl⟩
  have qz : P.size + Q.size ≤ 9223372036854775807 := by rw [← hP, ← hQ, num8S_size, publicP_size]; decide
  have qb : (RT.toList == RT.toList) = true := by rw [str_beq]; exact decide_eq_true rfl
  have HRT : Hid (∀ wv, Below W.heap.size W wv → Calls Tryz.prog 35 #[.pointer (some ⟨lb, 0, none⟩)] wv fun e w' => e = .returned (.string RT) ∧ Below wv.heap.size wv w') := Lib.hid (fun wv hb => HLR.out wv lb tb (HLW.out.below hb))
  have HNM : Hid (∀ wv, Calls Tryz.prog 40 #[.int .u64 0] wv fun e w' => e = .returned (.string P) ∧ Below wv.heap.size wv w') := Lib.hid (fun wv => by rw [← hP]; exact dnum_any 0 wv (by decide))
  have HPB : Hid (∀ wv, Calls Tryz.prog 41 #[.string seed, .int .u64 0] wv fun e w' => e = .returned (.string Q) ∧ Below wv.heap.size wv w') := Lib.hid (fun wv => by rw [← hQ]; exact public_any seed 0 wv (by decide) (by rw [HSS.out]; decide))
  have HHS : Hid (∀ wv b, wv.heap[b]? = some (.cells #[.string (P ++ Q)] 9 (0, 0)) → Calls Tryz.prog 53 #[.string leafT, .slice (some ⟨b, 0, none⟩) 1 1] wv fun e w' => e = .returned (.string RT) ∧ Below wv.heap.size wv w') := Lib.hid (fun wv b h => by
    rw [HRQ.out, hP, hQ]
    exact hash_any leafT [P ++ Q] (some ⟨b, 0, none⟩) 1 wv (by decide) (by decide) (txts1 h) (by
      have e : (P ++ Q).size = 40 := by rw [ByteArray.size_append, ← hP, ← hQ, num8S_size, publicP_size]
      simp [partsL, partL_len, e]))
  have hver : ∀ r, r < 18446744073709551616 → ∀ wv, Below W.heap.size W wv → Calls Tryz.prog 27 #[.agg #[.string RT, .int .u64 5, .int .u64 7, .int .u64 3, .int .u64 1], .int .u64 (r : Nat), .string dg, .agg #[.int .u64 0, .slice wa 67 wc, .slice pa 0 pc]] wv fun e w' => e = .returned (.int .i64 (verE RT 7 3 1 r dg ⟨0, ws, ps⟩)) ∧ Below wv.heap.size wv w' := fun r hr wv hb => by
    have h9 := verify_any RT dg 5 7 3 1 r 0 ws ps wa pa wc pc wv (HTWW.out.below hb) (HTPW.out.below hb) (by decide) hr (by rw [HL67.out]; decide) (by rw [HL0.out]; decide) (by rw [HL0.out]; exact Nat.zero_le _)
    rw [HL67.out, HL0.out] at h9
    exact h9
  have HV7 : Hid (∀ wv, Below W.heap.size W wv → Calls Tryz.prog 27 #[.agg #[.string RT, .int .u64 5, .int .u64 7, .int .u64 3, .int .u64 1], .int .u64 7, .string dg, .agg #[.int .u64 0, .slice wa 67 wc, .slice pa 0 pc]] wv fun e w' => e = .returned (.int .i64 0) ∧ Below wv.heap.size wv w') := Lib.hid (fun wv hb => by
    have h9 := hver 7 (by decide) wv hb
    rw [HVV.out 7, wk_key7] at h9
    exact h9)
  have HV10 : Hid (∀ wv, Below W.heap.size W wv → Calls Tryz.prog 27 #[.agg #[.string RT, .int .u64 5, .int .u64 7, .int .u64 3, .int .u64 1], .int .u64 10, .string dg, .agg #[.int .u64 0, .slice wa 67 wc, .slice pa 0 pc]] wv fun e w' => e = .returned (.int .i64 16) ∧ Below wv.heap.size wv w') := Lib.hid (fun wv hb => by
    have h9 := hver 10 (by decide) wv hb
    rw [HVV.out 10, wk_key10] at h9
    exact h9)
  clear hver hP hQ
  refine wp_region_all 1000 (none) (phis [fun u _ => u = (.pointer (some ⟨lb, 0, none⟩)), fun u _ => u = (.string RT), fun u _ => u = (.string P), fun u _ => u = (.string seed), fun u _ => u = (.string Q), fun u _ => u = (.string (P ++ Q)), fun u w' => ∃ b, u = .slice (some ⟨b, 0, none⟩) 1 1 ∧ w'.heap[b]? = some (.cells #[.string (P ++ Q)] 9 (0, 0)), fun u _ => u = (.string RT), fun u _ => u = (.bool true), fun u _ => u = (.bool true), fun u _ => u = (.int .i64 0), fun u _ => u = (.bool true), fun u _ => u = (.bool true), fun u _ => u = (.bool true), fun u _ => u = (.pointer (some ⟨sb, 1, none⟩)), fun u _ => u = (.slice wa 67 wc), fun u _ => u = (.int .i64 67), fun u _ => u = (.bool true), fun u _ => u = (.bool true), fun u _ => u = (.bool true), fun u _ => u = (.pointer (some ⟨sb, 2, none⟩)), fun u _ => u = (.slice pa 0 pc), fun u _ => u = (.int .i64 0), fun u _ => u = (.bool true), fun u _ => u = (.bool true), fun u _ => u = (.bool true), fun u _ => u = (.agg #[.string RT, .int .u64 5, .int .u64 7, .int .u64 3, .int .u64 1]), fun u _ => u = (.pointer (some ⟨lb, 0, none⟩)), fun u _ => u = (.string RT), fun u _ => u = (.agg #[.string RT, .int .u64 5, .int .u64 7, .int .u64 3, .int .u64 1]), fun u _ => u = (.bool true), fun u _ => u = (.bool true), fun u _ => u = (.bool true), fun u _ => u = (.agg #[.string RT, .int .u64 5, .int .u64 7, .int .u64 3, .int .u64 1]), fun u _ => u = (.string dg), fun u _ => u = (.agg #[.int .u64 0, .slice wa 67 wc, .slice pa 0 pc]), fun u _ => u = (.int .i64 0), fun u _ => u = (.bool true), fun u _ => u = (.bool true), fun u _ => u = (.bool true), fun u _ => u = (.agg #[.string RT, .int .u64 5, .int .u64 7, .int .u64 3, .int .u64 1]), fun u _ => u = (.string dg), fun u _ => u = (.agg #[.int .u64 0, .slice wa 67 wc, .slice pa 0 pc]), fun u _ => u = (.int .i64 16), fun u _ => u = (.bool true), fun u _ => u = (.bool true), fun u _ => u = (.bool true)]) rfl (by kernel_rfl) (mono_of ⟨mono_eq, mono_eq, mono_eq, mono_eq, mono_eq, mono_eq, ?m6, mono_eq, mono_eq, mono_eq, mono_eq, mono_eq, mono_eq, mono_eq, mono_eq, mono_eq, mono_eq, mono_eq, mono_eq, mono_eq, mono_eq, mono_eq, mono_eq, mono_eq, mono_eq, mono_eq, mono_eq, mono_eq, mono_eq, mono_eq, mono_eq, mono_eq, mono_eq, mono_eq, mono_eq, mono_eq, mono_eq, mono_eq, mono_eq, mono_eq, mono_eq, mono_eq, mono_eq, mono_eq, mono_eq, mono_eq, mono_eq, trivial⟩) (steps_of 47 ⟨?s0, ?s1, ?s2, ?s3, ?s4, ?s5, ?s6, ?s7, ?s8, ?s9, ?s10, ?s11, ?s12, ?s13, ?s14, ?s15, ?s16, ?s17, ?s18, ?s19, ?s20, ?s21, ?s22, ?s23, ?s24, ?s25, ?s26, ?s27, ?s28, ?s29, ?s30, ?s31, ?s32, ?s33, ?s34, ?s35, ?s36, ?s37, ?s38, ?s39, ?s40, ?s41, ?s42, ?s43, ?s44, ?s45, ?s46, trivial⟩) ?_
  case m6 =>
    exact ⟨fun u w1 w' h ⟨b, h1, hb⟩ => ⟨b, h1, ext_block h hb⟩, fun _ u w1 w' h ⟨b, h1, hb⟩ => ⟨b, h1, extB_block h (by simp) hb⟩⟩
  case s0 =>
    refine qV (fun _ => rfl) rfl fun av wv hE hO hD => ?_
    simp [go_sem, qF av 3 (.pointer (some ⟨lb, 0, none⟩)) (hO.2.2 3 rfl), qz, qb]
  case s1 =>
    refine step_wp (fun av wv hE hS hO hD => ⟨rfl, ?_⟩)
    have f29 := qE (hD.1 rfl _ rfl)
    refine wp_of_call (v := .string RT) (by simp [go_sem, f29]) (HRT.out wv (of_drew hE)) (fun w2 hb => ⟨_, rfl, es_of_ext hb, rfl⟩)
  case s2 =>
    refine step_wp (fun av wv hE hS hO hD => ⟨rfl, ?_⟩)
    refine wp_of_call (v := .string P) (by simp [go_sem]) (HNM.out wv) (fun w2 hb => ⟨_, rfl, es_of_ext hb, rfl⟩)
  case s3 =>
    refine qV (fun _ => rfl) rfl fun av wv hE hO hD => ?_
    simp [go_sem, qF av 1 (.string seed) (hO.2.2 1 rfl), qz, qb]
  case s4 =>
    refine step_wp (fun av wv hE hS hO hD => ⟨rfl, ?_⟩)
    have f32 := qE (hD.1 rfl _ rfl)
    refine wp_of_call (v := .string Q) (by simp [go_sem, f32]) (HPB.out wv) (fun w2 hb => ⟨_, rfl, es_of_ext hb, rfl⟩)
  case s5 =>
    refine qV (fun _ => rfl) rfl fun av wv hE hO hD => ?_
    simp [go_sem, qE (hD.1 rfl _ rfl), qE (hD.2.1 rfl _ rfl), qz, qb]
  case s6 =>
    refine step_wp (fun av wv hE hS hO hD => ⟨rfl, ?_⟩)
    have f34 := qE (hD.1 rfl _ rfl)
    exact wp_of_run (v := .slice (some ⟨wv.heap.size, 0, none⟩) 1 1) (w' := wv.alloc (.cells #[.string (P ++ Q)] 9)) (by simp [go_sem, f34]) ⟨_, rfl, es_of_ext (balloc (Ext_refl _) _), wv.heap.size, rfl, heap_alloc_new _ _⟩
  case s7 =>
    refine step_wp (fun av wv hE hS hO hD => ⟨rfl, ?_⟩)
    have d35 : (fun u w' => ∃ b, u = .slice (some ⟨b, 0, none⟩) 1 1 ∧ w'.heap[b]? = some (.cells #[.string (P ++ Q)] 9 (0, 0))) (av.eval (.tmp 35)) wv := hD.1 rfl _ rfl
    obtain ⟨b, hq, hcq⟩ := d35
    have fq := (ev_form av 35).symm.trans hq
    refine wp_of_call (v := .string RT) (by simp [go_sem, fq, leafT]) (HHS.out wv b hcq) (fun w2 hb => ⟨_, rfl, es_of_ext hb, rfl⟩)
  case s8 =>
    refine qV (fun _ => rfl) rfl fun av wv hE hO hD => ?_
    simp [go_sem, qE (hD.1 rfl _ rfl), qE (hD.2.1 rfl _ rfl), qz, qb]
  case s9 =>
    refine qV (fun _ => rfl) rfl fun av wv hE hO hD => ?_
    simp [go_sem, qE (hD.1 rfl _ rfl), qz, qb]
  case s10 =>
    refine step_val (fun av wv hE hS hO hD => ⟨(wY rfl rfl rfl (hD.1 rfl _ rfl)), ?_⟩) (fun _ => rfl)
    simp [go_sem, qF av 6 (.int .i64 0) (hO.2.2 6 rfl), qE (hD.1 rfl _ rfl), qz, qb]
  case s11 =>
    refine step_val (fun av wv hE hS hO hD => ⟨(wY rfl rfl rfl (hD.2.1 rfl _ rfl)), ?_⟩) (fun _ => rfl)
    simp [go_sem, qE (hD.1 rfl _ rfl), qE (hD.2.1 rfl _ rfl), qz, qb]
  case s12 =>
    refine qV (fun _ => rfl) rfl fun av wv hE hO hD => ?_
    simp [go_sem, qE (hD.1 rfl _ rfl), qE (hD.2.1 rfl _ rfl), qz, qb]
  case s13 =>
    refine qV (fun _ => rfl) rfl fun av wv hE hO hD => ?_
    simp [go_sem, qE (hD.1 rfl _ rfl), qz, qb]
  case s14 =>
    refine step_val (fun av wv hE hS hO hD => ⟨(wY rfl rfl rfl (hD.1 rfl _ rfl)), ?_⟩) (fun _ => rfl)
    simp [go_sem, qF av 5 (.pointer (some ⟨sb, 0, none⟩)) (hO.2.2 5 rfl), qE (hD.1 rfl _ rfl), qz, qb]
  case s15 =>
    refine step_val (fun av wv hE hS hO hD => ⟨(wY rfl rfl rfl (hD.2.1 rfl _ rfl)), ?_⟩) (fun _ => rfl)
    simp [go_sem, qE (hD.1 rfl _ rfl), qE (hD.2.1 rfl _ rfl), extB_cell hE (by simp) s0, extB_cell hE (by simp) s1, extB_cell hE (by simp) s2, extB_cell hE (by simp) t0, extB_cell hE (by simp) t1, extB_cell hE (by simp) t2, extB_cell hE (by simp) t3, extB_cell hE (by simp) t4, qz, qb]
  case s16 =>
    refine step_val (fun av wv hE hS hO hD => ⟨(wY rfl rfl rfl (hD.2.1 rfl _ rfl)), ?_⟩) (fun _ => rfl)
    simp [go_sem, qE (hD.1 rfl _ rfl), qE (hD.2.1 rfl _ rfl), qz, qb]
  case s17 =>
    refine step_val (fun av wv hE hS hO hD => ⟨(wY rfl rfl rfl (hD.2.1 rfl _ rfl)), ?_⟩) (fun _ => rfl)
    simp [go_sem, qE (hD.1 rfl _ rfl), qE (hD.2.1 rfl _ rfl), qz, qb]
  case s18 =>
    refine qV (fun _ => rfl) rfl fun av wv hE hO hD => ?_
    simp [go_sem, qE (hD.1 rfl _ rfl), qE (hD.2.1 rfl _ rfl), qz, qb]
  case s19 =>
    refine qV (fun _ => rfl) rfl fun av wv hE hO hD => ?_
    simp [go_sem, qE (hD.1 rfl _ rfl), qz, qb]
  case s20 =>
    refine step_val (fun av wv hE hS hO hD => ⟨(wY rfl rfl rfl (hD.1 rfl _ rfl)), ?_⟩) (fun _ => rfl)
    simp [go_sem, qF av 5 (.pointer (some ⟨sb, 0, none⟩)) (hO.2.2 5 rfl), qE (hD.1 rfl _ rfl), qz, qb]
  case s21 =>
    refine step_val (fun av wv hE hS hO hD => ⟨(wY rfl rfl rfl (hD.2.1 rfl _ rfl)), ?_⟩) (fun _ => rfl)
    simp [go_sem, qE (hD.1 rfl _ rfl), qE (hD.2.1 rfl _ rfl), extB_cell hE (by simp) s0, extB_cell hE (by simp) s1, extB_cell hE (by simp) s2, extB_cell hE (by simp) t0, extB_cell hE (by simp) t1, extB_cell hE (by simp) t2, extB_cell hE (by simp) t3, extB_cell hE (by simp) t4, qz, qb]
  case s22 =>
    refine step_val (fun av wv hE hS hO hD => ⟨(wY rfl rfl rfl (hD.2.1 rfl _ rfl)), ?_⟩) (fun _ => rfl)
    simp [go_sem, qE (hD.1 rfl _ rfl), qE (hD.2.1 rfl _ rfl), qz, qb]
  case s23 =>
    refine step_val (fun av wv hE hS hO hD => ⟨(wY rfl rfl rfl (hD.2.1 rfl _ rfl)), ?_⟩) (fun _ => rfl)
    simp [go_sem, qE (hD.1 rfl _ rfl), qE (hD.2.1 rfl _ rfl), qz, qb]
  case s24 =>
    refine qV (fun _ => rfl) rfl fun av wv hE hO hD => ?_
    simp [go_sem, qE (hD.1 rfl _ rfl), qE (hD.2.1 rfl _ rfl), qz, qb]
  case s25 =>
    refine qV (fun _ => rfl) rfl fun av wv hE hO hD => ?_
    simp [go_sem, qE (hD.1 rfl _ rfl), qz, qb]
  case s26 =>
    refine step_val (fun av wv hE hS hO hD => ⟨(wY rfl rfl rfl (hD.1 rfl _ rfl)), ?_⟩) (fun _ => rfl)
    simp [go_sem, qF av 7 (.pointer (some ⟨pb, 0, none⟩)) (hO.2.2 7 rfl), qE (hD.1 rfl _ rfl), extB_cell hE (by simp) s0, extB_cell hE (by simp) s1, extB_cell hE (by simp) s2, extB_cell hE (by simp) t0, extB_cell hE (by simp) t1, extB_cell hE (by simp) t2, extB_cell hE (by simp) t3, extB_cell hE (by simp) t4, qz, qb]
  case s27 =>
    refine step_val (fun av wv hE hS hO hD => ⟨(wY rfl rfl rfl (hD.1 rfl _ rfl)), ?_⟩) (fun _ => rfl)
    simp [go_sem, qF av 3 (.pointer (some ⟨lb, 0, none⟩)) (hO.2.2 3 rfl), qE (hD.1 rfl _ rfl), qz, qb]
  case s28 =>
    refine step_wp (fun av wv hE hS hO hD => ⟨(wY rfl rfl rfl (hD.2.1 rfl _ rfl)), ?_⟩)
    have f56 := qE (hD.1 rfl _ rfl)
    refine wp_of_call (v := .string RT) (by simp [go_sem, f56]) (HRT.out wv (of_drew hE)) (fun w2 hb => ⟨_, rfl, es_of_ext hb, rfl⟩)
  case s29 =>
    refine step_val (fun av wv hE hS hO hD => ⟨(wY rfl rfl rfl (hD.2.1 rfl _ rfl)), ?_⟩) (fun _ => rfl)
    simp [go_sem, qE (hD.1 rfl _ rfl), qE (hD.2.1 rfl _ rfl), qz, qb]
  case s30 =>
    refine step_val (fun av wv hE hS hO hD => ⟨(wY rfl rfl rfl (hD.2.2.1 rfl _ rfl)), ?_⟩) (fun _ => rfl)
    simp [go_sem, qE (hD.1 rfl _ rfl), qE (hD.2.1 rfl _ rfl), qE (hD.2.2.1 rfl _ rfl), qz, qb]
  case s31 =>
    refine qV (fun _ => rfl) rfl fun av wv hE hO hD => ?_
    simp [go_sem, qE (hD.1 rfl _ rfl), qE (hD.2.1 rfl _ rfl), qz, qb]
  case s32 =>
    refine qV (fun _ => rfl) rfl fun av wv hE hO hD => ?_
    simp [go_sem, qE (hD.1 rfl _ rfl), qz, qb]
  case s33 =>
    refine step_val (fun av wv hE hS hO hD => ⟨(wY rfl rfl rfl (hD.1 rfl _ rfl)), ?_⟩) (fun _ => rfl)
    simp [go_sem, qF av 7 (.pointer (some ⟨pb, 0, none⟩)) (hO.2.2 7 rfl), qE (hD.1 rfl _ rfl), extB_cell hE (by simp) s0, extB_cell hE (by simp) s1, extB_cell hE (by simp) s2, extB_cell hE (by simp) t0, extB_cell hE (by simp) t1, extB_cell hE (by simp) t2, extB_cell hE (by simp) t3, extB_cell hE (by simp) t4, qz, qb]
  case s34 =>
    refine step_val (fun av wv hE hS hO hD => ⟨(wY rfl rfl rfl (hD.1 rfl _ rfl)), ?_⟩) (fun _ => rfl)
    simp [go_sem, qF av 2 (.string dg) (hO.2.2 2 rfl), qE (hD.1 rfl _ rfl), qz, qb]
  case s35 =>
    refine step_val (fun av wv hE hS hO hD => ⟨(wY rfl rfl rfl (hD.1 rfl _ rfl)), ?_⟩) (fun _ => rfl)
    simp [go_sem, qF av 5 (.pointer (some ⟨sb, 0, none⟩)) (hO.2.2 5 rfl), qE (hD.1 rfl _ rfl), extB_cell hE (by simp) s0, extB_cell hE (by simp) s1, extB_cell hE (by simp) s2, extB_cell hE (by simp) t0, extB_cell hE (by simp) t1, extB_cell hE (by simp) t2, extB_cell hE (by simp) t3, extB_cell hE (by simp) t4, qz, qb]
  case s36 =>
    refine step_wp (fun av wv hE hS hO hD => ⟨(wY rfl rfl rfl (hD.2.2.2.1 rfl _ rfl)), ?_⟩)
    have f62 := qE (hD.1 rfl _ rfl)
    have f63 := qE (hD.2.1 rfl _ rfl)
    have f64 := qE (hD.2.2.1 rfl _ rfl)
    refine wp_of_call (v := .int .i64 0) (by simp [go_sem, f62, f63, f64]) (HV7.out wv (of_drew hE)) (fun w2 hb => ⟨_, rfl, es_of_ext hb, rfl⟩)
  case s37 =>
    refine step_val (fun av wv hE hS hO hD => ⟨(wY rfl rfl rfl (hD.2.1 rfl _ rfl)), ?_⟩) (fun _ => rfl)
    simp [go_sem, qE (hD.1 rfl _ rfl), qE (hD.2.1 rfl _ rfl), qz, qb]
  case s38 =>
    refine qV (fun _ => rfl) rfl fun av wv hE hO hD => ?_
    simp [go_sem, qE (hD.1 rfl _ rfl), qE (hD.2.1 rfl _ rfl), qz, qb]
  case s39 =>
    refine qV (fun _ => rfl) rfl fun av wv hE hO hD => ?_
    simp [go_sem, qE (hD.1 rfl _ rfl), qz, qb]
  case s40 =>
    refine step_val (fun av wv hE hS hO hD => ⟨(wY rfl rfl rfl (hD.1 rfl _ rfl)), ?_⟩) (fun _ => rfl)
    simp [go_sem, qF av 7 (.pointer (some ⟨pb, 0, none⟩)) (hO.2.2 7 rfl), qE (hD.1 rfl _ rfl), extB_cell hE (by simp) s0, extB_cell hE (by simp) s1, extB_cell hE (by simp) s2, extB_cell hE (by simp) t0, extB_cell hE (by simp) t1, extB_cell hE (by simp) t2, extB_cell hE (by simp) t3, extB_cell hE (by simp) t4, qz, qb]
  case s41 =>
    refine step_val (fun av wv hE hS hO hD => ⟨(wY rfl rfl rfl (hD.1 rfl _ rfl)), ?_⟩) (fun _ => rfl)
    simp [go_sem, qF av 2 (.string dg) (hO.2.2 2 rfl), qE (hD.1 rfl _ rfl), qz, qb]
  case s42 =>
    refine step_val (fun av wv hE hS hO hD => ⟨(wY rfl rfl rfl (hD.1 rfl _ rfl)), ?_⟩) (fun _ => rfl)
    simp [go_sem, qF av 5 (.pointer (some ⟨sb, 0, none⟩)) (hO.2.2 5 rfl), qE (hD.1 rfl _ rfl), extB_cell hE (by simp) s0, extB_cell hE (by simp) s1, extB_cell hE (by simp) s2, extB_cell hE (by simp) t0, extB_cell hE (by simp) t1, extB_cell hE (by simp) t2, extB_cell hE (by simp) t3, extB_cell hE (by simp) t4, qz, qb]
  case s43 =>
    refine step_wp (fun av wv hE hS hO hD => ⟨(wY rfl rfl rfl (hD.2.2.2.1 rfl _ rfl)), ?_⟩)
    have f69 := qE (hD.1 rfl _ rfl)
    have f70 := qE (hD.2.1 rfl _ rfl)
    have f71 := qE (hD.2.2.1 rfl _ rfl)
    refine wp_of_call (v := .int .i64 16) (by simp [go_sem, f69, f70, f71]) (HV10.out wv (of_drew hE)) (fun w2 hb => ⟨_, rfl, es_of_ext hb, rfl⟩)
  case s44 =>
    refine step_val (fun av wv hE hS hO hD => ⟨(wY rfl rfl rfl (hD.2.1 rfl _ rfl)), ?_⟩) (fun _ => rfl)
    simp [go_sem, qE (hD.1 rfl _ rfl), qE (hD.2.1 rfl _ rfl), qz, qb]
  case s45 =>
    refine qV (fun _ => rfl) rfl fun av wv hE hO hD => ?_
    simp [go_sem, qE (hD.1 rfl _ rfl), qE (hD.2.1 rfl _ rfl), qz, qb]
  case s46 =>
    refine qV (fun _ => rfl) rfl fun av wv hE hO hD => ?_
    simp [go_sem, qE (hD.1 rfl _ rfl), qz, qb]
  intro a' w' hE hO hall
  have hA := act_of_outer (ds := [29, 30, 31, 32, 33, 34, 35, 36, 37, 38, 39, 40, 41, 42, 43, 44, 45, 46, 47, 48, 49, 50, 51, 52, 53, 54, 55, 56, 57, 58, 59, 60, 61, 62, 63, 64, 65, 66, 67, 68, 69, 70, 71, 72, 73, 74, 0]) rfl hO (by kernel_rfl)
  obtain ⟨j0, j1, j2, j3, j4, j5, j6, j7, j8, j9, j10, j11, j12, j13, j14, j15, j16, j17, j18, j19, j20, j21, j22, j23, j24, j25, j26, j27, j28, j29, j30, j31, j32, j33, j34, j35, j36, j37, j38, j39, j40, j41, j42, j43, j44, j45, j46, -⟩ := hall
  have e35 : (fun u w' => ∃ b, u = .slice (some ⟨b, 0, none⟩) 1 1 ∧ w'.heap[b]? = some (.cells #[.string (P ++ Q)] 9 (0, 0))) (a'.eval (.tmp 35)) w' := j6 _ rfl
  obtain ⟨v35, hv35⟩ : ∃ v, a'.eval (.tmp 35) = v := ⟨_, rfl⟩
  rw [hv35] at e35
  simp only [List.foldl_cons, List.foldl_nil, Act.put, List.setIfInBounds_toArray, List.set_cons_succ, List.set_cons_zero, qJ 29 (j0 _ rfl), qJ 30 (j1 _ rfl), qJ 31 (j2 _ rfl), qJ 32 (j3 _ rfl), qJ 33 (j4 _ rfl), qJ 34 (j5 _ rfl), hv35, qJ 36 (j7 _ rfl), qJ 37 (j8 _ rfl), qJ 38 (j9 _ rfl), qJ 39 (j10 _ rfl), qJ 40 (j11 _ rfl), qJ 41 (j12 _ rfl), qJ 42 (j13 _ rfl), qJ 43 (j14 _ rfl), qJ 44 (j15 _ rfl), qJ 45 (j16 _ rfl), qJ 46 (j17 _ rfl), qJ 47 (j18 _ rfl), qJ 48 (j19 _ rfl), qJ 49 (j20 _ rfl), qJ 50 (j21 _ rfl), qJ 51 (j22 _ rfl), qJ 52 (j23 _ rfl), qJ 53 (j24 _ rfl), qJ 54 (j25 _ rfl), qJ 55 (j26 _ rfl), qJ 56 (j27 _ rfl), qJ 57 (j28 _ rfl), qJ 58 (j29 _ rfl), qJ 59 (j30 _ rfl), qJ 60 (j31 _ rfl), qJ 61 (j32 _ rfl), qJ 62 (j33 _ rfl), qJ 63 (j34 _ rfl), qJ 64 (j35 _ rfl), qJ 65 (j36 _ rfl), qJ 66 (j37 _ rfl), qJ 67 (j38 _ rfl), qJ 68 (j39 _ rfl), qJ 69 (j40 _ rfl), qJ 70 (j41 _ rfl), qJ 71 (j42 _ rfl), qJ 72 (j43 _ rfl), qJ 73 (j44 _ rfl), qJ 74 (j45 _ rfl), qJ 0 (j46 _ rfl)] at hA
  clear hO j6 j0 j1 j2 j3 j4 j5 hv35 j7 j8 j9 j10 j11 j12 j13 j14 j15 j16 j17 j18 j19 j20 j21 j22 j23 j24 j25 j26 j27 j28 j29 j30 j31 j32 j33 j34 j35 j36 j37 j38 j39 j40 j41 j42 j43 j44 j45 j46
  subst hA
  have HE := Lib.hid (of_drew hE)
  clear hE s0 s1 s2 t0 t1 t2 t3 t4 qz qb
  go_wp2
  go_ret
  exact ⟨rfl, bnext HBW.out HE.out⟩
end Go.Proofs.YtoafjbillcooiaaGreat
namespace Go.Proofs.YtoafjbillcooiaaGreat
open Go.RowKit
set_option linter.unusedSimpArgs false
set_option linter.unusedVariables false
def madeV (s d z : Nat) (F0 L0 : Nat) (K0 : Int) (r wt : Nat) : List Value := [.int .u8 (s : Nat), .int .u8 (d : Nat), .int .u8 (z : Nat), .int .u64 (F0 : Nat), .int .u64 (L0 : Nat), .int .i64 K0, .int .u64 (r : Nat), .int .u64 (wt : Nat)]
end Go.Proofs.YtoafjbillcooiaaGreat
namespace Go.Proofs.YtoafjbillcooiaaGreat
open Go.RowKit
set_option linter.unusedSimpArgs false
set_option linter.unusedVariables false
def szOf (z q : Nat) : Nat := if z % 16 = q then 31 + 2 * (z / 128) else 32
theorem szOf_le {z q : Nat} (h : z ≤ 255) : szOf z q ≤ 33 := by
  unfold szOf
  split <;> omega
def keysK (K : Int) : Int := if 1 ≤ K ∧ K ≤ 64 then 1 + K % 8 else K
set_option maxRecDepth 100000 in
set_option maxHeartbeats 4000000 in
theorem sizes14_any (s d z F L : Nat) (K : Int) (r wt : Nat) (w : World) (hz : z ≤ 255) : Calls Tryz.prog 33 #[.agg #[.int .u8 (s : Nat), .int .u8 (d : Nat), .int .u8 (z : Nat), .int .u64 (F : Nat), .int .u64 (L : Nat), .int .i64 K, .int .u64 (r : Nat), .int .u64 (wt : Nat)]] w fun e w' => e = .returned (.tuple #[.int .i64 ((szOf z 1 : Nat) : Int), .int .i64 ((szOf z 2 : Nat) : Int)]) ∧ Below w.heap.size w w' := by
  obtain ⟨q, hq⟩ : ∃ q, z % 16 = q := ⟨_, rfl⟩
  obtain ⟨p, hp⟩ : ∃ p, z / 128 = p := ⟨_, rfl⟩
  have k1 : Int.tmod ((z : Nat) : Int) 16 = (q : Int) := by rw [← hq]; exact (Int.ofNat_tmod z 16).symm
  have k2 : ((z : Nat) : Int) % 16 = (q : Int) := by omega
  have k3 : Int.tdiv ((z : Nat) : Int) 128 = (p : Int) := by rw [← hp]; exact (Int.ofNat_tdiv z 128).symm
  have k4 : ((z : Nat) : Int) / 128 = (p : Int) := by omega
  have k5 : IntKind.u8.wrap ((q : Nat) : Int) = (q : Int) := IntWalk.u8_in _ (by omega)
  have k6 : IntKind.u8.wrap ((p : Nat) : Int) = (p : Int) := IntWalk.u8_in _ (by omega)
  have k7 : IntKind.i64.wrap ((p : Nat) : Int) = (p : Int) := IntWalk.i64_in _ (by omega)
  have k8 : IntKind.i64.wrap (2 * ((p : Nat) : Int)) = 2 * (p : Int) := IntWalk.i64_in _ (by omega)
  have k9 : IntKind.i64.wrap (31 + 2 * ((p : Nat) : Int)) = 31 + 2 * (p : Int) := IntWalk.i64_in _ (by omega)
  have HA : Hid (szOf z 1 = if q = 1 then 31 + 2 * p else 32) := Lib.hid (by unfold szOf; rw [hq, hp])
  have HB : Hid (szOf z 2 = if q = 2 then 31 + 2 * p else 32) := Lib.hid (by unfold szOf; rw [hq, hp])
  by_cases h1 : q = 1
  · subst h1
    clear hq hp hz
    go_enter Tryz.func33, Tryz.ntmps33
    go_wp2
    go_ret2
    exact ⟨by rw [HA.out, HB.out]; simp, by (repeat (first | exact Below.refl _ _ | assumption | (refine bdrew ?_) | (refine bdrewN ?_ _) | (refine balloc ?_ _) | (refine bset ?_ (by first | omega | (simp; done) | (simp; omega)) _) | (refine bnext ?_ (by assumption))))⟩
  · have i1 : (((q : Nat) : Int) == 1) = false := by simp; omega
    by_cases h2 : q = 2
    · subst h2
      clear hq hp hz
      go_enter Tryz.func33, Tryz.ntmps33
      go_wp2
      go_ret2
      exact ⟨by rw [HA.out, HB.out]; simp, by (repeat (first | exact Below.refl _ _ | assumption | (refine bdrew ?_) | (refine bdrewN ?_ _) | (refine balloc ?_ _) | (refine bset ?_ (by first | omega | (simp; done) | (simp; omega)) _) | (refine bnext ?_ (by assumption))))⟩
    · have i2 : (((q : Nat) : Int) == 2) = false := by simp; omega
      clear hq hp hz
      go_enter Tryz.func33, Tryz.ntmps33
      go_wp2
      go_ret2
      exact ⟨by rw [HA.out, HB.out, if_neg h1, if_neg h2]; rfl, by (repeat (first | exact Below.refl _ _ | assumption | (refine bdrew ?_) | (refine bdrewN ?_ _) | (refine balloc ?_ _) | (refine bset ?_ (by first | omega | (simp; done) | (simp; omega)) _) | (refine bnext ?_ (by assumption))))⟩
set_option maxRecDepth 100000 in
set_option maxHeartbeats 4000000 in
theorem keys14_any (s d z F L : Nat) (K : Int) (r wt : Nat) (w : World) : Calls Tryz.prog 34 #[.agg #[.int .u8 (s : Nat), .int .u8 (d : Nat), .int .u8 (z : Nat), .int .u64 (F : Nat), .int .u64 (L : Nat), .int .i64 K, .int .u64 (r : Nat), .int .u64 (wt : Nat)]] w fun e w' => e = .returned (.int .i64 (keysK K)) ∧ Below w.heap.size w w' := by
  by_cases h1 : 1 ≤ K
  · by_cases h2 : K ≤ 64
    · obtain ⟨n, rfl⟩ : ∃ n : Nat, K = (n : Int) := ⟨K.toNat, by omega⟩
      obtain ⟨q, hq⟩ : ∃ q, n % 8 = q := ⟨_, rfl⟩
      have k1 : Int.tmod ((n : Nat) : Int) 8 = (q : Int) := by rw [← hq]; exact (Int.ofNat_tmod n 8).symm
      have k2 : ((n : Nat) : Int) % 8 = (q : Int) := by omega
      have k3 : IntKind.i64.wrap ((q : Nat) : Int) = (q : Int) := IntWalk.i64_in _ (by omega)
      have k4 : IntKind.i64.wrap (1 + ((q : Nat) : Int)) = 1 + (q : Int) := IntWalk.i64_in _ (by omega)
      have HA : Hid (keysK ((n : Nat) : Int) = 1 + (q : Int)) := Lib.hid (by unfold keysK; rw [if_pos ⟨h1, h2⟩, k2])
      clear hq
      go_enter Tryz.func34, Tryz.ntmps34
      go_wp2
      go_ret
      exact ⟨by rw [HA.out]; rfl, by (repeat (first | exact Below.refl _ _ | assumption | (refine bdrew ?_) | (refine bdrewN ?_ _) | (refine balloc ?_ _) | (refine bset ?_ (by first | omega | (simp; done) | (simp; omega)) _) | (refine bnext ?_ (by assumption))))⟩
    · have HA : Hid (keysK K = K) := Lib.hid (if_neg (fun h => h2 h.2))
      go_enter Tryz.func34, Tryz.ntmps34
      go_wp2
      go_ret
      exact ⟨by rw [HA.out]; rfl, by (repeat (first | exact Below.refl _ _ | assumption | (refine bdrew ?_) | (refine bdrewN ?_ _) | (refine balloc ?_ _) | (refine bset ?_ (by first | omega | (simp; done) | (simp; omega)) _) | (refine bnext ?_ (by assumption))))⟩
  · have HA : Hid (keysK K = K) := Lib.hid (if_neg (fun h => h1 h.1))
    go_enter Tryz.func34, Tryz.ntmps34
    go_wp2
    go_ret
    exact ⟨by rw [HA.out]; rfl, by (repeat (first | exact Below.refl _ _ | assumption | (refine bdrew ?_) | (refine bdrewN ?_ _) | (refine balloc ?_ _) | (refine bset ?_ (by first | omega | (simp; done) | (simp; omega)) _) | (refine bnext ?_ (by assumption))))⟩
def NwF (seed : ByteArray) (F L : Nat) (K : Int) (u : Value) (w : World) : Prop := newE seed.size F L K ≠ 0 ∧ u = .pointer none ∨ newE seed.size F L K = 0 ∧ ∃ b tb, u = .pointer (some ⟨b, 0, none⟩) ∧ LadAt seed F L K.toNat b tb w
def NwP (seed : ByteArray) (F L : Nat) (K : Int) (u : Value) (w : World) : Prop := ∃ p, u = .tuple #[p, .int .i64 (newE seed.size F L K)] ∧ NwF seed F L K p w
theorem NwF.below {seed : ByteArray} {F L : Nat} {K : Int} {u : Value} {w w' : World} (h : NwF seed F L K u w) (hb : Below w.heap.size w w') : NwF seed F L K u w' := by
  rcases h with h | ⟨h1, b, tb, h2, h3⟩
  · exact Or.inl h
  · exact Or.inr ⟨h1, b, tb, h2, h3.below hb⟩
theorem NwP.below {seed : ByteArray} {F L : Nat} {K : Int} {u : Value} {w w' : World} (h : NwP seed F L K u w) (hb : Below w.heap.size w w') : NwP seed F L K u w' := by
  obtain ⟨p, h1, h2⟩ := h
  exact ⟨p, h1, h2.below hb⟩
theorem NwP.pair {seed : ByteArray} {F L : Nat} {K : Int} {u : Value} {w : World} (h : NwP seed F L K u w) : ∃ p, u = .tuple #[p, .int .i64 (newE seed.size F L K)] ∧ NwF seed F L K p w := h
def RNwF (seed : ByteArray) (F L : Nat) (K : Int) (u : Value) (w : World) : Prop := newE seed.size F L K ≠ 0 ∧ u = .pointer none ∨ newE seed.size F L K = 0 ∧ ∃ b la lc, u = .pointer (some ⟨b, 0, none⟩) ∧ RLadAt seed F L K.toNat b la lc w
def RNwP (seed : ByteArray) (F L : Nat) (K : Int) (u : Value) (w : World) : Prop := ∃ p, u = .tuple #[p, .int .i64 (newE seed.size F L K)] ∧ RNwF seed F L K p w
theorem RNwF.below {seed : ByteArray} {F L : Nat} {K : Int} {u : Value} {w w' : World} (h : RNwF seed F L K u w) (hb : Below w.heap.size w w') : RNwF seed F L K u w' := by
  rcases h with h | ⟨h1, b, la, lc, h2, h3⟩
  · exact Or.inl h
  · exact Or.inr ⟨h1, b, la, lc, h2, h3.below hb⟩
theorem RNwP.below {seed : ByteArray} {F L : Nat} {K : Int} {u : Value} {w w' : World} (h : RNwP seed F L K u w) (hb : Below w.heap.size w w') : RNwP seed F L K u w' := by
  obtain ⟨p, h1, h2⟩ := h
  exact ⟨p, h1, h2.below hb⟩
theorem RNwP.pair {seed : ByteArray} {F L : Nat} {K : Int} {u : Value} {w : World} (h : RNwP seed F L K u w) : ∃ p, u = .tuple #[p, .int .i64 (newE seed.size F L K)] ∧ RNwF seed F L K p w := h
theorem newP_any (seed : ByteArray) (F L : Nat) (K : Int) (w : World) (hf : F < 18446744073709551616) : Calls Tryz.prog 30 #[.string seed, .int .u64 (F : Nat), .int .u64 (L : Nat), .int .i64 K] w fun e w' => ∃ u, e = .returned u ∧ NwP seed F L K u w' ∧ Below w.heap.size w w' := by
  refine (new14_any seed F L K w hf).mono ?_
  rintro e w' ⟨⟨h0, rfl⟩ | ⟨h0, b, tb, rfl, hl, -⟩, hb⟩
  · exact ⟨_, rfl, ⟨_, rfl, Or.inl ⟨h0, rfl⟩⟩, hb⟩
  · exact ⟨_, rfl, ⟨_, by rw [h0], Or.inr ⟨h0, b, tb, rfl, hl⟩⟩, hb⟩
theorem rnewP_any (seed : ByteArray) (F L : Nat) (K : Int) (w : World) (hf : F < 18446744073709551616) (hL : L < 18446744073709551616) : Calls Tryz.prog 22 #[.string seed, .int .u64 (F : Nat), .int .u64 (L : Nat), .int .i64 K] w fun e w' => ∃ u, e = .returned u ∧ RNwP seed F L K u w' ∧ Below w.heap.size w w' := by
  cases h : mayL seed.size L K with
  | true =>
    have hK : 1 ≤ K := (mayL_K h).1
    obtain ⟨k, rfl⟩ : ∃ k : Nat, K = (k : Int) := ⟨K.toNat, by omega⟩
    refine (rnew14_main seed F L k w h hf hL).mono ?_
    rintro e w' ⟨⟨h0, rfl⟩ | ⟨h0, b, la, lc, rfl, hl, -⟩, hb⟩
    · exact ⟨_, rfl, ⟨_, rfl, Or.inl ⟨h0, rfl⟩⟩, hb⟩
    · exact ⟨_, rfl, ⟨_, by rw [h0], Or.inr ⟨h0, b, la, lc, rfl, hl⟩⟩, hb⟩
  | false =>
    have h2 := rnewE_may (f := F) h
    refine (rnew14_may seed F L K w h).mono ?_
    rintro e w' ⟨rfl, hb⟩
    exact ⟨_, rfl, ⟨_, by rw [h2], Or.inl ⟨by rw [h2]; decide, rfl⟩⟩, hb⟩
set_option maxRecDepth 100000 in
set_option maxHeartbeats 8000000 in
theorem signs14_law (s d z F L r wt : Nat) (K0 : Int) (w : World) (hs : s ≤ 255) (hd : d ≤ 255) (hz : z ≤ 255) (hF : F < 18446744073709551616) (hL : L < 18446744073709551616) (hr : r < 18446744073709551616) (hw : wt < 18446744073709551616) :
    Calls Tryz.prog 7 #[.agg (madeV s d z F L K0 r wt).toArray] w fun e w' => e = .returned (.bool true) ∧ Below w.heap.size w w' := by
  have HS := Lib.hid hs
  have HD := Lib.hid hd
  have HZ := Lib.hid hz
  have HFL : Hid (F < 18446744073709551616 ∧ L < 18446744073709551616 ∧ r < 18446744073709551616) := Lib.hid ⟨hF, hL, hr⟩
  unfold madeV
  clear hs hd hz hF hL hr hw
  go_enter Tryz.func7, Tryz.ntmps7
  obtain ⟨mb, hmb⟩ : ∃ mb, w.heap.size = mb := ⟨_, rfl⟩
  go_upto_region 1 with fail
  obtain ⟨V, hV⟩ : ∃ V, w.alloc (.cells #[.int .u8 (s : Nat), .int .u8 (d : Nat), .int .u8 (z : Nat), .int .u64 (F : Nat), .int .u64 (L : Nat), .int .i64 K0, .int .u64 (r : Nat), .int .u64 (wt : Nat)] 50) = V := ⟨_, rfl⟩
  have HMB : Hid (V.heap[mb]? = some (.cells #[.int .u8 (s : Nat), .int .u8 (d : Nat), .int .u8 (z : Nat), .int .u64 (F : Nat), .int .u64 (L : Nat), .int .i64 K0, .int .u64 (r : Nat), .int .u64 (wt : Nat)] 50 (0, 0))) := Lib.hid (by rw [← hV]; exact alloc_new_at _ hmb)
  have HV : Hid (Below w.heap.size w V) := Lib.hid (by rw [← hV]; exact balloc (Below.refl _ _) _)
  rw [hV]
  clear hV hmb
  have cm := fun o => block_cell HMB.out o
  go_wp2_with fail
  refine (sizes14_any s d z F L K0 r wt V HZ.out).mono ?_
  rintro e w1 ⟨rfl, hb⟩
  have HM1 := Lib.hid ((hb.block _ (lt_of_block HMB.out)).trans HMB.out)
  have HB1 := Lib.hid (bnext HV.out hb)
  obtain ⟨za, hza⟩ : ∃ za, szOf z 1 = za := ⟨_, rfl⟩
  obtain ⟨zb, hzb⟩ : ∃ zb, szOf z 2 = zb := ⟨_, rfl⟩
  rw [hza, hzb]
  have HZA : Hid (za ≤ 33 ∧ zb ≤ 33) := Lib.hid ⟨by rw [← hza]; exact szOf_le HZ.out, by rw [← hzb]; exact szOf_le HZ.out⟩
  clear hb cm hza hzb
  obtain ⟨seed, hseed⟩ : ∃ x, textN s za = x := ⟨_, rfl⟩
  obtain ⟨dg, hdg⟩ : ∃ x, textN d zb = x := ⟨_, rfl⟩
  have HSS : Hid (seed.size ≤ 1000) := Lib.hid (by rw [← hseed, textN_size]; have := HZA.out; omega)
  have HT1 : Hid (∀ wv, Calls Tryz.prog 23 #[.int .u8 (s : Nat), .int .i64 (za : Nat)] wv fun e w' => e = .returned (.string seed) ∧ Below wv.heap.size wv w') := Lib.hid (fun wv => by rw [← hseed]; exact text14_any s za wv HS.out (by have := HZA.out; omega))
  have HT2 : Hid (∀ wv, Calls Tryz.prog 23 #[.int .u8 (d : Nat), .int .i64 (zb : Nat)] wv fun e w' => e = .returned (.string dg) ∧ Below wv.heap.size wv w') := Lib.hid (fun wv => by rw [← hdg]; exact text14_any d zb wv HD.out (by have := HZA.out; omega))
  clear hseed hdg
  have m0 : w1.cell? ⟨mb, 0, none⟩ = some (.int .u8 (s : Nat)) := block_cell HM1.out 0
  have m1 : w1.cell? ⟨mb, 1, none⟩ = some (.int .u8 (d : Nat)) := block_cell HM1.out 1
  go_upto_region 2 with fail
  refine wp_region_all 1000 (none) (phis (List.map qv [.pointer (some ⟨mb, 0, none⟩), .int .u8 (s : Nat), .int .i64 (za : Nat), .string seed, .pointer (some ⟨mb, 1, none⟩), .int .u8 (d : Nat), .int .i64 (zb : Nat), .string dg, .string seed, .string dg])) rfl (by kernel_rfl) (mono_of mono_qv) (steps_of 10 ⟨?s0, ?s1, ?s2, ?s3, ?s4, ?s5, ?s6, ?s7, ?s8, ?s9, trivial⟩) ?_
  case s0 =>
    refine qV (fun _ => rfl) rfl fun av wv hE hO hD => ?_
    simp [go_sem, qF av 1 (.pointer (some ⟨mb, 0, none⟩)) (hO.2.2 1 rfl)]
  case s1 =>
    refine qV (fun _ => rfl) rfl fun av wv hE hO hD => ?_
    simp [go_sem, qE (hD.1 rfl _ rfl), extB_cell hE (by simp) m0, extB_cell hE (by simp) m1]
  case s2 =>
    refine qV (fun _ => rfl) rfl fun av wv hE hO hD => ?_
    simp [go_sem, qF av 3 (.int .i64 (za : Nat)) (hO.2.2 3 rfl)]
  case s3 =>
    refine step_wp (fun av wv hE hS hO hD => ⟨rfl, ?_⟩)
    have f27 := qE (hD.1 rfl _ rfl)
    have f28 := qE (hD.2.1 rfl _ rfl)
    refine wp_of_call (v := .string seed) (by simp [go_sem, f27, f28]) (HT1.out wv) (fun w2 hb => ⟨_, rfl, es_of_ext hb, rfl⟩)
  case s4 =>
    refine qV (fun _ => rfl) rfl fun av wv hE hO hD => ?_
    simp [go_sem, qF av 1 (.pointer (some ⟨mb, 0, none⟩)) (hO.2.2 1 rfl)]
  case s5 =>
    refine qV (fun _ => rfl) rfl fun av wv hE hO hD => ?_
    simp [go_sem, qE (hD.1 rfl _ rfl), extB_cell hE (by simp) m0, extB_cell hE (by simp) m1]
  case s6 =>
    refine qV (fun _ => rfl) rfl fun av wv hE hO hD => ?_
    simp [go_sem, qF av 4 (.int .i64 (zb : Nat)) (hO.2.2 4 rfl)]
  case s7 =>
    refine step_wp (fun av wv hE hS hO hD => ⟨rfl, ?_⟩)
    have f31 := qE (hD.1 rfl _ rfl)
    have f32 := qE (hD.2.1 rfl _ rfl)
    refine wp_of_call (v := .string dg) (by simp [go_sem, f31, f32]) (HT2.out wv) (fun w2 hb => ⟨_, rfl, es_of_ext hb, rfl⟩)
  case s8 =>
    refine qV (fun _ => rfl) rfl fun av wv hE hO hD => ?_
    simp [go_sem, qE (hD.1 rfl _ rfl)]
  case s9 =>
    refine qV (fun _ => rfl) rfl fun av wv hE hO hD => ?_
    simp [go_sem, qE (hD.1 rfl _ rfl)]
  intro a' w' hE hO hall
  have hA := act_of_outer (ds := [26, 27, 28, 29, 30, 31, 32, 33, 5, 6]) rfl hO (by kernel_rfl)
  obtain ⟨j0, j1, j2, j3, j4, j5, j6, j7, j8, j9, -⟩ := hall
  simp only [List.foldl_cons, List.foldl_nil, Act.put, List.setIfInBounds_toArray, List.set_cons_succ, List.set_cons_zero, qJ 26 (j0 _ rfl), qJ 27 (j1 _ rfl), qJ 28 (j2 _ rfl), qJ 29 (j3 _ rfl), qJ 30 (j4 _ rfl), qJ 31 (j5 _ rfl), qJ 32 (j6 _ rfl), qJ 33 (j7 _ rfl), qJ 5 (j8 _ rfl), qJ 6 (j9 _ rfl)] at hA
  clear hO j0 j1 j2 j3 j4 j5 j6 j7 j8 j9
  subst hA
  have hb2 := of_drew hE
  have HM2 := Lib.hid ((hb2.block _ (lt_of_block HM1.out)).trans HM1.out)
  have HB2 := Lib.hid (bnext HB1.out hb2)
  clear hE hb2 m0 m1
  obtain ⟨w2, hw2⟩ : ∃ w2, w' = w2 := ⟨_, rfl⟩
  rw [hw2] at HM2 HB2 ⊢
  clear hw2
  obtain ⟨K1, hK1⟩ : ∃ K1, keysK K0 = K1 := ⟨_, rfl⟩
  have HKS : Hid (∀ wv, Calls Tryz.prog 34 #[.agg #[.int .u8 (s : Nat), .int .u8 (d : Nat), .int .u8 (z : Nat), .int .u64 (F : Nat), .int .u64 (L : Nat), .int .i64 K0, .int .u64 (r : Nat), .int .u64 (wt : Nat)]] wv fun e w' => e = .returned (.int .i64 K1) ∧ Below wv.heap.size wv w') := Lib.hid (fun wv => by rw [← hK1]; exact keys14_any s d z F L K0 r wt wv)
  have HNW := Lib.hid (fun wv => newP_any seed F L K1 wv HFL.out.1)
  have HRN := Lib.hid (fun wv => rnewP_any seed F L K1 wv HFL.out.1 HFL.out.2.1)
  obtain ⟨E, hE9⟩ : ∃ E, newE seed.size F L K1 = E := ⟨_, rfl⟩
  have HEE := Lib.hid hE9
  clear hK1 hE9
  have m0 : w2.cell? ⟨mb, 0, none⟩ = some (.int .u8 (s : Nat)) := block_cell HM2.out 0
  have m1 : w2.cell? ⟨mb, 1, none⟩ = some (.int .u8 (d : Nat)) := block_cell HM2.out 1
  have m2 : w2.cell? ⟨mb, 2, none⟩ = some (.int .u8 (z : Nat)) := block_cell HM2.out 2
  have m3 : w2.cell? ⟨mb, 3, none⟩ = some (.int .u64 (F : Nat)) := block_cell HM2.out 3
  have m4 : w2.cell? ⟨mb, 4, none⟩ = some (.int .u64 (L : Nat)) := block_cell HM2.out 4
  have m5 : w2.cell? ⟨mb, 5, none⟩ = some (.int .i64 K0) := block_cell HM2.out 5
  have m6 : w2.cell? ⟨mb, 6, none⟩ = some (.int .u64 (r : Nat)) := block_cell HM2.out 6
  have m7 : w2.cell? ⟨mb, 7, none⟩ = some (.int .u64 (wt : Nat)) := block_cell HM2.out 7
  go_upto_region 3 with fail
  refine wp_region_all 1000 (none) (phis [fun u _ => u = (.string seed), fun u _ => u = (.pointer (some ⟨mb, 3, none⟩)), fun u _ => u = (.int .u64 (F : Nat)), fun u _ => u = (.pointer (some ⟨mb, 4, none⟩)), fun u _ => u = (.int .u64 (L : Nat)), fun u _ => u = (.agg #[.int .u8 (s : Nat), .int .u8 (d : Nat), .int .u8 (z : Nat), .int .u64 (F : Nat), .int .u64 (L : Nat), .int .i64 K0, .int .u64 (r : Nat), .int .u64 (wt : Nat)]), fun u _ => u = (.int .i64 K1), fun u w' => NwP seed F L K1 u w', fun u w' => NwP seed F L K1 u w', fun u w' => NwF seed F L K1 u w', fun u _ => u = (.int .i64 E), fun u w' => NwF seed F L K1 u w', fun u _ => u = (.int .i64 E)]) rfl (by kernel_rfl) (mono_of ⟨mono_eq, mono_eq, mono_eq, mono_eq, mono_eq, mono_eq, mono_eq, ?m7, ?m8, ?m9, mono_eq, ?m11, mono_eq, trivial⟩) (steps_of 13 ⟨?s0, ?s1, ?s2, ?s3, ?s4, ?s5, ?s6, ?s7, ?s8, ?s9, ?s10, ?s11, ?s12, trivial⟩) ?_
  case m7 =>
    exact ⟨fun u w1 w' h h1 => h1.below h, fun _ u w1 w' h h1 => h1.below (extB_none h)⟩
  case m8 =>
    exact ⟨fun u w1 w' h h1 => h1.below h, fun _ u w1 w' h h1 => h1.below (extB_none h)⟩
  case m9 =>
    exact ⟨fun u w1 w' h h1 => h1.below h, fun _ u w1 w' h h1 => h1.below (extB_none h)⟩
  case m11 =>
    exact ⟨fun u w1 w' h h1 => h1.below h, fun _ u w1 w' h h1 => h1.below (extB_none h)⟩
  case s0 =>
    refine qV (fun _ => rfl) rfl fun av wv hE hO hD => ?_
    simp [go_sem, qF av 5 (.string seed) (hO.2.2 5 rfl)]
  case s1 =>
    refine qV (fun _ => rfl) rfl fun av wv hE hO hD => ?_
    simp [go_sem, qF av 1 (.pointer (some ⟨mb, 0, none⟩)) (hO.2.2 1 rfl)]
  case s2 =>
    refine qV (fun _ => rfl) rfl fun av wv hE hO hD => ?_
    simp [go_sem, qE (hD.1 rfl _ rfl), extB_cell hE (by simp) m0, extB_cell hE (by simp) m1, extB_cell hE (by simp) m2, extB_cell hE (by simp) m3, extB_cell hE (by simp) m4, extB_cell hE (by simp) m5, extB_cell hE (by simp) m6, extB_cell hE (by simp) m7]
  case s3 =>
    refine qV (fun _ => rfl) rfl fun av wv hE hO hD => ?_
    simp [go_sem, qF av 1 (.pointer (some ⟨mb, 0, none⟩)) (hO.2.2 1 rfl)]
  case s4 =>
    refine qV (fun _ => rfl) rfl fun av wv hE hO hD => ?_
    simp [go_sem, qE (hD.1 rfl _ rfl), extB_cell hE (by simp) m0, extB_cell hE (by simp) m1, extB_cell hE (by simp) m2, extB_cell hE (by simp) m3, extB_cell hE (by simp) m4, extB_cell hE (by simp) m5, extB_cell hE (by simp) m6, extB_cell hE (by simp) m7]
  case s5 =>
    refine qV (fun _ => rfl) rfl fun av wv hE hO hD => ?_
    simp [go_sem, qF av 1 (.pointer (some ⟨mb, 0, none⟩)) (hO.2.2 1 rfl), extB_cell hE (by simp) m0, extB_cell hE (by simp) m1, extB_cell hE (by simp) m2, extB_cell hE (by simp) m3, extB_cell hE (by simp) m4, extB_cell hE (by simp) m5, extB_cell hE (by simp) m6, extB_cell hE (by simp) m7]
  case s6 =>
    refine step_wp (fun av wv hE hS hO hD => ⟨rfl, ?_⟩)
    have f40 := qE (hD.1 rfl _ rfl)
    refine wp_of_call (v := .int .i64 K1) (by simp [go_sem, f40]) (HKS.out wv) (fun w2 hb => ⟨_, rfl, es_of_ext hb, rfl⟩)
  case s7 =>
    refine step_wp (fun av wv hE hS hO hD => ⟨rfl, ?_⟩)
    have f35 := qE (hD.1 rfl _ rfl)
    have f37 := qE (hD.2.1 rfl _ rfl)
    have f39 := qE (hD.2.2.1 rfl _ rfl)
    have f41 := qE (hD.2.2.2.1 rfl _ rfl)
    refine wp_of_callV (R := fun u w2 => NwP seed F L K1 u w2 ∧ Below wv.heap.size wv w2) (f := 30) (args := #[.string seed, .int .u64 (F : Nat), .int .u64 (L : Nat), .int .i64 K1]) (by simp [go_sem, f35, f37, f39, f41]) (HNW.out wv) (fun v w2 h => ⟨_, rfl, es_of_ext h.2, h.1⟩)
  case s8 =>
    refine step_wp (fun av wv hE hS hO hD => ⟨rfl, ?_⟩)
    have d42 : (fun u w' => NwP seed F L K1 u w') (av.eval (.tmp 42)) wv := hD.1 rfl _ rfl
    obtain ⟨u, hu⟩ : ∃ u, av.eval (.tmp 42) = u := ⟨_, rfl⟩
    rw [hu] at d42
    have fu := (ev_form av 42).symm.trans hu
    exact wp_of_run (v := u) (w' := wv) (by simp [go_sem, fu]) ⟨_, rfl, es_of_ext (Ext_refl _), d42⟩
  case s9 =>
    refine step_wp (fun av wv hE hS hO hD => ⟨rfl, ?_⟩)
    have d34 : (fun u w' => NwP seed F L K1 u w') (av.eval (.tmp 34)) wv := hD.1 rfl _ rfl
    obtain ⟨p, hp, hq⟩ := d34.pair
    have fu := (ev_form av 34).symm.trans hp
    exact wp_of_run (v := p) (w' := wv) (by simp [go_sem, fu]) ⟨_, rfl, es_of_ext (Ext_refl _), hq⟩
  case s10 =>
    refine step_wp (fun av wv hE hS hO hD => ⟨rfl, ?_⟩)
    have d34 : (fun u w' => NwP seed F L K1 u w') (av.eval (.tmp 34)) wv := hD.1 rfl _ rfl
    obtain ⟨p, hp, hq⟩ := d34.pair
    rw [HEE.out] at hp
    have fu := (ev_form av 34).symm.trans hp
    exact wp_of_run (v := .int .i64 E) (w' := wv) (by simp [go_sem, fu]) ⟨_, rfl, es_of_ext (Ext_refl _), rfl⟩
  case s11 =>
    refine step_wp (fun av wv hE hS hO hD => ⟨rfl, ?_⟩)
    have d43 : (fun u w' => NwF seed F L K1 u w') (av.eval (.tmp 43)) wv := hD.1 rfl _ rfl
    obtain ⟨u, hu⟩ : ∃ u, av.eval (.tmp 43) = u := ⟨_, rfl⟩
    rw [hu] at d43
    have fu := (ev_form av 43).symm.trans hu
    exact wp_of_run (v := u) (w' := wv) (by simp [go_sem, fu]) ⟨_, rfl, es_of_ext (Ext_refl _), d43⟩
  case s12 =>
    refine qV (fun _ => rfl) rfl fun av wv hE hO hD => ?_
    simp [go_sem, qE (hD.1 rfl _ rfl)]
  intro a' w' hE hO hall
  have hA := act_of_outer (ds := [35, 36, 37, 38, 39, 40, 41, 42, 34, 43, 44, 7, 8]) rfl hO (by kernel_rfl)
  obtain ⟨j0, j1, j2, j3, j4, j5, j6, j7, j8, j9, j10, j11, j12, -⟩ := hall
  have e42 : (fun u w' => NwP seed F L K1 u w') (a'.eval (.tmp 42)) w' := j7 _ rfl
  have e34 : (fun u w' => NwP seed F L K1 u w') (a'.eval (.tmp 34)) w' := j8 _ rfl
  have e43 : (fun u w' => NwF seed F L K1 u w') (a'.eval (.tmp 43)) w' := j9 _ rfl
  have e7 : (fun u w' => NwF seed F L K1 u w') (a'.eval (.tmp 7)) w' := j11 _ rfl
  obtain ⟨v42, hv42⟩ : ∃ v, a'.eval (.tmp 42) = v := ⟨_, rfl⟩
  rw [hv42] at e42
  obtain ⟨v34, hv34⟩ : ∃ v, a'.eval (.tmp 34) = v := ⟨_, rfl⟩
  rw [hv34] at e34
  obtain ⟨v43, hv43⟩ : ∃ v, a'.eval (.tmp 43) = v := ⟨_, rfl⟩
  rw [hv43] at e43
  obtain ⟨v7, hv7⟩ : ∃ v, a'.eval (.tmp 7) = v := ⟨_, rfl⟩
  rw [hv7] at e7
  simp only [List.foldl_cons, List.foldl_nil, Act.put, List.setIfInBounds_toArray, List.set_cons_succ, List.set_cons_zero, qJ 35 (j0 _ rfl), qJ 36 (j1 _ rfl), qJ 37 (j2 _ rfl), qJ 38 (j3 _ rfl), qJ 39 (j4 _ rfl), qJ 40 (j5 _ rfl), qJ 41 (j6 _ rfl), hv42, hv34, hv43, qJ 44 (j10 _ rfl), hv7, qJ 8 (j12 _ rfl)] at hA
  clear hO j7 j8 j9 j11 j0 j1 j2 j3 j4 j5 j6 hv42 hv34 hv43 j10 hv7 j12
  subst hA
  have hb3 := of_drew hE
  have HM3 := Lib.hid ((hb3.block _ (lt_of_block HM2.out)).trans HM2.out)
  have HB3 := Lib.hid (bnext HB2.out hb3)
  have HLP := Lib.hid e7
  clear hE hb3 m0 m1 m2 m3 m4 m5 m6 m7 e42 e34 e43 e7
  obtain ⟨w3, hw3⟩ : ∃ w3, w' = w3 := ⟨_, rfl⟩
  rw [hw3] at HM3 HB3 HLP ⊢
  clear hw3
  have m0 : w3.cell? ⟨mb, 0, none⟩ = some (.int .u8 (s : Nat)) := block_cell HM3.out 0
  have m1 : w3.cell? ⟨mb, 1, none⟩ = some (.int .u8 (d : Nat)) := block_cell HM3.out 1
  have m2 : w3.cell? ⟨mb, 2, none⟩ = some (.int .u8 (z : Nat)) := block_cell HM3.out 2
  have m3 : w3.cell? ⟨mb, 3, none⟩ = some (.int .u64 (F : Nat)) := block_cell HM3.out 3
  have m4 : w3.cell? ⟨mb, 4, none⟩ = some (.int .u64 (L : Nat)) := block_cell HM3.out 4
  have m5 : w3.cell? ⟨mb, 5, none⟩ = some (.int .i64 K0) := block_cell HM3.out 5
  have m6 : w3.cell? ⟨mb, 6, none⟩ = some (.int .u64 (r : Nat)) := block_cell HM3.out 6
  have m7 : w3.cell? ⟨mb, 7, none⟩ = some (.int .u64 (wt : Nat)) := block_cell HM3.out 7
  go_upto_region 4 with fail
  refine wp_region_all 1000 (none) (phis [fun u _ => u = (.string seed), fun u _ => u = (.pointer (some ⟨mb, 3, none⟩)), fun u _ => u = (.int .u64 (F : Nat)), fun u _ => u = (.pointer (some ⟨mb, 4, none⟩)), fun u _ => u = (.int .u64 (L : Nat)), fun u _ => u = (.agg #[.int .u8 (s : Nat), .int .u8 (d : Nat), .int .u8 (z : Nat), .int .u64 (F : Nat), .int .u64 (L : Nat), .int .i64 K0, .int .u64 (r : Nat), .int .u64 (wt : Nat)]), fun u _ => u = (.int .i64 K1), fun u w' => RNwP seed F L K1 u w', fun u w' => RNwP seed F L K1 u w', fun u w' => RNwF seed F L K1 u w', fun u _ => u = (.int .i64 E), fun u w' => RNwF seed F L K1 u w', fun u _ => u = (.int .i64 E)]) rfl (by kernel_rfl) (mono_of ⟨mono_eq, mono_eq, mono_eq, mono_eq, mono_eq, mono_eq, mono_eq, ?m7, ?m8, ?m9, mono_eq, ?m11, mono_eq, trivial⟩) (steps_of 13 ⟨?s0, ?s1, ?s2, ?s3, ?s4, ?s5, ?s6, ?s7, ?s8, ?s9, ?s10, ?s11, ?s12, trivial⟩) ?_
  case m7 =>
    exact ⟨fun u w1 w' h h1 => h1.below h, fun _ u w1 w' h h1 => h1.below (extB_none h)⟩
  case m8 =>
    exact ⟨fun u w1 w' h h1 => h1.below h, fun _ u w1 w' h h1 => h1.below (extB_none h)⟩
  case m9 =>
    exact ⟨fun u w1 w' h h1 => h1.below h, fun _ u w1 w' h h1 => h1.below (extB_none h)⟩
  case m11 =>
    exact ⟨fun u w1 w' h h1 => h1.below h, fun _ u w1 w' h h1 => h1.below (extB_none h)⟩
  case s0 =>
    refine qV (fun _ => rfl) rfl fun av wv hE hO hD => ?_
    simp [go_sem, qF av 5 (.string seed) (hO.2.2 5 rfl)]
  case s1 =>
    refine qV (fun _ => rfl) rfl fun av wv hE hO hD => ?_
    simp [go_sem, qF av 1 (.pointer (some ⟨mb, 0, none⟩)) (hO.2.2 1 rfl)]
  case s2 =>
    refine qV (fun _ => rfl) rfl fun av wv hE hO hD => ?_
    simp [go_sem, qE (hD.1 rfl _ rfl), extB_cell hE (by simp) m0, extB_cell hE (by simp) m1, extB_cell hE (by simp) m2, extB_cell hE (by simp) m3, extB_cell hE (by simp) m4, extB_cell hE (by simp) m5, extB_cell hE (by simp) m6, extB_cell hE (by simp) m7]
  case s3 =>
    refine qV (fun _ => rfl) rfl fun av wv hE hO hD => ?_
    simp [go_sem, qF av 1 (.pointer (some ⟨mb, 0, none⟩)) (hO.2.2 1 rfl)]
  case s4 =>
    refine qV (fun _ => rfl) rfl fun av wv hE hO hD => ?_
    simp [go_sem, qE (hD.1 rfl _ rfl), extB_cell hE (by simp) m0, extB_cell hE (by simp) m1, extB_cell hE (by simp) m2, extB_cell hE (by simp) m3, extB_cell hE (by simp) m4, extB_cell hE (by simp) m5, extB_cell hE (by simp) m6, extB_cell hE (by simp) m7]
  case s5 =>
    refine qV (fun _ => rfl) rfl fun av wv hE hO hD => ?_
    simp [go_sem, qF av 1 (.pointer (some ⟨mb, 0, none⟩)) (hO.2.2 1 rfl), extB_cell hE (by simp) m0, extB_cell hE (by simp) m1, extB_cell hE (by simp) m2, extB_cell hE (by simp) m3, extB_cell hE (by simp) m4, extB_cell hE (by simp) m5, extB_cell hE (by simp) m6, extB_cell hE (by simp) m7]
  case s6 =>
    refine step_wp (fun av wv hE hS hO hD => ⟨rfl, ?_⟩)
    have f51 := qE (hD.1 rfl _ rfl)
    refine wp_of_call (v := .int .i64 K1) (by simp [go_sem, f51]) (HKS.out wv) (fun w2 hb => ⟨_, rfl, es_of_ext hb, rfl⟩)
  case s7 =>
    refine step_wp (fun av wv hE hS hO hD => ⟨rfl, ?_⟩)
    have f46 := qE (hD.1 rfl _ rfl)
    have f48 := qE (hD.2.1 rfl _ rfl)
    have f50 := qE (hD.2.2.1 rfl _ rfl)
    have f52 := qE (hD.2.2.2.1 rfl _ rfl)
    refine wp_of_callV (R := fun u w2 => RNwP seed F L K1 u w2 ∧ Below wv.heap.size wv w2) (f := 22) (args := #[.string seed, .int .u64 (F : Nat), .int .u64 (L : Nat), .int .i64 K1]) (by simp [go_sem, f46, f48, f50, f52]) (HRN.out wv) (fun v w2 h => ⟨_, rfl, es_of_ext h.2, h.1⟩)
  case s8 =>
    refine step_wp (fun av wv hE hS hO hD => ⟨rfl, ?_⟩)
    have d53 : (fun u w' => RNwP seed F L K1 u w') (av.eval (.tmp 53)) wv := hD.1 rfl _ rfl
    obtain ⟨u, hu⟩ : ∃ u, av.eval (.tmp 53) = u := ⟨_, rfl⟩
    rw [hu] at d53
    have fu := (ev_form av 53).symm.trans hu
    exact wp_of_run (v := u) (w' := wv) (by simp [go_sem, fu]) ⟨_, rfl, es_of_ext (Ext_refl _), d53⟩
  case s9 =>
    refine step_wp (fun av wv hE hS hO hD => ⟨rfl, ?_⟩)
    have d45 : (fun u w' => RNwP seed F L K1 u w') (av.eval (.tmp 45)) wv := hD.1 rfl _ rfl
    obtain ⟨p, hp, hq⟩ := d45.pair
    have fu := (ev_form av 45).symm.trans hp
    exact wp_of_run (v := p) (w' := wv) (by simp [go_sem, fu]) ⟨_, rfl, es_of_ext (Ext_refl _), hq⟩
  case s10 =>
    refine step_wp (fun av wv hE hS hO hD => ⟨rfl, ?_⟩)
    have d45 : (fun u w' => RNwP seed F L K1 u w') (av.eval (.tmp 45)) wv := hD.1 rfl _ rfl
    obtain ⟨p, hp, hq⟩ := d45.pair
    rw [HEE.out] at hp
    have fu := (ev_form av 45).symm.trans hp
    exact wp_of_run (v := .int .i64 E) (w' := wv) (by simp [go_sem, fu]) ⟨_, rfl, es_of_ext (Ext_refl _), rfl⟩
  case s11 =>
    refine step_wp (fun av wv hE hS hO hD => ⟨rfl, ?_⟩)
    have d54 : (fun u w' => RNwF seed F L K1 u w') (av.eval (.tmp 54)) wv := hD.1 rfl _ rfl
    obtain ⟨u, hu⟩ : ∃ u, av.eval (.tmp 54) = u := ⟨_, rfl⟩
    rw [hu] at d54
    have fu := (ev_form av 54).symm.trans hu
    exact wp_of_run (v := u) (w' := wv) (by simp [go_sem, fu]) ⟨_, rfl, es_of_ext (Ext_refl _), d54⟩
  case s12 =>
    refine qV (fun _ => rfl) rfl fun av wv hE hO hD => ?_
    simp [go_sem, qE (hD.1 rfl _ rfl)]
  intro a' w' hE hO hall
  have hA := act_of_outer (ds := [46, 47, 48, 49, 50, 51, 52, 53, 45, 54, 55, 9, 10]) rfl hO (by kernel_rfl)
  obtain ⟨j0, j1, j2, j3, j4, j5, j6, j7, j8, j9, j10, j11, j12, -⟩ := hall
  have e53 : (fun u w' => RNwP seed F L K1 u w') (a'.eval (.tmp 53)) w' := j7 _ rfl
  have e45 : (fun u w' => RNwP seed F L K1 u w') (a'.eval (.tmp 45)) w' := j8 _ rfl
  have e54 : (fun u w' => RNwF seed F L K1 u w') (a'.eval (.tmp 54)) w' := j9 _ rfl
  have e9 : (fun u w' => RNwF seed F L K1 u w') (a'.eval (.tmp 9)) w' := j11 _ rfl
  obtain ⟨v53, hv53⟩ : ∃ v, a'.eval (.tmp 53) = v := ⟨_, rfl⟩
  rw [hv53] at e53
  obtain ⟨v45, hv45⟩ : ∃ v, a'.eval (.tmp 45) = v := ⟨_, rfl⟩
  rw [hv45] at e45
  obtain ⟨v54, hv54⟩ : ∃ v, a'.eval (.tmp 54) = v := ⟨_, rfl⟩
  rw [hv54] at e54
  obtain ⟨v9, hv9⟩ : ∃ v, a'.eval (.tmp 9) = v := ⟨_, rfl⟩
  rw [hv9] at e9
  simp only [List.foldl_cons, List.foldl_nil, Act.put, List.setIfInBounds_toArray, List.set_cons_succ, List.set_cons_zero, qJ 46 (j0 _ rfl), qJ 47 (j1 _ rfl), qJ 48 (j2 _ rfl), qJ 49 (j3 _ rfl), qJ 50 (j4 _ rfl), qJ 51 (j5 _ rfl), qJ 52 (j6 _ rfl), hv53, hv45, hv54, qJ 55 (j10 _ rfl), hv9, qJ 10 (j12 _ rfl)] at hA
  clear hO j7 j8 j9 j11 j0 j1 j2 j3 j4 j5 j6 hv53 hv45 hv54 j10 hv9 j12
  subst hA
  have hb4 := of_drew hE
  have HM4 := Lib.hid ((hb4.block _ (lt_of_block HM3.out)).trans HM3.out)
  have HB4 := Lib.hid (bnext HB3.out hb4)
  have HLP4 := Lib.hid (HLP.out.below hb4)
  have HRP := Lib.hid e9
  clear hE hb4 m0 m1 m2 m3 m4 m5 m6 m7 e53 e45 e54 e9 HLP
  obtain ⟨w4, hw4⟩ : ∃ w4, w' = w4 := ⟨_, rfl⟩
  rw [hw4] at HM4 HB4 HLP4 HRP ⊢
  clear hw4
  by_cases h0 : E = 0
  · subst h0
    obtain ⟨h9, -⟩ | ⟨-, lb, tb, rfl, hl⟩ := HLP4.out
    · exact absurd HEE.out h9
    obtain ⟨h9, -⟩ | ⟨-, rb, la, lc, rfl, hrl⟩ := HRP.out
    · exact absurd HEE.out h9
    have hm9 := newE_ok HEE.out
    obtain ⟨K, rfl⟩ : ∃ K : Nat, K1 = (K : Int) := ⟨K1.toNat, by omega⟩
    rw [Int.toNat_natCast] at hl hrl
    have HK : Hid (1 ≤ K ∧ K ≤ 64 ∧ 0 < L ∧ F + K * L ≤ 18446744073709551615) := Lib.hid (by
      have h5 := hm9.2.2.2.2
      rw [Int.toNat_natCast] at h5
      exact ⟨by omega, by omega, hm9.2.1, (fitsL_iff (by omega) (by have := HFL.out; omega)).1 h5⟩)
    have HL4 := Lib.hid hl
    have HR4 := Lib.hid hrl
    clear hl hrl hm9 HLP4 HRP HKS HNW HRN
    obtain ⟨RT, hrt⟩ : ∃ rt, ladR seed K = rt := ⟨_, rfl⟩
    have HR1 : Hid (∀ wv, Below w4.heap.size w4 wv → Calls Tryz.prog 35 #[.pointer (some ⟨lb, 0, none⟩)] wv fun e w' => e = .returned (.string RT) ∧ Below wv.heap.size wv w') := Lib.hid (fun wv hb => by rw [← hrt]; exact lroot14_any seed F L K lb tb wv (HL4.out.below hb))
    have HR2 : Hid (∀ wv, Below w4.heap.size w4 wv → Calls Tryz.prog 36 #[.pointer (some ⟨rb, 0, none⟩)] wv fun e w' => e = .returned (.string RT) ∧ Below wv.heap.size wv w') := Lib.hid (fun wv hb => by rw [← hrt]; exact rroot14_any seed F L K rb la lc wv (HR4.out.below hb) HK.out.2.1)
    have HP1 : Hid (∀ wv, Below w4.heap.size w4 wv → Calls Tryz.prog 32 #[.pointer (some ⟨lb, 0, none⟩), .int .u64 (wt : Nat)] wv fun e w' => e = .returned (.agg #[.string RT, .int .u64 (wt : Nat), .int .u64 (F : Nat), .int .u64 (L : Nat), .int .u64 (K : Nat)]) ∧ Below wv.heap.size wv w') := Lib.hid (fun wv hb => by rw [← hrt]; exact lpart_any seed F L K lb tb wt wv (HL4.out.below hb))
    have HP2 : Hid (∀ wv, Below w4.heap.size w4 wv → Calls Tryz.prog 26 #[.pointer (some ⟨rb, 0, none⟩), .int .u64 (wt : Nat)] wv fun e w' => e = .returned (.agg #[.string RT, .int .u64 (wt : Nat), .int .u64 (F : Nat), .int .u64 (L : Nat), .int .u64 (K : Nat)]) ∧ Below wv.heap.size wv w') := Lib.hid (fun wv hb => by rw [← hrt]; exact rpart14_any seed F L K rb wt la lc wv (HR4.out.below hb) HK.out.2.1)
    have es : (RT.toList == RT.toList) = true := by rw [str_beq]; exact decide_eq_true rfl
    have m7 : w4.cell? ⟨mb, 7, none⟩ = some (.int .u64 (wt : Nat)) := block_cell HM4.out 7
    clear hrt
    go_upto_region 9 with fail
    refine wp_region_all 1000 (none) (phis (List.map qv [.pointer (some ⟨lb, 0, none⟩), .string RT, .pointer (some ⟨rb, 0, none⟩), .string RT, .bool false, .bool false, .pointer (some ⟨lb, 0, none⟩), .pointer (some ⟨mb, 7, none⟩), .int .u64 (wt : Nat), .agg #[.string RT, .int .u64 (wt : Nat), .int .u64 (F : Nat), .int .u64 (L : Nat), .int .u64 (K : Nat)], .pointer (some ⟨rb, 0, none⟩), .pointer (some ⟨mb, 7, none⟩), .int .u64 (wt : Nat), .agg #[.string RT, .int .u64 (wt : Nat), .int .u64 (F : Nat), .int .u64 (L : Nat), .int .u64 (K : Nat)], .bool false, .bool false])) rfl (by kernel_rfl) (mono_of mono_qv) (steps_of 16 ⟨?s0, ?s1, ?s2, ?s3, ?s4, ?s5, ?s6, ?s7, ?s8, ?s9, ?s10, ?s11, ?s12, ?s13, ?s14, ?s15, trivial⟩) ?_
    case s0 =>
      refine qV (fun _ => rfl) rfl fun av wv hE hO hD => ?_
      simp [go_sem, qF av 7 (.pointer (some ⟨lb, 0, none⟩)) (hO.2.2 7 rfl), es]
    case s1 =>
      refine step_wp (fun av wv hE hS hO hD => ⟨rfl, ?_⟩)
      have f69 := qE (hD.1 rfl _ rfl)
      refine wp_of_call (v := .string RT) (by simp [go_sem, f69]) (HR1.out wv (of_drew hE)) (fun w2 hb => ⟨_, rfl, es_of_ext hb, rfl⟩)
    case s2 =>
      refine qV (fun _ => rfl) rfl fun av wv hE hO hD => ?_
      simp [go_sem, qF av 9 (.pointer (some ⟨rb, 0, none⟩)) (hO.2.2 9 rfl), es]
    case s3 =>
      refine step_wp (fun av wv hE hS hO hD => ⟨rfl, ?_⟩)
      have f71 := qE (hD.1 rfl _ rfl)
      refine wp_of_call (v := .string RT) (by simp [go_sem, f71]) (HR2.out wv (of_drew hE)) (fun w2 hb => ⟨_, rfl, es_of_ext hb, rfl⟩)
    case s4 =>
      refine qV (fun _ => rfl) rfl fun av wv hE hO hD => ?_
      simp [go_sem, qE (hD.1 rfl _ rfl), qE (hD.2.1 rfl _ rfl), es]
    case s5 =>
      refine qV (fun _ => rfl) rfl fun av wv hE hO hD => ?_
      simp [go_sem, qE (hD.1 rfl _ rfl), es]
    case s6 =>
      refine step_val (fun av wv hE hS hO hD => ⟨(wY rfl rfl rfl (hD.1 rfl _ rfl)), ?_⟩) (fun _ => rfl)
      simp [go_sem, qF av 7 (.pointer (some ⟨lb, 0, none⟩)) (hO.2.2 7 rfl), qE (hD.1 rfl _ rfl), es]
    case s7 =>
      refine step_val (fun av wv hE hS hO hD => ⟨(wY rfl rfl rfl (hD.1 rfl _ rfl)), ?_⟩) (fun _ => rfl)
      simp [go_sem, qF av 1 (.pointer (some ⟨mb, 0, none⟩)) (hO.2.2 1 rfl), qE (hD.1 rfl _ rfl), es]
    case s8 =>
      refine step_val (fun av wv hE hS hO hD => ⟨(wY rfl rfl rfl (hD.2.1 rfl _ rfl)), ?_⟩) (fun _ => rfl)
      simp [go_sem, qE (hD.1 rfl _ rfl), qE (hD.2.1 rfl _ rfl), extB_cell hE (by simp) m7, es]
    case s9 =>
      refine step_wp (fun av wv hE hS hO hD => ⟨(wY rfl rfl rfl (hD.2.2.1 rfl _ rfl)), ?_⟩)
      have f75 := qE (hD.1 rfl _ rfl)
      have f77 := qE (hD.2.1 rfl _ rfl)
      refine wp_of_call (v := .agg #[.string RT, .int .u64 (wt : Nat), .int .u64 (F : Nat), .int .u64 (L : Nat), .int .u64 (K : Nat)]) (by simp [go_sem, f75, f77]) (HP1.out wv (of_drew hE)) (fun w2 hb => ⟨_, rfl, es_of_ext hb, rfl⟩)
    case s10 =>
      refine step_val (fun av wv hE hS hO hD => ⟨(wY rfl rfl rfl (hD.1 rfl _ rfl)), ?_⟩) (fun _ => rfl)
      simp [go_sem, qF av 9 (.pointer (some ⟨rb, 0, none⟩)) (hO.2.2 9 rfl), qE (hD.1 rfl _ rfl), es]
    case s11 =>
      refine step_val (fun av wv hE hS hO hD => ⟨(wY rfl rfl rfl (hD.1 rfl _ rfl)), ?_⟩) (fun _ => rfl)
      simp [go_sem, qF av 1 (.pointer (some ⟨mb, 0, none⟩)) (hO.2.2 1 rfl), qE (hD.1 rfl _ rfl), es]
    case s12 =>
      refine step_val (fun av wv hE hS hO hD => ⟨(wY rfl rfl rfl (hD.2.1 rfl _ rfl)), ?_⟩) (fun _ => rfl)
      simp [go_sem, qE (hD.1 rfl _ rfl), qE (hD.2.1 rfl _ rfl), extB_cell hE (by simp) m7, es]
    case s13 =>
      refine step_wp (fun av wv hE hS hO hD => ⟨(wY rfl rfl rfl (hD.2.2.2.1 rfl _ rfl)), ?_⟩)
      have f79 := qE (hD.1 rfl _ rfl)
      have f81 := qE (hD.2.1 rfl _ rfl)
      refine wp_of_call (v := .agg #[.string RT, .int .u64 (wt : Nat), .int .u64 (F : Nat), .int .u64 (L : Nat), .int .u64 (K : Nat)]) (by simp [go_sem, f79, f81]) (HP2.out wv (of_drew hE)) (fun w2 hb => ⟨_, rfl, es_of_ext hb, rfl⟩)
    case s14 =>
      refine step_val (fun av wv hE hS hO hD => ⟨(wY rfl rfl rfl (hD.2.2.1 rfl _ rfl)), ?_⟩) (fun _ => rfl)
      simp [go_sem, qE (hD.1 rfl _ rfl), qE (hD.2.1 rfl _ rfl), qE (hD.2.2.1 rfl _ rfl), es]
    case s15 =>
      refine qV (fun _ => rfl) rfl fun av wv hE hO hD => ?_
      simp [go_sem, qE (hD.1 rfl _ rfl), qE (hD.2.1 rfl _ rfl), es]
    intro a' w' hE hO hall
    have hA := act_of_outer (ds := [69, 70, 71, 72, 73, 74, 75, 76, 77, 78, 79, 80, 81, 82, 83, 84]) rfl hO (by kernel_rfl)
    obtain ⟨j0, j1, j2, j3, j4, j5, j6, j7, j8, j9, j10, j11, j12, j13, j14, j15, -⟩ := hall
    simp only [List.foldl_cons, List.foldl_nil, Act.put, List.setIfInBounds_toArray, List.set_cons_succ, List.set_cons_zero, qJ 69 (j0 _ rfl), qJ 70 (j1 _ rfl), qJ 71 (j2 _ rfl), qJ 72 (j3 _ rfl), qJ 73 (j4 _ rfl), qJ 74 (j5 _ rfl), qJ 75 (j6 _ rfl), qJ 76 (j7 _ rfl), qJ 77 (j8 _ rfl), qJ 78 (j9 _ rfl), qJ 79 (j10 _ rfl), qJ 80 (j11 _ rfl), qJ 81 (j12 _ rfl), qJ 82 (j13 _ rfl), qJ 83 (j14 _ rfl), qJ 84 (j15 _ rfl)] at hA
    clear hO j0 j1 j2 j3 j4 j5 j6 j7 j8 j9 j10 j11 j12 j13 j14 j15
    subst hA
    have hb5 := of_drew hE
    have HM5 := Lib.hid ((hb5.block _ (lt_of_block HM4.out)).trans HM4.out)
    have HB5 := Lib.hid (bnext HB4.out hb5)
    have HL5 := Lib.hid (HL4.out.below hb5)
    have HR5 := Lib.hid (HR4.out.below hb5)
    clear hE hb5 m7 es
    obtain ⟨w5, hw5⟩ : ∃ w5, w' = w5 := ⟨_, rfl⟩
    rw [hw5] at HM5 HB5 HL5 HR5 ⊢
    clear hw5
    have m3 : w5.cell? ⟨mb, 3, none⟩ = some (.int .u64 (F : Nat)) := block_cell HM5.out 3
    have m4 : w5.cell? ⟨mb, 4, none⟩ = some (.int .u64 (L : Nat)) := block_cell HM5.out 4
    have m6 : w5.cell? ⟨mb, 6, none⟩ = some (.int .u64 (r : Nat)) := block_cell HM5.out 6
    have r3 : w5.cell? ⟨rb, 3, none⟩ = some (.slice la K lc) := block_cell HR5.out.c 3
    obtain ⟨A, hA⟩ : ∃ A, L * K = A := ⟨_, rfl⟩
    have HA : Hid (1 ≤ A ∧ F + A ≤ 18446744073709551615) := Lib.hid ⟨by rw [← hA]; have := HK.out; exact Nat.mul_pos (by omega) (by omega), by rw [← hA, Nat.mul_comm]; exact HK.out.2.2.2⟩
    obtain ⟨q, hq⟩ : ∃ q, r % A = q := ⟨_, rfl⟩
    have HQ : Hid (q < A) := Lib.hid (by rw [← hq]; exact Nat.mod_lt _ HA.out.1)
    obtain ⟨R1, hR1⟩ : ∃ R1, F + q = R1 := ⟨_, rfl⟩
    have HR1B : Hid (R1 < 18446744073709551616) := Lib.hid (by have := HA.out; have := HQ.out; omega)
    have k1 : IntKind.u64.wrap ((K : Nat) : Int) = (K : Int) := IntWalk.u64_in _ (by have := HK.out; omega)
    have k2 : ((L : Nat) : Int) * (K : Int) = (A : Int) := by rw [← hA, Int.natCast_mul]
    have k3 : IntKind.u64.wrap ((A : Nat) : Int) = (A : Int) := IntWalk.u64_in _ (by have := HA.out; omega)
    have k4 : ((A : Nat) : Int) ≠ 0 := by have := HA.out; omega
    have k9 : A ≠ 0 := by have := HA.out; omega
    have k5 : Int.tmod ((r : Nat) : Int) (A : Int) = (q : Int) := by rw [← hq]; exact (Int.ofNat_tmod r A).symm
    have k6 : IntKind.u64.wrap ((q : Nat) : Int) = (q : Int) := IntWalk.u64_in _ (by have := HA.out; have := HQ.out; omega)
    have k7 : ((F : Nat) : Int) + (q : Int) = (R1 : Int) := by omega
    have k8 : IntKind.u64.wrap ((R1 : Nat) : Int) = (R1 : Int) := IntWalk.u64_in _ (by have := HR1B.out; omega)
    clear hA hq hR1
    go_upto_region 11 with fail
    refine wp_region_all 1000 (none) (phis [fun u _ => u = (.pointer (some ⟨mb, 6, none⟩)), fun u _ => u = (.int .u64 (r : Nat)), fun u _ => u = (.pointer (some ⟨mb, 3, none⟩)), fun u _ => u = (.int .u64 (F : Nat)), fun u _ => u = (.pointer (some ⟨mb, 6, none⟩)), fun u _ => u = (.int .u64 (r : Nat)), fun u _ => u = (.pointer (some ⟨mb, 4, none⟩)), fun u _ => u = (.int .u64 (L : Nat)), fun u _ => u = (.pointer (some ⟨rb, 0, none⟩)), fun u _ => u = (.pointer (some ⟨rb, 0, none⟩)), fun u _ => u = (.pointer (some ⟨rb, 3, none⟩)), fun u _ => u = (.slice la K lc), fun u _ => u = (.int .i64 (K : Nat)), fun u _ => u = (.int .u64 (K : Nat)), fun u _ => u = (.int .u64 (A : Nat)), fun u _ => u = (.int .u64 (q : Nat)), fun u _ => u = (.int .u64 (R1 : Nat)), fun u w' => ∃ b, u = .slice (some ⟨b, 0, none⟩) 2 2 ∧ w'.heap[b]? = some (.cells #[.int .u64 (r : Nat), .int .u64 (R1 : Nat)] 37 (0, 0)), fun u _ => u = (.int .i64 2), fun u _ => u = (.int .i64 0)]) rfl (by kernel_rfl) (mono_of ⟨mono_eq, mono_eq, mono_eq, mono_eq, mono_eq, mono_eq, mono_eq, mono_eq, mono_eq, mono_eq, mono_eq, mono_eq, mono_eq, mono_eq, mono_eq, mono_eq, mono_eq, ?m17, mono_eq, mono_eq, trivial⟩) (steps_of 20 ⟨?s0, ?s1, ?s2, ?s3, ?s4, ?s5, ?s6, ?s7, ?s8, ?s9, ?s10, ?s11, ?s12, ?s13, ?s14, ?s15, ?s16, ?s17, ?s18, ?s19, trivial⟩) ?_
    case m17 =>
      exact ⟨fun u w1 w' h ⟨b, h1, hb⟩ => ⟨b, h1, ext_block h hb⟩, fun _ u w1 w' h ⟨b, h1, hb⟩ => ⟨b, h1, extB_block h (by simp) hb⟩⟩
    case s0 =>
      refine qV (fun _ => rfl) rfl fun av wv hE hO hD => ?_
      simp [go_sem, qF av 1 (.pointer (some ⟨mb, 0, none⟩)) (hO.2.2 1 rfl), k1, k2, k3, k4, k5, k6, k7, k8, k9]
    case s1 =>
      refine qV (fun _ => rfl) rfl fun av wv hE hO hD => ?_
      simp [go_sem, qE (hD.1 rfl _ rfl), extB_cell hE (by simp) m3, extB_cell hE (by simp) m4, extB_cell hE (by simp) m6, extB_cell hE (by simp) r3, k1, k2, k3, k4, k5, k6, k7, k8, k9]
    case s2 =>
      refine qV (fun _ => rfl) rfl fun av wv hE hO hD => ?_
      simp [go_sem, qF av 1 (.pointer (some ⟨mb, 0, none⟩)) (hO.2.2 1 rfl), k1, k2, k3, k4, k5, k6, k7, k8, k9]
    case s3 =>
      refine qV (fun _ => rfl) rfl fun av wv hE hO hD => ?_
      simp [go_sem, qE (hD.1 rfl _ rfl), extB_cell hE (by simp) m3, extB_cell hE (by simp) m4, extB_cell hE (by simp) m6, extB_cell hE (by simp) r3, k1, k2, k3, k4, k5, k6, k7, k8, k9]
    case s4 =>
      refine qV (fun _ => rfl) rfl fun av wv hE hO hD => ?_
      simp [go_sem, qF av 1 (.pointer (some ⟨mb, 0, none⟩)) (hO.2.2 1 rfl), k1, k2, k3, k4, k5, k6, k7, k8, k9]
    case s5 =>
      refine qV (fun _ => rfl) rfl fun av wv hE hO hD => ?_
      simp [go_sem, qE (hD.1 rfl _ rfl), extB_cell hE (by simp) m3, extB_cell hE (by simp) m4, extB_cell hE (by simp) m6, extB_cell hE (by simp) r3, k1, k2, k3, k4, k5, k6, k7, k8, k9]
    case s6 =>
      refine qV (fun _ => rfl) rfl fun av wv hE hO hD => ?_
      simp [go_sem, qF av 1 (.pointer (some ⟨mb, 0, none⟩)) (hO.2.2 1 rfl), k1, k2, k3, k4, k5, k6, k7, k8, k9]
    case s7 =>
      refine qV (fun _ => rfl) rfl fun av wv hE hO hD => ?_
      simp [go_sem, qE (hD.1 rfl _ rfl), extB_cell hE (by simp) m3, extB_cell hE (by simp) m4, extB_cell hE (by simp) m6, extB_cell hE (by simp) r3, k1, k2, k3, k4, k5, k6, k7, k8, k9]
    case s8 =>
      refine qV (fun _ => rfl) rfl fun av wv hE hO hD => ?_
      simp [go_sem, qF av 9 (.pointer (some ⟨rb, 0, none⟩)) (hO.2.2 9 rfl), k1, k2, k3, k4, k5, k6, k7, k8, k9]
    case s9 =>
      refine qV (fun _ => rfl) rfl fun av wv hE hO hD => ?_
      simp [go_sem, qE (hD.1 rfl _ rfl), k1, k2, k3, k4, k5, k6, k7, k8, k9]
    case s10 =>
      refine qV (fun _ => rfl) rfl fun av wv hE hO hD => ?_
      simp [go_sem, qE (hD.1 rfl _ rfl), k1, k2, k3, k4, k5, k6, k7, k8, k9]
    case s11 =>
      refine qV (fun _ => rfl) rfl fun av wv hE hO hD => ?_
      simp [go_sem, qE (hD.1 rfl _ rfl), extB_cell hE (by simp) m3, extB_cell hE (by simp) m4, extB_cell hE (by simp) m6, extB_cell hE (by simp) r3, k1, k2, k3, k4, k5, k6, k7, k8, k9]
    case s12 =>
      refine qV (fun _ => rfl) rfl fun av wv hE hO hD => ?_
      simp [go_sem, qE (hD.1 rfl _ rfl), k1, k2, k3, k4, k5, k6, k7, k8, k9]
    case s13 =>
      refine qV (fun _ => rfl) rfl fun av wv hE hO hD => ?_
      simp [go_sem, qE (hD.1 rfl _ rfl), k1, k2, k3, k4, k5, k6, k7, k8, k9]
    case s14 =>
      refine qV (fun _ => rfl) rfl fun av wv hE hO hD => ?_
      simp [go_sem, qE (hD.1 rfl _ rfl), qE (hD.2.1 rfl _ rfl), k1, k2, k3, k4, k5, k6, k7, k8, k9]
    case s15 =>
      refine qV (fun _ => rfl) rfl fun av wv hE hO hD => ?_
      simp [go_sem, qE (hD.1 rfl _ rfl), qE (hD.2.1 rfl _ rfl), k1, k2, k3, k4, k5, k6, k7, k8, k9]
    case s16 =>
      refine qV (fun _ => rfl) rfl fun av wv hE hO hD => ?_
      simp [go_sem, qE (hD.1 rfl _ rfl), qE (hD.2.1 rfl _ rfl), k1, k2, k3, k4, k5, k6, k7, k8, k9]
    case s17 =>
      refine step_wp (fun av wv hE hS hO hD => ⟨rfl, ?_⟩)
      have f86 := qE (hD.1 rfl _ rfl)
      have f101 := qE (hD.2.1 rfl _ rfl)
      exact wp_of_run (v := .slice (some ⟨wv.heap.size, 0, none⟩) 2 2) (w' := wv.alloc (.cells #[.int .u64 (r : Nat), .int .u64 (R1 : Nat)] 37)) (by simp [go_sem, f86, f101]) ⟨_, rfl, es_of_ext (balloc (Ext_refl _) _), wv.heap.size, rfl, heap_alloc_new _ _⟩
    case s18 =>
      refine step_wp (fun av wv hE hS hO hD => ⟨rfl, ?_⟩)
      have d102 : (fun u w' => ∃ b, u = .slice (some ⟨b, 0, none⟩) 2 2 ∧ w'.heap[b]? = some (.cells #[.int .u64 (r : Nat), .int .u64 (R1 : Nat)] 37 (0, 0))) (av.eval (.tmp 102)) wv := hD.1 rfl _ rfl
      obtain ⟨b, hq, hcq⟩ := d102
      have fq := (ev_form av 102).symm.trans hq
      exact wp_of_run (v := .int .i64 2) (w' := wv) (by simp [go_sem, fq]) ⟨_, rfl, es_of_ext (Ext_refl _), rfl⟩
    case s19 =>
      refine qV (fun _ => rfl) rfl fun av wv hE hO hD => ?_
      simp [go_sem, k1, k2, k3, k4, k5, k6, k7, k8, k9]
    intro a' w' hE hO hall
    have hA := act_of_outer (ds := [85, 86, 87, 88, 89, 90, 91, 92, 93, 94, 95, 96, 97, 98, 99, 100, 101, 102, 103, 104]) rfl hO (by kernel_rfl)
    obtain ⟨j0, j1, j2, j3, j4, j5, j6, j7, j8, j9, j10, j11, j12, j13, j14, j15, j16, j17, j18, j19, -⟩ := hall
    have e102 : (fun u w' => ∃ b, u = .slice (some ⟨b, 0, none⟩) 2 2 ∧ w'.heap[b]? = some (.cells #[.int .u64 (r : Nat), .int .u64 (R1 : Nat)] 37 (0, 0))) (a'.eval (.tmp 102)) w' := j17 _ rfl
    obtain ⟨v102, hv102⟩ : ∃ v, a'.eval (.tmp 102) = v := ⟨_, rfl⟩
    rw [hv102] at e102
    simp only [List.foldl_cons, List.foldl_nil, Act.put, List.setIfInBounds_toArray, List.set_cons_succ, List.set_cons_zero, qJ 85 (j0 _ rfl), qJ 86 (j1 _ rfl), qJ 87 (j2 _ rfl), qJ 88 (j3 _ rfl), qJ 89 (j4 _ rfl), qJ 90 (j5 _ rfl), qJ 91 (j6 _ rfl), qJ 92 (j7 _ rfl), qJ 93 (j8 _ rfl), qJ 94 (j9 _ rfl), qJ 95 (j10 _ rfl), qJ 96 (j11 _ rfl), qJ 97 (j12 _ rfl), qJ 98 (j13 _ rfl), qJ 99 (j14 _ rfl), qJ 100 (j15 _ rfl), qJ 101 (j16 _ rfl), hv102, qJ 103 (j18 _ rfl), qJ 104 (j19 _ rfl)] at hA
    clear hO j17 j0 j1 j2 j3 j4 j5 j6 j7 j8 j9 j10 j11 j12 j13 j14 j15 j16 hv102 j18 j19
    subst hA
    obtain ⟨ib, rfl, hib⟩ := e102
    have hb6 := of_drew hE
    have HIB := Lib.hid hib
    have HB6 := Lib.hid (bnext HB5.out hb6)
    have HL6 := Lib.hid (HL5.out.below hb6)
    have HR6 := Lib.hid (HR5.out.below hb6)
    clear hE hb6 hib m3 m4 m6 r3 k1 k2 k3 k4 k5 k6 k7 k8 k9 HR1 HR2 HP1 HP2
    obtain ⟨w6, hw6⟩ : ∃ w6, w' = w6 := ⟨_, rfl⟩
    rw [hw6] at HIB HB6 HL6 HR6 ⊢
    clear hw6
    have HRD : Hid (∀ j, j < 2 → ∃ x : Nat, x < 18446744073709551616 ∧ ∀ wv, Below w6.heap.size w6 wv → wv.cell? ⟨ib, j, none⟩ = some (.int .u64 (x : Nat))) := Lib.hid (fun j hj => by
      rcases (by omega : j = 0 ∨ j = 1) with rfl | rfl
      · exact ⟨r, HFL.out.2.2, fun wv hb => block_cell ((hb.block _ (lt_of_block HIB.out)).trans HIB.out) 0⟩
      · exact ⟨R1, HR1B.out, fun wv hb => block_cell ((hb.block _ (lt_of_block HIB.out)).trans HIB.out) 1⟩)
    go_wp2
    go_loopg [104, 12, 13, 14, 15, 16, 17, 18, 19, 20] 2 (fun gg i _ _ _ _ _ _ _ _ _ wr => ∃ m : Nat, gg + m = 2 ∧ i = .int .i64 (m : Nat) ∧ Hid (Below w6.heap.size w6 wr))
    case atStart => exact ⟨0, rfl, rfl, Lib.hid (Below.refl _ _)⟩
    case round =>
      obtain ⟨m, hm, rfl, HW⟩ := hrel
      by_cases hlt : m < 2
      · have b0 : (m : Int) < 2 := by omega
        have bl : ¬ (2 : Int) ≤ (m : Int) := by omega
        obtain ⟨x, hx, hcx⟩ := HRD.out m hlt
        have c0 := hcx wr HW.out
        have HXX := Lib.hid hx
        have hky := lkeyM_any seed F L K lb tb x wr (HL6.out.below HW.out) HFL.out.1 hx HK.out.2.2.1
        have hkr := fun wv (hb : Below w6.heap.size w6 wv) => rkeyM_any seed F L K rb x la lc wv (HR6.out.below hb) HK.out.2.1 HFL.out.1 hx HK.out.2.2.1
        unfold keyV at hky hkr
        obtain ⟨kk, hkk⟩ : ∃ kk : Int, (((keyO F L K x).getD 0 : Nat) : Int) = kk := ⟨_, rfl⟩
        obtain ⟨kb, hkb⟩ : ∃ kb, (keyO F L K x).isSome = kb := ⟨_, rfl⟩
        rw [hkk, hkb] at hky hkr
        have HKY := Lib.hid hky
        have HKR := Lib.hid hkr
        have HM := Lib.hid hm
        have HLT := Lib.hid hlt
        clear hx hcx hky hkr hkk hkb hm
        go_wp2_with fail
        refine HKY.out.mono ?_
        rintro e x1 ⟨rfl, hb⟩
        have HX1 := Lib.hid (bnext HW.out hb)
        clear hb c0
        go_wp2_with fail
        refine (HKR.out x1 HX1.out).mono ?_
        rintro e x2 ⟨rfl, hb⟩
        have HX2 := Lib.hid (bnext HX1.out hb)
        clear hb
        go_wp2_with fail
        refine (sign14_any seed dg F L K lb tb x x2 (HL6.out.below HX2.out) HFL.out.1 HXX.out HK.out.2.2.1 HK.out.2.1 HSS.out).mono ?_
        rintro e x3 hs1
        obtain ⟨wa, wc, pa, pc, rfl, htw, htp, hpc, hb⟩ := hs1.lit
        have HX3 := Lib.hid (bnext HX2.out hb)
        obtain ⟨S, hS⟩ : ∃ S, signD seed F L K x dg = S := ⟨_, rfl⟩
        obtain ⟨E9, hE9⟩ : ∃ E9, signE F L K x dg = E9 := ⟨_, rfl⟩
        have HSL : Hid (len S.ws ≤ 1000000 ∧ len S.ps ≤ 1000000) := Lib.hid (by
          rw [← hS]
          have hk := HK.out
          cases hko : keyO F L K x with
          | none => rw [(signD_no (seed := seed) (d := dg) hko).1]; exact ⟨by decide, by decide⟩
          | some k =>
            by_cases h32 : dg.size = 32
            · rw [(signD_ok (seed := seed) hko h32).1]
              refine ⟨?_, ?_⟩
              · show len (sgL seed k dg) ≤ 1000000
                unfold sgL
                rw [if_pos h32]
                unfold signP
                rw [chL_len]; decide
              · show len (oneD (rungL seed K) k) ≤ 1000000
                rw [oneD_len (by rw [rungL_len]; omega)]
                have := depN_le (els := rungL seed K) (by rw [rungL_len]; omega)
                omega
            · rw [(signD_bad (seed := seed) hko h32).1]; exact ⟨by decide, by decide⟩)
        have HSGR : Hid (∀ wv, Below w6.heap.size w6 wv → Calls Tryz.prog 24 #[.pointer (some ⟨rb, 0, none⟩), .int .u64 (x : Nat), .string dg] wv (SignIs S E9 wv)) := Lib.hid (fun wv hb => by rw [← hS, ← hE9]; exact rsign14_any seed dg F L K rb x la lc wv (HR6.out.below hb) HFL.out.1 HXX.out HK.out.2.2.1 HK.out.2.1 HSS.out)
        rw [hS] at htw htp hpc
        rw [hS, hE9]
        obtain ⟨n1, hn1⟩ : ∃ n1, len S.ws = n1 := ⟨_, rfl⟩
        obtain ⟨n2, hn2⟩ : ∃ n2, len S.ps = n2 := ⟨_, rfl⟩
        have HN1 := Lib.hid hn1
        have HN2 := Lib.hid hn2
        rw [hn1, hn2]
        have HTW := Lib.hid htw
        have HTP := Lib.hid htp
        clear hs1 htw htp hpc hb hS hE9 hn1 hn2
        go_upto_region 17 with fail
        obtain ⟨gb, hgb⟩ : ∃ gb, x3.heap.size = gb := ⟨_, rfl⟩
        obtain ⟨V4, hV4⟩ : ∃ V4, x3.alloc (.cells #[.int .u64 S.ix, .slice wa n1 wc, .slice pa n2 pc] 54) = V4 := ⟨_, rfl⟩
        have HG : Hid (V4.heap[gb]? = some (.cells #[.int .u64 S.ix, .slice wa n1 wc, .slice pa n2 pc] 54 (0, 0))) := Lib.hid (by rw [← hV4]; exact alloc_new_at _ hgb)
        have hbv : Below x3.heap.size x3 V4 := by rw [← hV4]; exact balloc (Below.refl _ _) _
        have HX4 := Lib.hid (bnext HX3.out hbv)
        have HTW4 := Lib.hid (HTW.out.below hbv)
        have HTP4 := Lib.hid (HTP.out.below hbv)
        rw [hV4, hgb]
        clear hV4 hgb hbv
        go_wp2_with fail
        refine (HSGR.out V4 HX4.out).mono ?_
        rintro e x5 hs2
        obtain ⟨ya, yc, za2, zc2, rfl, htw, htp, hpc, hb⟩ := hs2.lit
        rw [HN1.out, HN2.out]
        have HX5 := Lib.hid (bnext HX4.out hb)
        have HG5 := Lib.hid ((hb.block _ (lt_of_block HG.out)).trans HG.out)
        have HTW5 := Lib.hid (HTW4.out.below hb)
        have HTP5 := Lib.hid (HTP4.out.below hb)
        have HUW := Lib.hid htw
        have HUP := Lib.hid htp
        clear hs2 htw htp hpc hb
        go_upto_region 18 with fail
        obtain ⟨gc, hgc⟩ : ∃ gc, x5.heap.size = gc := ⟨_, rfl⟩
        obtain ⟨V6, hV6⟩ : ∃ V6, x5.alloc (.cells #[.int .u64 S.ix, .slice ya n1 yc, .slice za2 n2 zc2] 54) = V6 := ⟨_, rfl⟩
        have HH : Hid (V6.heap[gc]? = some (.cells #[.int .u64 S.ix, .slice ya n1 yc, .slice za2 n2 zc2] 54 (0, 0))) := Lib.hid (by rw [← hV6]; exact alloc_new_at _ hgc)
        have hbv : Below x5.heap.size x5 V6 := by rw [← hV6]; exact balloc (Below.refl _ _) _
        have HX6 := Lib.hid (bnext HX5.out hbv)
        have HG6 := Lib.hid ((hbv.block _ (lt_of_block HG5.out)).trans HG5.out)
        have HSAME : Hid (Calls Tryz.prog 39 #[.agg #[.int .u64 S.ix, .slice wa n1 wc, .slice pa n2 pc], .agg #[.int .u64 S.ix, .slice ya n1 yc, .slice za2 n2 zc2]] V6 fun e w' => e = .returned (.bool true) ∧ Below V6.heap.size V6 w') := Lib.hid (by
          have h9 := rsame14_yes S.ix S.ws S.ps wa pa ya za2 wc pc yc zc2 V6 (HTW5.out.below hbv) (HTP5.out.below hbv) (HUW.out.below hbv) (HUP.out.below hbv) HSL.out.1 HSL.out.2
          rw [HN1.out, HN2.out] at h9
          exact h9)
        rw [hV6, hgc]
        clear hV6 hgc hbv
        have g0 := fun o => block_cell HG6.out o
        have g1 := fun o => block_cell HH.out o
        obtain ⟨ix, hix⟩ : ∃ ix, S.ix = ix := ⟨_, rfl⟩
        rw [hix] at HSAME g0 g1
        clear hix
        go_wp2_with fail
        refine HSAME.out.mono ?_
        rintro e x7 ⟨rfl, hb⟩
        have HX7 := Lib.hid (bnext HX6.out hb)
        clear hb g0 g1
        go_wp2
        go_roundg (gk - 1)
        case rel => exact ⟨m + 1, by have := HM.out; have := HLT.out; omega, by have := HLT.out; go_num, HX7⟩
        case measure => have := HM.out; have := HLT.out; omega
      · obtain rfl : m = 2 := by omega
        have b0 : ¬ ((2 : Nat) : Int) < 2 := by decide
        go_wp2_with fail
        refine (works14_any wr).mono ?_
        rintro e x1 ⟨rfl, hb⟩
        have HX1 := Lib.hid (bnext HW.out hb)
        clear hb
        go_wp2
        go_ret
        exact ⟨rfl, bnext HB6.out HX1.out⟩
  · obtain ⟨-, rfl⟩ | ⟨h9, -⟩ := HLP4.out
    · have h0' : (E == 0) = false := by simpa using h0
      have H0 := Lib.hid h0
      clear h0
      go_wp2_with fail
      · rename_i hx
        exact absurd hx (by have h8 := H0.out; simp [h8])
      refine (works14_any w4).mono ?_
      rintro e w5 ⟨rfl, hb⟩
      have HB5 := Lib.hid (bnext HB4.out hb)
      clear hb
      go_wp2
      go_ret
      exact ⟨rfl, HB5.out⟩
    · exact absurd (HEE.out.symm.trans h9) h0
end Go.Proofs.YtoafjbillcooiaaGreat
namespace Go.Proofs.YtoafjbillcooiaaGreat
set_option linter.unusedSimpArgs false
set_option linter.unusedVariables false
open Go.RowKit Go.ChangeShapes Go.WideShapes Go.ChangeAt Go.Deep
section
variable {H : Type} {enc : TypeId × Value → H} {P : Program} {w : World}
theorem below_trodAll (hl : laidOutB P = true) {W W' : World} (hb : Below W.heap.size W W') : ∀ {ts : List TypeId} {vs : List Value} {ds : List (DataW H)} {ps : List MemPlace},
    (∀ t ∈ ts, P.readableRec t = true ∧ t < P.types.size) → DataW.TrodAll enc P W 0 (fun _ => true) true ts vs ds ps → DataW.TrodAll enc P W' 0 (fun b => decide (b < W.heap.size)) true ts vs ds ps
  | [], vs, ds, ps, _, h => by
    obtain ⟨rfl, rfl, rfl⟩ := trodAll_nil h
    exact trodAll_mk0
  | t :: ts, vs, ds, ps, ht, h => by
    obtain ⟨v, vs', d, ds', p, q, rfl, rfl, rfl, h0, r0⟩ := trodAll_cons h
    have lt0 : ∀ x ∈ p, x.block < W.heap.size := by obtain ⟨m, hm⟩ := h0; exact DataW.trod_lt m _ _ _ hm
    exact trodAll_cons_mk (Below.trod hl (ht t (List.mem_cons_self ..)).1 (ht t (List.mem_cons_self ..)).2 h0 hb lt0) (below_trodAll hl hb (fun t' h' => ht t' (List.mem_cons_of_mem _ h')) r0)
theorem cell_read {n : Nat} {e : TypeId} {k : IntKind} {v : Value} {y : DataW H × List MemPlace} (he : P.underlying e = some (.int k)) (h : DataW.trod enc P w 0 (fun _ => true) true n e [v] = some y) : ∃ x, v = .int k x ∧ (Lit.int k x).wf = true := by
  obtain ⟨x, hx, _, hw⟩ := DataW.trod_int he h
  exact ⟨x, by simpa using hx, hw⟩
theorem wf_u64 {x : Int} (h : (Lit.int .u64 x).wf = true) : 0 ≤ x ∧ x < 18446744073709551616 := by
  simp [Lit.wf, IntKind.min, IntKind.max, IntKind.bits, IntKind.signed] at h; omega
theorem wf_u8 {x : Int} (h : (Lit.int .u8 x).wf = true) : 0 ≤ x ∧ x ≤ 255 := by
  simp [Lit.wf, IntKind.min, IntKind.max, IntKind.bits, IntKind.signed] at h; omega
end
end Go.Proofs.YtoafjbillcooiaaGreat
namespace Go.Proofs.YtoafjbillcooiaaGreat
set_option linter.unusedSimpArgs false
set_option linter.unusedVariables false
open Go.RowKit Go.ChangeShapes Go.WideShapes Go.ChangeAt
theorem own : ownKnob Tryz.prog.godebug = none := by kernel_rfl
theorem laidOut : laidOutB Tryz.prog = true := by kernel_rfl
end Go.Proofs.YtoafjbillcooiaaGreat
namespace Go.Proofs.YtoafjbillcooiaaGreat
set_option linter.unusedSimpArgs false
set_option linter.unusedVariables false
open Go.RowKit Go.ChangeShapes Go.WideShapes Go.ChangeAt Go.ChangeMaps
section
variable {P : Program} {H : Type} {enc : TypeId × Value → H} {w : World}
theorem wf_i64 {x : Int} (h : (Lit.int .i64 x).wf = true) : -9223372036854775808 ≤ x ∧ x ≤ 9223372036854775807 := by
  simp [Lit.wf, IntKind.min, IntKind.max, IntKind.bits, IntKind.signed] at h; omega
end
end Go.Proofs.YtoafjbillcooiaaGreat
namespace Go.Proofs.YtoafjbillcooiaaGreat
open Go.RowKit Go.ChangeShapes Go.WideShapes Go.ChangeAt Go.Deep Go.ChangeMaps
set_option linter.unusedSimpArgs false
set_option linter.unusedVariables false
set_option maxRecDepth 100000 in
theorem open_made {H : Type} {enc : TypeId × Value → H} {w : World} {v : Value} {d : DataW H} {p : List MemPlace} {r : Reach} {base : Nat} (hv : Value.okWide Tryz.prog w r base 50 v) (h : DataW.Trod enc Tryz.prog w 0 (fun _ => true) true 50 v d p) :
    ∃ (s d9 z F L : Nat) (K : Int) (R wt : Nat), v = .agg (madeV s d9 z F L K R wt).toArray ∧ s ≤ 255 ∧ d9 ≤ 255 ∧ z ≤ 255 ∧ F < 18446744073709551616 ∧ L < 18446744073709551616 ∧ (-9223372036854775808 ≤ K ∧ K ≤ 9223372036854775807) ∧ R < 18446744073709551616 ∧ wt < 18446744073709551616 := by
  obtain ⟨cs', rfl, hsz⟩ := okWide_struct Tryz.underlying50 hv
  have hsz' : cs'.size = 8 := hsz.trans (by kernel_rfl)
  obtain ⟨l⟩ := cs'
  match l, hsz' with
  | [v0, v1, v2, v3, v4, v5, v6, v7], _ =>
    obtain ⟨fuel, hf⟩ := h
    obtain ⟨xs, m, _, _, _, hxl, hx⟩ := DataW.trod_struct Tryz.underlying50 hf
    have hxl' : xs.length = 8 := hxl
    simp only [Value.cells] at hx
    have h0 : DataW.trod enc Tryz.prog w 0 (fun _ => true) true m 5 (([v0, v1, v2, v3, v4, v5, v6, v7].drop 0).take (Tryz.prog.cellsOf 5)) = xs[0]? := hx 0 _ rfl
    rw [show Tryz.prog.cellsOf 5 = 1 by kernel_rfl] at h0
    have h1 : DataW.trod enc Tryz.prog w 0 (fun _ => true) true m 5 (([v0, v1, v2, v3, v4, v5, v6, v7].drop 1).take (Tryz.prog.cellsOf 5)) = xs[1]? := hx 1 _ rfl
    rw [show Tryz.prog.cellsOf 5 = 1 by kernel_rfl] at h1
    have h2 : DataW.trod enc Tryz.prog w 0 (fun _ => true) true m 5 (([v0, v1, v2, v3, v4, v5, v6, v7].drop 2).take (Tryz.prog.cellsOf 5)) = xs[2]? := hx 2 _ rfl
    rw [show Tryz.prog.cellsOf 5 = 1 by kernel_rfl] at h2
    have h3 : DataW.trod enc Tryz.prog w 0 (fun _ => true) true m 37 (([v0, v1, v2, v3, v4, v5, v6, v7].drop 3).take (Tryz.prog.cellsOf 37)) = xs[3]? := hx 3 _ rfl
    rw [show Tryz.prog.cellsOf 37 = 1 by kernel_rfl] at h3
    have h4 : DataW.trod enc Tryz.prog w 0 (fun _ => true) true m 37 (([v0, v1, v2, v3, v4, v5, v6, v7].drop 4).take (Tryz.prog.cellsOf 37)) = xs[4]? := hx 4 _ rfl
    rw [show Tryz.prog.cellsOf 37 = 1 by kernel_rfl] at h4
    have h5 : DataW.trod enc Tryz.prog w 0 (fun _ => true) true m 3 (([v0, v1, v2, v3, v4, v5, v6, v7].drop 5).take (Tryz.prog.cellsOf 3)) = xs[5]? := hx 5 _ rfl
    rw [show Tryz.prog.cellsOf 3 = 1 by kernel_rfl] at h5
    have h6 : DataW.trod enc Tryz.prog w 0 (fun _ => true) true m 37 (([v0, v1, v2, v3, v4, v5, v6, v7].drop 6).take (Tryz.prog.cellsOf 37)) = xs[6]? := hx 6 _ rfl
    rw [show Tryz.prog.cellsOf 37 = 1 by kernel_rfl] at h6
    have h7 : DataW.trod enc Tryz.prog w 0 (fun _ => true) true m 37 (([v0, v1, v2, v3, v4, v5, v6, v7].drop 7).take (Tryz.prog.cellsOf 37)) = xs[7]? := hx 7 _ rfl
    rw [show Tryz.prog.cellsOf 37 = 1 by kernel_rfl] at h7
    obtain ⟨n0, rfl, w0⟩ := cell_read Tryz.underlying5 (h0.trans (List.getElem?_eq_getElem (show 0 < xs.length by omega)))
    obtain ⟨n1, rfl, w1⟩ := cell_read Tryz.underlying5 (h1.trans (List.getElem?_eq_getElem (show 1 < xs.length by omega)))
    obtain ⟨n2, rfl, w2⟩ := cell_read Tryz.underlying5 (h2.trans (List.getElem?_eq_getElem (show 2 < xs.length by omega)))
    obtain ⟨n3, rfl, w3⟩ := cell_read Tryz.underlying37 (h3.trans (List.getElem?_eq_getElem (show 3 < xs.length by omega)))
    obtain ⟨n4, rfl, w4⟩ := cell_read Tryz.underlying37 (h4.trans (List.getElem?_eq_getElem (show 4 < xs.length by omega)))
    obtain ⟨n5, rfl, w5⟩ := cell_read Tryz.underlying3 (h5.trans (List.getElem?_eq_getElem (show 5 < xs.length by omega)))
    obtain ⟨n6, rfl, w6⟩ := cell_read Tryz.underlying37 (h6.trans (List.getElem?_eq_getElem (show 6 < xs.length by omega)))
    obtain ⟨n7, rfl, w7⟩ := cell_read Tryz.underlying37 (h7.trans (List.getElem?_eq_getElem (show 7 < xs.length by omega)))
    have u0 := wf_u8 w0
    have u1 := wf_u8 w1
    have u2 := wf_u8 w2
    have u3 := wf_u64 w3
    have u4 := wf_u64 w4
    have u5 := wf_i64 w5
    have u6 := wf_u64 w6
    have u7 := wf_u64 w7
    obtain ⟨s, rfl⟩ := Int.eq_ofNat_of_zero_le u0.1
    obtain ⟨d9, rfl⟩ := Int.eq_ofNat_of_zero_le u1.1
    obtain ⟨z, rfl⟩ := Int.eq_ofNat_of_zero_le u2.1
    obtain ⟨F, rfl⟩ := Int.eq_ofNat_of_zero_le u3.1
    obtain ⟨L, rfl⟩ := Int.eq_ofNat_of_zero_le u4.1
    obtain ⟨R, rfl⟩ := Int.eq_ofNat_of_zero_le u6.1
    obtain ⟨wt, rfl⟩ := Int.eq_ofNat_of_zero_le u7.1
    exact ⟨s, d9, z, F, L, n5, R, wt, rfl, by omega, by omega, by omega, by omega, by omega, u5, by omega, by omega⟩
end Go.Proofs.YtoafjbillcooiaaGreat
