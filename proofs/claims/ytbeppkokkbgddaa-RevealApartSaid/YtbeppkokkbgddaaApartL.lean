/- The statement RevealApart: the law. -/
import Derived.Test.YtbeppkokkbgddaaApartP
import Derived.Test.YtbeppkokkbgddaaChsL
namespace Go.Proofs.Ytbeppkokkbgddaa
open Go.RowKit Go.ChangeMaps
set_option linter.unusedSimpArgs false
set_option linter.unusedVariables false

set_option maxRecDepth 100000 in
set_option maxHeartbeats 8000000 in
theorem apart20_law (a0 b0 : Option Addr) (c0 d0 : Nat) (rows : List (Int × Bool)) (coins : List Int) (at0 : Nat) (w : World) (hr : RowsB w a0 rows) (hrl : len rows ≤ c0) (hrm : c0 ≤ 9223372036854775807) (hrr : ∀ i, 0 ≤ (rth rows i).1 ∧ (rth rows i).1 < 18446744073709551616)
    (hc : U64s w b0 coins) (hcl : len coins ≤ d0) (hcm : d0 ≤ 9223372036854775807) (hcn : b0 = none → d0 = 0) (hcr : ∀ i, 0 ≤ nth coins i ∧ nth coins i < 18446744073709551616) (hat : at0 ≤ 255) :
    Calls Try.prog 10 #[.slice a0 (len rows) c0, .slice b0 (len coins) d0, .int .u8 at0] w fun e w' => e = .returned (.bool true) ∧ Below w.heap.size w w' := by
  have HR := Lib.hid hr
  have HRR := Lib.hid hrr
  have HC := Lib.hid hc
  have HCN := Lib.hid hcn
  have HCR := Lib.hid hcr
  clear hr hrr hc hcn hcr
  go_enter Try.func10, Try.ntmps10
  go_wp2_with fail
  refine (works20_any w).mono ?_
  rintro e w1 ⟨rfl, hb⟩
  have VB1 := Lib.hid hb
  clear hb
  have hRT : ∀ i, 0 ≤ (rth (rows.take 60) i).1 ∧ (rth (rows.take 60) i).1 < 18446744073709551616 := fun i => rth_take rows 60 i HRR.out
  obtain ⟨R3, hR3⟩ : ∃ R3, rows.take 60 = R3 := ⟨_, rfl⟩
  have hrn : len R3 = min (len rows) 60 := by rw [← hR3, len_eq, List.length_take]; have : rows.length = len rows := rfl; omega
  have mm : min ((len rows : Nat) : Int) 60 = (len R3 : Int) := by omega
  have h60 : len R3 ≤ 60 := by omega
  have i1 : (len R3 : Int) ≤ c0 := by omega
  have HRB : Hid (RowsB w1 a0 R3) := Lib.hid (by rw [← hR3]; exact rows_take (HR.out.below VB1.out) 60)
  have hT3 : R3.take 300 = R3 := List.take_of_length_le (by rw [← len_eq]; omega)
  rw [hR3] at hRT
  have HRT := Lib.hid hRT
  have HT3 := Lib.hid hT3
  have hsl : ∀ W, (Instr.slice 39 (.slice a0 (len rows) c0) none (some (.int .i64 (len R3 : Int))) none).run Try.prog W = .ok (.slice a0 (len R3) c0) W := fun W => slice_rows a0 (by omega) W
  clear hR3 hrn hRT hT3
  go_wp2_with fail
  refine (split_any a0 c0 R3 w1 HRB.out (by omega) HRT.out).mono ?_
  rintro e w2 ⟨v1, v2, rfl, o1, o2, hb⟩
  rw [HT3.out] at o1 o2
  have hWt := wOf_wts R3 HRT.out
  have hWn := wOf_len R3
  have hSn := sOf_len R3
  obtain ⟨wa, wc, rfl, u1, _⟩ := own_u64n o1
  obtain ⟨sa, sc, rfl, u2, _⟩ := own_bls o2
  obtain ⟨Ws, hWs⟩ : ∃ Ws, wOf R3 = Ws := ⟨_, rfl⟩
  obtain ⟨Ss, hSs⟩ : ∃ Ss, sOf R3 = Ss := ⟨_, rfl⟩
  rw [hWs] at u1 hWt hWn ⊢
  rw [hSs] at u2 hSn
  rw [← hWn] at h60 hSn ⊢
  have U1 := Lib.hid u1
  have U2 := Lib.hid u2
  have HWT := Lib.hid hWt
  have HSN := Lib.hid hSn
  have VB2 : Hid (Below w.heap.size w w2) := Lib.hid (bnext VB1.out hb)
  have HC2 := Lib.hid (HC.out.below VB2.out)
  clear o1 o2 hWt hWn hSn hWs hSs u1 u2 hb VB1 HR HRR HC hsl HRB HRT HT3 mm i1
  have hnew := new_any wa sa wc sc Ws Ss w2 U1.out U2.out HSN.out (by omega) HWT.out
  rw [HSN.out] at hnew
  have HNEW := Lib.hid hnew
  clear hnew
  go_wp2_with fail
  refine HNEW.out.mono ?_
  clear HNEW
  rintro e w3 h
  have hb3 : Below w2.heap.size w2 w3 := by
    rcases h with ⟨_, _, hb⟩ | ⟨_, B, _, _, _, hb⟩ <;> exact hb
  have HN := Lib.hid h
  have VB3 : Hid (Below w.heap.size w w3) := Lib.hid (bnext VB2.out hb3)
  have HC3 := Lib.hid (HC2.out.below hb3)
  have U13 := Lib.hid (U1.out.below hb3)
  have U23 := Lib.hid (U2.out.below hb3)
  clear h hb3 VB2 HC2 U1 U2
  rcases HN.out with ⟨⟨k, hk, hk2⟩, rfl, -⟩ | ⟨hsm, B, rfl, -, hlay, -⟩
  · go_wp2
    go_ret
    exact ⟨rfl, VB3.out⟩
  · skip
    have HSM := Lib.hid hsm
    have LA := Lib.hid hlay
    have hT0 := smK_nonneg HWT.out Ss (len Ws) (Nat.le_refl _)
    have hT1 := hsm (len Ws) (Nat.le_refl _)
    have HNT : Hid (nth (allK Ws Ss (len Ws)) (len Ws) = smK Ws Ss (len Ws)) := Lib.hid (allK_nth Ws Ss _ _ (Nat.le_refl _))
    have HAL : Hid (len (allK Ws Ss (len Ws)) = len Ws + 1) := Lib.hid (allK_len Ws Ss _)
    have HAN : Hid (∀ k, k < len Ws → nth (allK Ws Ss (len Ws)) k = smK Ws Ss k) := Lib.hid (fun k hk => allK_nth Ws Ss _ _ (Nat.le_of_lt hk))
    obtain ⟨S, hS⟩ : ∃ S, allK Ws Ss (len Ws) = S := ⟨_, rfl⟩
    obtain ⟨E, hE⟩ : ∃ E, endK Ws Ss (len Ws) = E := ⟨_, rfl⟩
    obtain ⟨W, hW⟩ : ∃ W, whoK Ss (len Ws) = W := ⟨_, rfl⟩
    have HEW : Hid (len W = len E) := Lib.hid (by rw [← hE, ← hW]; exact who_end Ws Ss _)
    have HEN : Hid (len E ≤ 1000000) := Lib.hid (by rw [← hE]; exact Nat.le_trans (end_len Ws Ss _) (by omega))
    have HEU : Hid (Ups E) := Lib.hid (by rw [← hE]; exact ups_of (ends_up HWT.out Ss _ (Nat.le_refl _)))
    have HE := Lib.hid hE
    have HW := Lib.hid hW
    rw [hS, hE, hW] at LA
    rw [hS] at HNT HAL HAN
    obtain ⟨T, hT⟩ : ∃ T, smK Ws Ss (len Ws) = T := ⟨_, rfl⟩
    have HT := Lib.hid hT
    have TA : Hid (∀ W', Below w3.heap.size w3 W' → Calls Try.prog 36 #[.pointer (some ⟨B, 0, none⟩)] W' fun e w' => e = .returned (.int .u64 T) ∧ Drew W' w') := Lib.hid (fun W' hb => by
      have h := total_any B E W S (len Ws) W' (LA.out.below hb) HAL.out (by omega)
      rw [HNT.out, hT] at h; exact h)
    rw [hT] at hT0 hT1
    clear hsm hlay hS hE hW hT HN
    go_wp2_with fail
    refine (TA.out _ (Below.refl _ _)).mono ?_
    rintro e w35 ⟨rfl, hd35⟩
    have HC35 := Lib.hid (HC3.out.below (hd35.below _))
    have VB35 : Hid (Below w.heap.size w w35) := Lib.hid (bnext VB3.out (hd35.below _))
    have VB335 : Hid (Below w3.heap.size w3 w35) := Lib.hid (hd35.below _)
    clear hd35 HC3
    by_cases hTp : 0 < T
    · have t0 : decide (0 < T) = true := decide_eq_true hTp
      have e1 : (T == 0) = false := by simp; omega
      have LA35 := Lib.hid (LA.out.below VB335.out)
      have TA35 : Hid (∀ W', Below w35.heap.size w35 W' → Calls Try.prog 36 #[.pointer (some ⟨B, 0, none⟩)] W' fun e w' => e = .returned (.int .u64 T) ∧ Drew W' w') := Lib.hid (fun W' hb => TA.out W' (bnext VB335.out hb))
      clear LA TA VB3 VB335 U13 U23
      have LA := LA35
      have TA := TA35
      have VB3 := VB35
      have HC3 := HC35
      clear LA35 TA35 VB35 HC35
      obtain ⟨w3, hw3⟩ : ∃ W, W = w35 := ⟨_, rfl⟩
      subst hw3
      obtain ⟨C0, hC0⟩ : ∃ C0, coins.take 40 = C0 := ⟨_, rfl⟩
      have hkl : len C0 = min (len coins) 40 := by rw [← hC0, len_eq, List.length_take]; have : coins.length = len coins := rfl; omega
      have mm : min ((len coins : Nat) : Int) 40 = (len C0 : Int) := by omega
      have hC60 : len C0 ≤ 40 := by omega
      have i1 : (len C0 : Int) ≤ d0 := by omega
      have HCW0 : Hid (∀ i, 0 ≤ nth C0 i ∧ nth C0 i < 18446744073709551616) := Lib.hid (fun i => by rw [← hC0]; exact nth_take coins 40 i HCR.out)
      have HU0 : Hid (U64s w3 b0 C0) := Lib.hid (by rw [← hC0]; exact u64s_take HC3.out 40)
      clear hC0 hkl HC3 HCR
      have E0 : Hid ((w3.alloc (.cells #[] 22)).ownsRow w3.heap.size 22 1 (.slice (some ⟨w3.heap.size, 0, none⟩) 0 0) (len ([] : List Int)) (([] : List Int).map (Value.int .u64))) := Lib.hid (World.ownsRow_lit w3 #[] 0 (Nat.le_refl _) (Nat.zero_le _) rfl)
      have hsl : ∀ W, (Instr.slice 28 (.slice b0 (len coins) d0) none (some (.int .i64 (len C0 : Int))) none).run Try.prog W = .ok (.slice b0 (len C0) d0) W := fun W => slice_to b0 (by omega) W
      go_wp2_with (at_builtin; refine wpList_append_u64s rfl _ _ rfl w3.heap.size _ [] C0 b0 d0 rfl E0.out rfl (HU0.out.below (balloc (Below.refl _ _) _)) HCN.out (show 0 + len C0 ≤ 100000 by omega) (by simp) ?_)
      intro cv w4 hown hgrow
      have VB4 : Hid (Below w3.heap.size w3 w4) := Lib.hid (grownBy_below (balloc (Below.refl _ _) _) hgrow (fun k hk => by simp [Value.ownBlock] at hk; omega))
      have HOW0 : Hid (w4.ownsRow w3.heap.size 22 1 cv (len C0) (C0.map (Value.int .u64))) := Lib.hid hown
      clear hown hgrow hsl E0 mm i1
      obtain ⟨ca, cc, rfl, hcu⟩ := own_u64s HOW0.out
      have HCU0 := Lib.hid hcu
      clear hcu
      obtain ⟨K, hK⟩ : ∃ K, len C0 = K := ⟨_, rfl⟩
      have HK0 := Lib.hid hK
      rw [hK] at HOW0 hC60
      rw [hK]
      clear HCU0 hK
      go_wp2
      go_loopg [12] K (fun g i wr => ∃ m : Nat, ∃ C : List Int, g + m = K ∧ i = .int .i64 m ∧ Hid (len C = K) ∧ Hid (Below w3.heap.size w3 wr) ∧ Hid (wr.ownsRow w3.heap.size 22 1 (.slice ca K cc) K (C.map (Value.int .u64))) ∧ Hid (∀ i, 0 ≤ nth C i ∧ nth C i < 18446744073709551616) ∧ Hid (∀ j, j < m → nth C j < T))
      case atStart => exact ⟨0, C0, rfl, rfl, HK0.out, VB4.out, HOW0.out, HCW0.out, fun j hj => by omega⟩
      case round =>
        clear HCW0 HK0 VB4 HOW0
        obtain ⟨m, C, hm, rfl, HK, HB, HO, HRG, HLT⟩ := hrel
        by_cases hlt : m < K
        · skip
          have hform : ∃ g1 : Nat, ca = some ⟨g1, 0, none⟩ := by
            rcases HO.out.2 with ⟨h, h0⟩ | ⟨g1, cap, cur, h, _⟩
            · omega
            · injection h with e1 e2 e3; exact ⟨g1, e1⟩
          obtain ⟨g1, rfl⟩ := hform
          obtain ⟨x, hx⟩ : ∃ x, nth C m = x := ⟨_, rfl⟩
          have HX := Lib.hid hx
          have hx0 := HRG.out m
          rw [hx] at hx0
          have hcx : (C.map (Value.int .u64))[m]? = some (.int .u64 x) := by
            rw [List.getElem?_map, List.getElem?_eq_getElem (show m < C.length by have := HK.out; rw [len_eq] at this; omega), ← nth_eq, hx]; rfl
          have HCX := Lib.hid hcx
          clear hx hcx
          have z0 : ¬ T = 0 := by omega
          have t1 : x.tmod T = x % T := Int.tmod_eq_emod_of_nonneg hx0.1
          have i1 : (m : Int) < K := by omega
          obtain ⟨w5, hw5⟩ : ∃ w5, w5 = wr := ⟨_, rfl⟩
          subst hw5
          have HB5 := HB
          have HO5 := HO
          have cm : w5.cell? ⟨g1, m, none⟩ = some (.int .u64 x) := by
            rw [HO5.out.cellAt m (by omega)]; exact HCX.out
          go_upto_region 11 with fail
          --REGION sextant/sextantlaw20.RevealApart 11 ap11
          refine wp_region_tail 10 1000 (none) (phis [fun u _ => u = (.slice (some ⟨g1, 0, none⟩) K cc), fun u _ => u = (.int .i64 m), fun u _ => u = (.slice (some ⟨g1, 0, none⟩) K cc), fun u _ => u = (.int .i64 m), fun u _ => u = (.pointer (some ⟨g1, m, none⟩)), fun u _ => u = (.int .u64 x), fun u _ => u = (.pointer (some ⟨B, 0, none⟩)), fun u _ => u = (.int .u64 T), fun u _ => u = (.int .u64 (x % T)), fun u _ => u = (.pointer (some ⟨g1, m, none⟩))]) rfl (by kernel_rfl) (by kernel_rfl) (mono_of ⟨mono_eq, mono_eq, mono_eq, mono_eq, mono_eq, mono_eq, mono_eq, mono_eq, mono_eq, mono_eq, trivial⟩) (steps_of 10 ⟨?s0, ?s1, ?s2, ?s3, ?s4, ?s5, ?s6, ?s7, ?s8, ?s9, trivial⟩) ?_
          case s0 =>
            refine step_val (v := (.slice (some ⟨g1, 0, none⟩) K cc)) (fun av wv hE hS hO hD => ?_) (fun _ => rfl)
            have h11 : av.eval (.tmp 11) = (.slice (some ⟨g1, 0, none⟩) K cc) := hO.2.2 11 rfl
            have f11 := (ev_form av 11).symm.trans h11
            refine ⟨rfl, ?_⟩
            simp [go_sem, f11, t0, t1, i1, z0]
          case s1 =>
            refine step_val (v := (.int .i64 m)) (fun av wv hE hS hO hD => ?_) (fun _ => rfl)
            have h12 : av.eval (.tmp 12) = (.int .i64 m) := hO.2.2 12 rfl
            have f12 := (ev_form av 12).symm.trans h12
            refine ⟨rfl, ?_⟩
            simp [go_sem, f12, t0, t1, i1, z0]
          case s2 =>
            refine step_val (v := (.slice (some ⟨g1, 0, none⟩) K cc)) (fun av wv hE hS hO hD => ?_) (fun _ => rfl)
            have h11 : av.eval (.tmp 11) = (.slice (some ⟨g1, 0, none⟩) K cc) := hO.2.2 11 rfl
            have f11 := (ev_form av 11).symm.trans h11
            refine ⟨rfl, ?_⟩
            simp [go_sem, f11, t0, t1, i1, z0]
          case s3 =>
            refine step_val (v := (.int .i64 m)) (fun av wv hE hS hO hD => ?_) (fun _ => rfl)
            have h12 : av.eval (.tmp 12) = (.int .i64 m) := hO.2.2 12 rfl
            have f12 := (ev_form av 12).symm.trans h12
            refine ⟨rfl, ?_⟩
            simp [go_sem, f12, t0, t1, i1, z0]
          case s4 =>
            refine step_val (v := (.pointer (some ⟨g1, m, none⟩))) (fun av wv hE hS hO hD => ?_) (fun _ => rfl)
            have d81 : av.eval (.tmp 81) = (.slice (some ⟨g1, 0, none⟩) K cc) := hD.1 rfl _ rfl
            have f81 := (ev_form av 81).symm.trans d81
            have d82 : av.eval (.tmp 82) = (.int .i64 m) := hD.2.1 rfl _ rfl
            have f82 := (ev_form av 82).symm.trans d82
            refine ⟨rfl, ?_⟩
            simp [go_sem, f81, f82, t0, t1, i1, z0]
          case s5 =>
            refine step_val (v := (.int .u64 x)) (fun av wv hE hS hO hD => ?_) (fun _ => rfl)
            have d83 : av.eval (.tmp 83) = (.pointer (some ⟨g1, m, none⟩)) := hD.1 rfl _ rfl
            have f83 := (ev_form av 83).symm.trans d83
            have cm := extB_cell hE (by simp) cm
            refine ⟨rfl, ?_⟩
            simp [go_sem, f83, cm, t0, t1, i1, z0]
          case s6 =>
            refine step_val (v := (.pointer (some ⟨B, 0, none⟩))) (fun av wv hE hS hO hD => ?_) (fun _ => rfl)
            have h9 : av.eval (.tmp 9) = (.pointer (some ⟨B, 0, none⟩)) := hO.2.2 9 rfl
            have f9 := (ev_form av 9).symm.trans h9
            refine ⟨rfl, ?_⟩
            simp [go_sem, f9, t0, t1, i1, z0]
          case s7 =>
            refine step_wp (fun av wv hE hS hO hD => ?_)
            have d85 : av.eval (.tmp 85) = (.pointer (some ⟨B, 0, none⟩)) := hD.1 rfl _ rfl
            have f85 := (ev_form av 85).symm.trans d85
            refine ⟨rfl, ?_⟩
            refine wp_of_call (v := (.int .u64 T)) (by simp [go_sem, f85, t0, t1, i1, z0]) ((TA.out wv (bnext HB5.out (of_drew hE))).mono (fun e w' h => ⟨h.1, h.2.below _⟩)) (fun w2 hb => ⟨_, rfl, es_of_ext hb, rfl⟩)
          case s8 =>
            refine step_val (v := (.int .u64 (x % T))) (fun av wv hE hS hO hD => ?_) (fun _ => rfl)
            have d84 : av.eval (.tmp 84) = (.int .u64 x) := hD.1 rfl _ rfl
            have f84 := (ev_form av 84).symm.trans d84
            have d86 : av.eval (.tmp 86) = (.int .u64 T) := hD.2.1 rfl _ rfl
            have f86 := (ev_form av 86).symm.trans d86
            refine ⟨rfl, ?_⟩
            simp [go_sem, f84, f86, t0, t1, i1, z0]
          case s9 =>
            refine step_val (v := (.pointer (some ⟨g1, m, none⟩))) (fun av wv hE hS hO hD => ?_) (fun _ => rfl)
            have d79 : av.eval (.tmp 79) = (.slice (some ⟨g1, 0, none⟩) K cc) := hD.1 rfl _ rfl
            have f79 := (ev_form av 79).symm.trans d79
            have d80 : av.eval (.tmp 80) = (.int .i64 m) := hD.2.1 rfl _ rfl
            have f80 := (ev_form av 80).symm.trans d80
            refine ⟨rfl, ?_⟩
            simp [go_sem, f79, f80, t0, t1, i1, z0]
          intro a' w' hE hO hall
          have hA := act_of_outer (ds := [79, 80, 81, 82, 83, 84, 85, 86, 87, 88]) rfl hO (by kernel_rfl)
          have e79 : (fun u _ => u = (.slice (some ⟨g1, 0, none⟩) K cc)) (a'.eval (.tmp 79)) w' := hall.1 _ rfl
          have e80 : (fun u _ => u = (.int .i64 m)) (a'.eval (.tmp 80)) w' := hall.2.1 _ rfl
          have e81 : (fun u _ => u = (.slice (some ⟨g1, 0, none⟩) K cc)) (a'.eval (.tmp 81)) w' := hall.2.2.1 _ rfl
          have e82 : (fun u _ => u = (.int .i64 m)) (a'.eval (.tmp 82)) w' := hall.2.2.2.1 _ rfl
          have e83 : (fun u _ => u = (.pointer (some ⟨g1, m, none⟩))) (a'.eval (.tmp 83)) w' := hall.2.2.2.2.1 _ rfl
          have e84 : (fun u _ => u = (.int .u64 x)) (a'.eval (.tmp 84)) w' := hall.2.2.2.2.2.1 _ rfl
          have e85 : (fun u _ => u = (.pointer (some ⟨B, 0, none⟩))) (a'.eval (.tmp 85)) w' := hall.2.2.2.2.2.2.1 _ rfl
          have e86 : (fun u _ => u = (.int .u64 T)) (a'.eval (.tmp 86)) w' := hall.2.2.2.2.2.2.2.1 _ rfl
          have e87 : (fun u _ => u = (.int .u64 (x % T))) (a'.eval (.tmp 87)) w' := hall.2.2.2.2.2.2.2.2.1 _ rfl
          have e88 : (fun u _ => u = (.pointer (some ⟨g1, m, none⟩))) (a'.eval (.tmp 88)) w' := hall.2.2.2.2.2.2.2.2.2.1 _ rfl
          simp only [List.foldl_cons, List.foldl_nil, Act.put, List.setIfInBounds_toArray, List.set_cons_succ, List.set_cons_zero, e79, e80, e81, e82, e83, e84, e85, e86, e87, e88] at hA
          clear hO hall e79 e80 e81 e82 e83 e84 e85 e86 e87 e88
          subst hA
          --ENDREGION
          have VB5 : Hid (Below w3.heap.size w3 w') := Lib.hid (bnext HB5.out (of_drew hE))
          have OW5 : Hid (w'.ownsRow w3.heap.size 22 1 (.slice (some ⟨g1, 0, none⟩) (len C) cc) (len C) (C.map (Value.int .u64))) := Lib.hid (own_below (by rw [HK.out]; exact HO5.out) (of_drew hE))
          have c6 : w'.cell? ⟨g1, m, none⟩ = some (.int .u64 x) := by
            rw [OW5.out.cellAt m (by have := HK.out; omega)]; exact HCX.out
          have f5 := OW5.out.frozenAt m
          have HS5 := Lib.hid (own_set (m := m) OW5.out (x % T))
          have HB6 : Hid (Below w3.heap.size w3 (w'.setCell ⟨g1, m, none⟩ (.int .u64 (x % T)))) := Lib.hid (bset VB5.out (HO.out.lt g1 rfl).1 _)
          have hxm : 0 ≤ x % T ∧ x % T < T := ⟨Int.emod_nonneg _ (by omega), Int.emod_lt_of_pos x (by omega)⟩
          have HR5 : Hid (∀ i, 0 ≤ nth (C.set m (x % T)) i ∧ nth (C.set m (x % T)) i < 18446744073709551616) := Lib.hid (fun i => nth_set C m i _ ⟨hxm.1, by omega⟩ HRG.out)
          have HL5 : Hid (∀ j, j < m + 1 → nth (C.set m (x % T)) j < T) := Lib.hid (fun j hj => nth_set_lt (by have := HK.out; omega) hxm.2 HLT.out j hj)
          clear hE VB5 OW5 hxm
          go_wp2
          go_roundg (K - (m + 1))
          case rel => exact ⟨m + 1, C.set m (x % T), by omega, by go_num, by rw [len_set]; exact HK.out, HB6.out, by have h := HS5.out; rw [len_set, HK.out] at h; exact h, HR5.out, HL5.out⟩
          case measure => omega
        · obtain rfl : m = K := by omega
          have i1 : ¬ (m : Int) < m := by omega
          obtain ⟨k, hk⟩ : ∃ k : Nat, k = at0 % (m + 1) := ⟨_, rfl⟩
          have hkm : k ≤ m := by have := Nat.mod_lt at0 (show 0 < m + 1 by omega); omega
          have ek : (at0 : Int) % ((m : Int) + 1) = (k : Int) := by rw [hk]; exact (Int.natCast_emod at0 (m + 1)).symm
          have ek2 : (at0 : Int).tmod ((m : Int) + 1) = (k : Int) := by rw [Int.tmod_eq_emod_of_nonneg (by omega)]; exact ek
          clear hk
          obtain ⟨ps, q, t, r, u, v, po, hap⟩ := apart2_of (E := E) (W := W) (C := C) (fun c hc => by
            obtain ⟨i, hi, rfl⟩ := mem_nth hc
            rw [← HE.out]
            exact (all_falls HWT.out (HRG.out i).1 (by rw [HT.out]; exact HLT.out i (by have := HK.out; omega))).1) k (by have := HK.out; omega)
          have HAP := Lib.hid hap
          have lp40 : len ps ≤ 40 := by have := hap.lq; have := HK.out; omega
          have lu40 : len u ≤ 40 := by have := hap.lu; have := HK.out; omega
          have lv40 : len v ≤ 40 := by have := hap.lv; have := HK.out; omega
          have lr40 : len r ≤ 40 := by have := hap.lr; have := HK.out; omega
          obtain ⟨ca2, cc2, he2, hcu, hnc⟩ := own_u64n (l := C) (by exact HO.out)
          rw [HK.out] at he2
          injection he2 with q1 q2 q3
          subst q1
          subst q3
          have HCU := Lib.hid hcu
          have VBR : Hid (Below w3.heap.size w3 wr) := HB
          have hcc : m ≤ cc := by
            rcases HO.out.2 with ⟨h, h0⟩ | ⟨g1, cap, cur, h, _, _, h2, _⟩
            · omega
            · injection h with e1 e2 e3; omega
          have hlt' : len (C.take k) = k := by rw [len_eq, List.length_take]; have := HK.out; rw [len_eq] at this; omega
          obtain ⟨da, hds, hdu, hdl⟩ := slice_off (b0 := ca) hkm hcc HK.out HCU.out
          have hs1 : ∀ W, (Instr.slice 28 (.slice ca m cc) none (some (.int .i64 (k : Int))) none).run Try.prog W = .ok (.slice ca k cc) W := fun W => slice_to ca (by omega) W
          have hcall1 : Calls Try.prog 31 #[.pointer (some ⟨B, 0, none⟩), .slice ca m cc] wr (ChO ps r 0 wr) := by
            have h := choose_any B E W S C ca cc wr HCU.out (by rw [HK.out]; omega) (LA.out.below HB.out) HEW.out HEN.out HEU.out
            rw [HK.out] at h; exact h.mono (hap.all wr)
          have hcall2 : ∀ w', Below wr.heap.size wr w' → Calls Try.prog 31 #[.pointer (some ⟨B, 0, none⟩), .slice ca k cc] w' (ChO q u 0 w') := fun w' hb => by
            have h := choose_any B E W S (C.take k) ca cc w' ((u64s_take HCU.out k).below hb) (by omega) (LA.out.below (bnext HB.out hb)) HEW.out HEN.out HEU.out
            rw [hlt'] at h; exact h.mono (hap.fst w')
          have hcall3 : ∀ w', Below wr.heap.size wr w' → Calls Try.prog 31 #[.pointer (some ⟨B, 0, none⟩), .slice da (m - k) (cc - k)] w' (ChO t v 0 w') := fun w' hb => by
            have h := choose_any B E W S (C.drop k) da (cc - k) w' (hdu.below hb) (by omega) (LA.out.below (bnext HB.out hb)) HEW.out HEN.out HEU.out
            rw [hdl] at h; exact h.mono (hap.snd w')
          have HCA := Lib.hid hcall1
          have HCB := Lib.hid hcall2
          have HCD := Lib.hid hcall3
          clear hcall1 hcall2 hcall3 hdu hdl hlt' hap hcu q2 hm hlt HO HB HLT hnc
          go_wp2_with fail
          refine HCA.out.mono ?_
          rintro e w6 ⟨a1, k1, a2, k2, rfl, up, ur, -, -, hb6⟩
          have UP6 := Lib.hid up
          have UR6 := Lib.hid ur
          have VB6 : Hid (Below wr.heap.size wr w6) := Lib.hid hb6
          clear up ur hb6 HCA
          go_wp2_with fail
          refine (HCB.out _ VB6.out).mono ?_
          rintro e w7 ⟨a3, k3, a4, k4, rfl, uq, uu, nq, -, hb7⟩
          have UQ7 := Lib.hid uq
          have UU7 := Lib.hid uu
          have NQ := Lib.hid nq
          have UP7 := Lib.hid (UP6.out.below hb7)
          have UR7 := Lib.hid (UR6.out.below hb7)
          have VB7 : Hid (Below wr.heap.size wr w7) := Lib.hid (bnext VB6.out hb7)
          clear uq uu nq hb7 HCB UP6 UR6 VB6
          go_wp2_with fail
          refine (HCD.out _ VB7.out).mono ?_
          rintro e w8 ⟨a5, k5, a6, k6, rfl, ut, uv, nt, -, hb8⟩
          have UT8 := Lib.hid ut
          have UV8 := Lib.hid uv
          have NT := Lib.hid nt
          have UP8 := Lib.hid (UP7.out.below hb8)
          have UR8 := Lib.hid (UR7.out.below hb8)
          have UQ8 := Lib.hid (UQ7.out.below hb8)
          have UU8 := Lib.hid (UU7.out.below hb8)
          have VB8 : Hid (Below wr.heap.size wr w8) := Lib.hid (bnext VB7.out hb8)
          clear ut uv nt hb8 HCD UP7 UR7 UQ7 UU7 VB7 hds hs1 ek ek2
          have lqt : len q + len t ≤ 40 := by rw [← len_app, ← HAP.out.app]; exact lp40
          have E0 : Hid ((w8.alloc (.cells #[] 22)).ownsRow w8.heap.size 22 1 (.slice (some ⟨w8.heap.size, 0, none⟩) 0 0) (len ([] : List Int)) (([] : List Int).map (Value.int .u64))) := Lib.hid (World.ownsRow_lit w8 #[] 0 (Nat.le_refl _) (Nat.zero_le _) rfl)
          go_wp2_with (refine wpList_append_u64g rfl _ _ rfl w8.heap.size _ [] q a3 k3 rfl E0.out rfl (UQ8.out.below (balloc (Below.refl _ _) _)) NQ.out (show 0 + len q ≤ 100000 by omega) (by simp) ?_)
          intro cv w9 hown hgrow
          have VB9 : Hid (Below w8.heap.size w8 w9) := Lib.hid (grownBy_below (balloc (Below.refl _ _) _) hgrow (fun k hk => by simp [Value.ownBlock] at hk; omega))
          have OQ : Hid (w9.ownsRow w8.heap.size 22 1 cv (len q) (q.map (Value.int .u64))) := Lib.hid hown
          clear hown hgrow E0
          go_wp2_with (refine wpList_append_u64g rfl _ _ rfl w8.heap.size _ q t a5 k5 rfl OQ.out rfl (UT8.out.below VB9.out) NT.out (by omega) VB9.out.size ?_)
          intro cv2 w10 hown hgrow
          have VB10 : Hid (Below w8.heap.size w8 w10) := Lib.hid (grownBy_below VB9.out hgrow (fun k hk => (OQ.out.lt k hk).1))
          have OP : Hid (w10.ownsRow w8.heap.size 22 1 cv2 (len ps) (ps.map (Value.int .u64))) := Lib.hid (by rw [HAP.out.app, List.map_append]; exact hown)
          clear hown hgrow OQ VB9
          obtain ⟨ap, kp, rfl, hup⟩ := own_u64s OP.out
          have UP10 := Lib.hid (UP8.out.below VB10.out)
          have UPP := Lib.hid hup
          have UR10 := Lib.hid (UR8.out.below VB10.out)
          have UU10 := Lib.hid (UU8.out.below VB10.out)
          have UV10 := Lib.hid (UV8.out.below VB10.out)
          have VB10b : Hid (Below wr.heap.size wr w10) := Lib.hid (bnext VB8.out VB10.out)
          clear hup UP8 UR8 UU8 UV8 UQ8 UT8 VB8 VB10 OP
          go_wp2_with fail
          refine (nums_same a1 ap k1 kp ps _ UP10.out UPP.out (by omega)).mono ?_
          rintro e w11 ⟨rfl, hb11⟩
          have UR11 := Lib.hid (UR10.out.below hb11)
          have UU11 := Lib.hid (UU10.out.below hb11)
          have UV11 := Lib.hid (UV10.out.below hb11)
          have VB11 : Hid (Below wr.heap.size wr w11) := Lib.hid (bnext VB10b.out hb11)
          clear hb11 UP10 UPP UR10 UU10 UV10 VB10b
          obtain ⟨nu, hnu⟩ : ∃ nu, len u = nu := ⟨_, rfl⟩
          obtain ⟨nv, hnv⟩ : ∃ nv, len v = nv := ⟨_, rfl⟩
          obtain ⟨nr, hnr⟩ : ∃ nr, len r = nr := ⟨_, rfl⟩
          have HNU := Lib.hid hnu
          have HNV := Lib.hid hnv
          have HNR := Lib.hid hnr
          rw [hnu] at lu40 ⊢
          rw [hnv] at lv40 ⊢
          rw [hnr] at lr40 ⊢
          clear hnu hnv hnr i1
          have hmm := @run_makeMap Try.prog
          go_wp2
          clear hmm
          obtain ⟨V12, hV12⟩ : ∃ V, w11.alloc (.map #[] 0) = V := ⟨_, rfl⟩
          obtain ⟨kb, hkb⟩ : ∃ kb, w11.heap.size = kb := ⟨_, rfl⟩
          have VB12 : Hid (Below w11.heap.size w11 V12) := Lib.hid (by rw [← hV12]; exact balloc (Below.refl _ _) _)
          have VS12 : Hid (SetO V12 kb (insAll (u.take 0))) := Lib.hid (by rw [← hV12, ← hkb]; exact SetO.new w11)
          have HKB : Hid (w11.heap.size ≤ kb) := Lib.hid (by rw [hkb]; exact Nat.le_refl _)
          rw [hV12, hkb]
          clear hV12 hkb
          obtain ⟨W0, hW0⟩ : ∃ W, W = wr := ⟨_, rfl⟩
          subst hW0
          go_loopg [24] nu (fun g i wx => ∃ n : Nat, g + n = nu ∧ i = .int .i64 n ∧ Hid (Below w11.heap.size w11 wx) ∧ Hid (SetO wx kb (insAll (u.take n))))
          case atStart => exact ⟨0, rfl, rfl, VB12.out, VS12.out⟩
          case round =>
            clear VB12 VS12
            obtain ⟨n, hn, rfl, HBn, HSn⟩ := hrel
            by_cases hlt : n < nu
            · obtain ⟨ub, uo, rfl, uc⟩ := (UU11.out.below HBn.out) n (by rw [HNU.out]; exact hlt)
              have i2 : (n : Int) < nu := by omega
              have HTK : Hid (insAll (u.take (n + 1)) = insK (insAll (u.take n)) (nth u n)) := Lib.hid (by rw [take_snoc_int (by rw [HNU.out]; exact hlt), insAll_snoc])
              go_wp2_with (at_mapUpdate; refine wpList_mapUpdate_m rfl _ _ _ 58 22 3 .u64 rfl Try.underlying58 Try.underlying22 kb 0 _ rfl HSn.out (nth u n) _ rfl rfl ?_)
              go_roundg (nu - (n + 1))
              case rel => exact ⟨n + 1, by omega, by go_num, setBlock_below HBn.out HKB.out, by rw [HTK.out]; exact SetO.put HSn.out _⟩
              case measure => omega
            · obtain rfl : n = nu := by omega
              have i2 : ¬ (n : Int) < n := by omega
              have HS0 : Hid (SetO wr kb (insAll (u ++ v.take 0))) := Lib.hid (by
                have h := HSn.out
                rw [show u.take n = u from by rw [← HNU.out]; exact take_len u] at h
                simpa using h)
              have HB0 := HBn
              clear HSn HBn
              go_wp2
              clear i2 hlt hn
              go_loopg [25] nv (fun g i wx => ∃ n : Nat, g + n = nv ∧ i = .int .i64 n ∧ Hid (Below w11.heap.size w11 wx) ∧ Hid (SetO wx kb (insAll (u ++ v.take n))))
              case atStart => exact ⟨0, rfl, rfl, HB0.out, HS0.out⟩
              case round =>
                clear HB0 HS0
                obtain ⟨n, hn, rfl, HBn, HSn⟩ := hrel
                by_cases hlt : n < nv
                · obtain ⟨vb, vo, rfl, vc⟩ := (UV11.out.below HBn.out) n (by rw [HNV.out]; exact hlt)
                  have i2 : (n : Int) < nv := by omega
                  have HTK : Hid (insAll (u ++ v.take (n + 1)) = insK (insAll (u ++ v.take n)) (nth v n)) := Lib.hid (by rw [take_snoc_int (by rw [HNV.out]; exact hlt), ← List.append_assoc, insAll_snoc])
                  go_wp2_with (at_mapUpdate; refine wpList_mapUpdate_m rfl _ _ _ 58 22 3 .u64 rfl Try.underlying58 Try.underlying22 kb 0 _ rfl HSn.out (nth v n) _ rfl rfl ?_)
                  go_roundg (nv - (n + 1))
                  case rel => exact ⟨n + 1, by omega, by go_num, setBlock_below HBn.out HKB.out, by rw [HTK.out]; exact SetO.put HSn.out _⟩
                  case measure => omega
                · obtain rfl : n = nv := by omega
                  have i2 : ¬ (n : Int) < n := by omega
                  have hsk : SetO wr kb (insAll (u ++ v)) := by
                    have h := HSn.out
                    rw [show v.take n = v from by rw [← HNV.out]; exact take_len v] at h
                    exact h
                  have HSK := Lib.hid hsk
                  obtain ⟨es, cl, hes, hsz⟩ := hsk.size
                  have e5 : es.size = nr := by rw [hsz, HAP.out.size]; exact HNR.out
                  have hml : (Builtin.len_ #[58] 3 #[.map (some kb)]).run Try.prog wr = .ok (.int .i64 nr) wr := by
                    rw [run_len_map wr 58 3 kb es cl (by kernel_rfl) hes, e5]; rfl
                  have HBW := HBn
                  clear hsz hes e5 hsk HSn HBn
                  go_wp2
                  clear hml i2
                  obtain ⟨W1, hW1⟩ : ∃ W, W = wr := ⟨_, rfl⟩
                  subst hW1
                  go_loopg [26] nr (fun g i wx => ∃ n : Nat, g + n = nr ∧ i = .int .i64 n ∧ wx = W1)
                  case atStart => exact ⟨0, rfl, rfl, rfl⟩
                  case round =>
                    clear hn hlt
                    obtain ⟨n, hn, rfl, rfl⟩ := hrel
                    have HBW2 := HBW
                    by_cases hlt : n < nr
                    · obtain ⟨rb, ro, rfl, rc⟩ := (UR11.out.below HBW.out) n (by rw [HNR.out]; exact hlt)
                      have hlk := HSK.out.look (HAP.out.mem n (by rw [HNR.out]; exact hlt))
                      have i2 : (n : Int) < nr := by omega
                      go_wp2
                      go_roundg (nr - (n + 1))
                      case rel => exact ⟨n + 1, by omega, by go_num, rfl⟩
                      case measure => omega
                    · obtain rfl : n = nr := by omega
                      have i2 : ¬ (n : Int) < n := by omega
                      have CUW := Lib.hid (HCU.out.below (bnext VB11.out HBW.out))
                      have VBW : Hid (Below w3.heap.size w3 wr) := Lib.hid (bnext (bnext VBR.out VB11.out) HBW.out)
                      have URW := Lib.hid (UR11.out.below HBW.out)
                      clear HBW HBW2 HSK UR11 UU11 UV11 VB11 HCU hlt hn
                      obtain ⟨W2, hW2⟩ : ∃ W, W = wr := ⟨_, rfl⟩
                      subst hW2
                      go_wp2
                      clear i2
                      go_loopg [27, 28] m (fun g v i wx => g ≤ m ∧ i = .int .i64 ((g : Int) - 1) ∧ Hid (Below W2.heap.size W2 wx) ∧ Hid (wx.ownsRow W2.heap.size 22 1 v (m - g) ((C.drop g).reverse.map (Value.int .u64))))
                      case atStart => exact ⟨Nat.le_refl _, rfl, Below.refl _ _, by
                        rw [Nat.sub_self, List.drop_eq_nil_of_le (by rw [← len_eq, HK.out]; exact Nat.le_refl _)]
                        exact World.ownsRow_nil _ _ _ _⟩
                      case round =>
                        obtain ⟨hgm, rfl, HBg, HOg⟩ := hrel
                        obtain ⟨G, hG⟩ : ∃ G, G = gk := ⟨_, rfl⟩
                        subst hG
                        cases G with
                        | zero =>
                          have e2 : ((0 : Nat) : Int) - 1 = -1 := rfl
                          rw [e2]
                          have HO2 : Hid (wr.ownsRow W2.heap.size 22 1 u27 (len C.reverse) (C.reverse.map (Value.int .u64))) := Lib.hid (by
                            have h := HOg.out
                            have e3 : len C.reverse = m := by rw [len_eq, List.length_reverse]; exact HK.out
                            rw [e3]; exact h)
                          obtain ⟨ba, bc, rfl, hbu⟩ := own_u64s HO2.out
                          have hch := choose_any B E W S C.reverse ba bc wr hbu (by rw [len_eq, List.length_reverse]; have := HK.out; rw [len_eq] at this; omega) (LA.out.below (bnext VBW.out HBg.out)) HEW.out HEN.out HEU.out
                          have HCH := Lib.hid (hch.mono (HAP.out.back wr))
                          clear hch hbu HO2 HOg e2
                          go_wp2_with fail
                          refine HCH.out.mono ?_
                          rintro e w20 ⟨a7, k7, a8, k8, rfl, -, uo, -, -, hb20⟩
                          have UO := Lib.hid uo
                          have URO := Lib.hid (URW.out.below (bnext HBg.out hb20))
                          have VBE : Hid (Below w.heap.size w w20) := Lib.hid (bnext VB3.out (bnext (bnext VBW.out HBg.out) hb20))
                          rw [HNR.out]
                          clear uo hb20 HCH
                          have hns := nums_same a8 a2 k8 k2 r w20 UO.out URO.out (by rw [HNR.out]; omega)
                          rw [HNR.out] at hns
                          have HNS := Lib.hid hns
                          clear hns
                          go_wp2_with fail
                          refine HNS.out.mono ?_
                          rintro e w21 ⟨rfl, hb21⟩
                          have VBF : Hid (Below w.heap.size w w21) := Lib.hid (bnext VBE.out hb21)
                          clear hb21
                          go_wp2
                          go_ret
                          exact ⟨rfl, VBF.out⟩
                        | succ j =>
                          have e2 : ((j + 1 : Nat) : Int) - 1 = (j : Int) := by omega
                          rw [e2]
                          obtain ⟨cb, co, rfl, xc⟩ := (CUW.out.below HBg.out) j (by rw [HK.out]; omega)
                          have HDR : Hid ((C.drop j).reverse = (C.drop (j + 1)).reverse ++ [nth C j]) := Lib.hid (drop_rev (by rw [HK.out]; omega))
                          have i3 : (j : Int) < m := by omega
                          obtain ⟨i0, hi, hz0, hz1, hz2⟩ := info_parts info_u64
                          have HZ := Lib.hid hz0
                          clear e2 hz0
                          go_wp2_with (at_builtin; refine wpList_append_own _ rfl _ _ 28 rfl W2.heap.size 22 i0 (.int .u64 0) 1 8 Try.underlying28 hi HZ.out hz1 hz2 rfl (by decide) _ _ _ rfl (HOg.out.alloc _) ⟨wr.heap.size, 0, none⟩ 1 1 [.int .u64 (nth C j)] rfl rfl (cell_one_new _ _ _) (by simp [Value.oneCell']) (by unfold maxLen; omega) (by omega) (by have := HBg.out.size; simp; omega) ?_)
                          intro v' w22 hown hgrow _
                          have HB22 : Hid (Below W2.heap.size W2 w22) := Lib.hid (grownBy_below (balloc HBg.out _) hgrow (fun k hk => (HOg.out.lt k hk).1))
                          have HO22 : Hid (w22.ownsRow W2.heap.size 22 1 v' (m - j) ((C.drop j).reverse.map (Value.int .u64))) := Lib.hid (by
                            rw [HDR.out, List.map_append, show m - j = m - (j + 1) + 1 by omega]; simpa [List.map_reverse, List.map_drop] using hown)
                          clear hown hgrow HOg HBg xc
                          go_wp2
                          go_roundg j
                          case rel => exact ⟨by omega, by go_num, HB22.out, HO22.out⟩
                          case measure => omega
    · have t0 : decide (0 < T) = false := decide_eq_false hTp
      have e1 : (T == 0) = true := by simp; omega
      go_wp2
      go_ret
      exact ⟨rfl, VB35.out⟩
end Go.Proofs.Ytbeppkokkbgddaa
