/- The statement RevealRight: the law. -/
import Derived.Test.YtbeppkokkbgddaaRightP
import Derived.Test.YtbeppkokkbgddaaChsL
namespace Go.Proofs.Ytbeppkokkbgddaa
open Go.RowKit Go.ChangeMaps
set_option linter.unusedSimpArgs false
set_option linter.unusedVariables false

set_option maxRecDepth 100000 in
set_option maxHeartbeats 8000000 in
theorem right_law (a0 b0 : Option Addr) (c0 d0 : Nat) (rows : List (Int × Bool)) (coins : List Int) (w : World) (hr : RowsB w a0 rows) (hrl : len rows ≤ c0) (hrm : c0 ≤ 9223372036854775807) (hrr : ∀ i, 0 ≤ (rth rows i).1 ∧ (rth rows i).1 < 18446744073709551616)
    (hc : U64s w b0 coins) (hcl : len coins ≤ d0) (hcm : d0 ≤ 9223372036854775807) (hcn : b0 = none → d0 = 0) (hcr : ∀ i, 0 ≤ nth coins i ∧ nth coins i < 18446744073709551616) :
    Calls Try.prog 11 #[.slice a0 (len rows) c0, .slice b0 (len coins) d0] w fun e w' => e = .returned (.bool true) ∧ Below w.heap.size w w' := by
  have HR := Lib.hid hr
  have HRR := Lib.hid hrr
  have HC := Lib.hid hc
  have HCN := Lib.hid hcn
  have HCR := Lib.hid hcr
  clear hr hrr hc hcn hcr
  go_enter Try.func11, Try.ntmps11
  go_wp2_with fail
  refine (works20_any w).mono ?_
  rintro e w1 ⟨rfl, hb⟩
  have VB1 := Lib.hid hb
  clear hb
  have hRT : ∀ i, 0 ≤ (rth (rows.take 60) i).1 ∧ (rth (rows.take 60) i).1 < 18446744073709551616 := fun i => rth_take rows 60 i HRR.out
  obtain ⟨R3, hR3⟩ : ∃ R3, rows.take 60 = R3 := ⟨_, rfl⟩
  have hrn : len R3 = min (len rows) 60 := by rw [← hR3, len_eq, List.length_take]; have : rows.length = len rows := rfl; omega
  have mm : min ((len rows : Nat) : Int) 60 = (len R3 : Int) := by omega
  have h60 : len R3 ≤ 60 := by omega
  have i1 : (len R3 : Int) ≤ c0 := by omega
  have HRB : Hid (RowsB w1 a0 R3) := Lib.hid (by rw [← hR3]; exact rows_take (HR.out.below VB1.out) 60)
  have hT3 : R3.take 300 = R3 := List.take_of_length_le (by rw [← len_eq]; omega)
  rw [hR3] at hRT
  have HRT := Lib.hid hRT
  have HT3 := Lib.hid hT3
  have hsl : ∀ W, (Instr.slice 39 (.slice a0 (len rows) c0) none (some (.int .i64 (len R3 : Int))) none).run Try.prog W = .ok (.slice a0 (len R3) c0) W := fun W => slice_rows a0 (by omega) W
  clear hR3 hrn hRT hT3
  go_wp2_with fail
  refine (split_any a0 c0 R3 w1 HRB.out (by omega) HRT.out).mono ?_
  rintro e w2 ⟨v1, v2, rfl, o1, o2, hb⟩
  rw [HT3.out] at o1 o2
  have hWt := wOf_wts R3 HRT.out
  have hWn := wOf_len R3
  have hSn := sOf_len R3
  obtain ⟨wa, wc, rfl, u1, _⟩ := own_u64n o1
  obtain ⟨sa, sc, rfl, u2, _⟩ := own_bls o2
  obtain ⟨Ws, hWs⟩ : ∃ Ws, wOf R3 = Ws := ⟨_, rfl⟩
  obtain ⟨Ss, hSs⟩ : ∃ Ss, sOf R3 = Ss := ⟨_, rfl⟩
  rw [hWs] at u1 hWt hWn ⊢
  rw [hSs] at u2 hSn
  rw [← hWn] at h60 hSn ⊢
  have U1 := Lib.hid u1
  have U2 := Lib.hid u2
  have HWT := Lib.hid hWt
  have HSN := Lib.hid hSn
  have VB2 : Hid (Below w.heap.size w w2) := Lib.hid (bnext VB1.out hb)
  have HC2 := Lib.hid (HC.out.below VB2.out)
  clear o1 o2 hWt hWn hSn hWs hSs u1 u2 hb VB1 HR HRR HC hsl HRB HRT HT3 mm i1
  have hnew := new_any wa sa wc sc Ws Ss w2 U1.out U2.out HSN.out (by omega) HWT.out
  rw [HSN.out] at hnew
  have HNEW := Lib.hid hnew
  clear hnew
  go_wp2_with fail
  refine HNEW.out.mono ?_
  clear HNEW
  rintro e w3 h
  have hb3 : Below w2.heap.size w2 w3 := by
    rcases h with ⟨_, _, hb⟩ | ⟨_, B, _, _, _, hb⟩ <;> exact hb
  have HN := Lib.hid h
  have VB3 : Hid (Below w.heap.size w w3) := Lib.hid (bnext VB2.out hb3)
  have HC3 := Lib.hid (HC2.out.below hb3)
  have U13 := Lib.hid (U1.out.below hb3)
  have U23 := Lib.hid (U2.out.below hb3)
  clear h hb3 VB2 HC2 U1 U2
  rcases HN.out with ⟨⟨k, hk, hk2⟩, rfl, -⟩ | ⟨hsm, B, rfl, -, hlay, -⟩
  · go_wp2
    go_ret
    exact ⟨rfl, VB3.out⟩
  · skip
    have HSM := Lib.hid hsm
    have LA := Lib.hid hlay
    have hT0 := smK_nonneg HWT.out Ss (len Ws) (Nat.le_refl _)
    have hT1 := hsm (len Ws) (Nat.le_refl _)
    have HNT : Hid (nth (allK Ws Ss (len Ws)) (len Ws) = smK Ws Ss (len Ws)) := Lib.hid (allK_nth Ws Ss _ _ (Nat.le_refl _))
    have HAL : Hid (len (allK Ws Ss (len Ws)) = len Ws + 1) := Lib.hid (allK_len Ws Ss _)
    have HAN : Hid (∀ k, k < len Ws → nth (allK Ws Ss (len Ws)) k = smK Ws Ss k) := Lib.hid (fun k hk => allK_nth Ws Ss _ _ (Nat.le_of_lt hk))
    obtain ⟨S, hS⟩ : ∃ S, allK Ws Ss (len Ws) = S := ⟨_, rfl⟩
    obtain ⟨E, hE⟩ : ∃ E, endK Ws Ss (len Ws) = E := ⟨_, rfl⟩
    obtain ⟨W, hW⟩ : ∃ W, whoK Ss (len Ws) = W := ⟨_, rfl⟩
    have HEW : Hid (len W = len E) := Lib.hid (by rw [← hE, ← hW]; exact who_end Ws Ss _)
    have HEN : Hid (len E ≤ 1000000) := Lib.hid (by rw [← hE]; exact Nat.le_trans (end_len Ws Ss _) (by omega))
    have HEU : Hid (Ups E) := Lib.hid (by rw [← hE]; exact ups_of (ends_up HWT.out Ss _ (Nat.le_refl _)))
    have HE := Lib.hid hE
    have HW := Lib.hid hW
    rw [hS, hE, hW] at LA
    rw [hS] at HNT HAL HAN
    obtain ⟨T, hT⟩ : ∃ T, smK Ws Ss (len Ws) = T := ⟨_, rfl⟩
    have HT := Lib.hid hT
    have TA : Hid (∀ W', Below w3.heap.size w3 W' → Calls Try.prog 36 #[.pointer (some ⟨B, 0, none⟩)] W' fun e w' => e = .returned (.int .u64 T) ∧ Drew W' w') := Lib.hid (fun W' hb => by
      have h := total_any B E W S (len Ws) W' (LA.out.below hb) HAL.out (by omega)
      rw [HNT.out, hT] at h; exact h)
    rw [hT] at hT0 hT1
    clear hsm hlay hS hE hW hT HN
    obtain ⟨C0, hC0⟩ : ∃ C0, coins.take 60 = C0 := ⟨_, rfl⟩
    have hkl : len C0 = min (len coins) 60 := by rw [← hC0, len_eq, List.length_take]; have : coins.length = len coins := rfl; omega
    have mm : min ((len coins : Nat) : Int) 60 = (len C0 : Int) := by omega
    have hC60 : len C0 ≤ 60 := by omega
    have i1 : (len C0 : Int) ≤ d0 := by omega
    have HCW0 : Hid (∀ i, 0 ≤ nth C0 i ∧ nth C0 i < 18446744073709551616) := Lib.hid (fun i => by rw [← hC0]; exact nth_take coins 60 i HCR.out)
    have HU0 : Hid (U64s w3 b0 C0) := Lib.hid (by rw [← hC0]; exact u64s_take HC3.out 60)
    clear hC0 hkl HC3 HCR
    have E0 : Hid ((w3.alloc (.cells #[] 22)).ownsRow w3.heap.size 22 1 (.slice (some ⟨w3.heap.size, 0, none⟩) 0 0) (len ([] : List Int)) (([] : List Int).map (Value.int .u64))) := Lib.hid (World.ownsRow_lit w3 #[] 0 (Nat.le_refl _) (Nat.zero_le _) rfl)
    have hsl : ∀ W, (Instr.slice 28 (.slice b0 (len coins) d0) none (some (.int .i64 (len C0 : Int))) none).run Try.prog W = .ok (.slice b0 (len C0) d0) W := fun W => slice_to b0 (by omega) W
    go_wp2_with (at_builtin; refine wpList_append_u64s rfl _ _ rfl w3.heap.size _ [] C0 b0 d0 rfl E0.out rfl (HU0.out.below (balloc (Below.refl _ _) _)) HCN.out (show 0 + len C0 ≤ 100000 by omega) (by simp) ?_)
    intro cv w4 hown hgrow
    have VB4 : Hid (Below w3.heap.size w3 w4) := Lib.hid (grownBy_below (balloc (Below.refl _ _) _) hgrow (fun k hk => by simp [Value.ownBlock] at hk; omega))
    have HOW0 : Hid (w4.ownsRow w3.heap.size 22 1 cv (len C0) (C0.map (Value.int .u64))) := Lib.hid hown
    clear hown hgrow hsl E0 mm i1
    obtain ⟨ca, cc, rfl, hcu⟩ := own_u64s HOW0.out
    have HCU0 := Lib.hid hcu
    clear hcu
    by_cases hTp : 0 < T
    · have t0 : decide (0 < T) = true := decide_eq_true hTp
      have e1 : (T == 0) = false := by simp; omega
      obtain ⟨K, hK⟩ : ∃ K, len C0 = K := ⟨_, rfl⟩
      have HK0 := Lib.hid hK
      rw [hK] at HOW0 hC60
      rw [hK]
      clear HCU0 hK
      go_wp2
      go_loopg [10] K (fun g i wr => ∃ m : Nat, ∃ C : List Int, g + m = K ∧ i = .int .i64 m ∧ Hid (len C = K) ∧ Hid (Below w3.heap.size w3 wr) ∧ Hid (wr.ownsRow w3.heap.size 22 1 (.slice ca K cc) K (C.map (Value.int .u64))) ∧ Hid (∀ i, 0 ≤ nth C i ∧ nth C i < 18446744073709551616) ∧ Hid (∀ j, j < m → nth C j < T))
      case atStart => exact ⟨0, C0, rfl, rfl, HK0.out, VB4.out, HOW0.out, HCW0.out, fun j hj => by omega⟩
      case round =>
        clear HCW0 HK0 VB4 HOW0
        obtain ⟨m, C, hm, rfl, HK, HB, HO, HRG, HLT⟩ := hrel
        by_cases hlt : m < K
        · skip
          have hform : ∃ g1 : Nat, ca = some ⟨g1, 0, none⟩ := by
            rcases HO.out.2 with ⟨h, h0⟩ | ⟨g1, cap, cur, h, _⟩
            · omega
            · injection h with e1 e2 e3; exact ⟨g1, e1⟩
          obtain ⟨g1, rfl⟩ := hform
          obtain ⟨x, hx⟩ : ∃ x, nth C m = x := ⟨_, rfl⟩
          have HX := Lib.hid hx
          have hx0 := HRG.out m
          rw [hx] at hx0
          have hcx : (C.map (Value.int .u64))[m]? = some (.int .u64 x) := by
            rw [List.getElem?_map, List.getElem?_eq_getElem (show m < C.length by have := HK.out; rw [len_eq] at this; omega), ← nth_eq, hx]; rfl
          have HCX := Lib.hid hcx
          clear hx hcx
          have z0 : ¬ T = 0 := by omega
          have t1 : x.tmod T = x % T := Int.tmod_eq_emod_of_nonneg hx0.1
          have i1 : (m : Int) < K := by omega
          go_wp2_with fail
          refine (TA.out _ HB.out).mono ?_
          rintro e w5 ⟨rfl, hd5⟩
          have HB5 : Hid (Below w3.heap.size w3 w5) := Lib.hid (bnext HB.out (hd5.below _))
          have HO5 := Lib.hid (own_below HO.out (hd5.below _))
          have cm : w5.cell? ⟨g1, m, none⟩ = some (.int .u64 x) := by
            rw [HO5.out.cellAt m (by omega)]; exact HCX.out
          clear hd5
          go_upto_region 11 with fail
          --REGION sextant/sextantlaw20.RevealRight 11 ri11
          refine wp_region_tail 10 1000 (none) (phis [fun u _ => u = (.slice (some ⟨g1, 0, none⟩) K cc), fun u _ => u = (.int .i64 m), fun u _ => u = (.slice (some ⟨g1, 0, none⟩) K cc), fun u _ => u = (.int .i64 m), fun u _ => u = (.pointer (some ⟨g1, m, none⟩)), fun u _ => u = (.int .u64 x), fun u _ => u = (.pointer (some ⟨B, 0, none⟩)), fun u _ => u = (.int .u64 T), fun u _ => u = (.int .u64 (x % T)), fun u _ => u = (.pointer (some ⟨g1, m, none⟩))]) rfl (by kernel_rfl) (by kernel_rfl) (mono_of ⟨mono_eq, mono_eq, mono_eq, mono_eq, mono_eq, mono_eq, mono_eq, mono_eq, mono_eq, mono_eq, trivial⟩) (steps_of 10 ⟨?s0, ?s1, ?s2, ?s3, ?s4, ?s5, ?s6, ?s7, ?s8, ?s9, trivial⟩) ?_
          case s0 =>
            refine step_val (v := (.slice (some ⟨g1, 0, none⟩) K cc)) (fun av wv hE hS hO hD => ?_) (fun _ => rfl)
            have h9 : av.eval (.tmp 9) = (.slice (some ⟨g1, 0, none⟩) K cc) := hO.2.2 9 rfl
            have f9 := (ev_form av 9).symm.trans h9
            refine ⟨rfl, ?_⟩
            simp [go_sem, f9, t0, t1, i1, z0]
          case s1 =>
            refine step_val (v := (.int .i64 m)) (fun av wv hE hS hO hD => ?_) (fun _ => rfl)
            have h10 : av.eval (.tmp 10) = (.int .i64 m) := hO.2.2 10 rfl
            have f10 := (ev_form av 10).symm.trans h10
            refine ⟨rfl, ?_⟩
            simp [go_sem, f10, t0, t1, i1, z0]
          case s2 =>
            refine step_val (v := (.slice (some ⟨g1, 0, none⟩) K cc)) (fun av wv hE hS hO hD => ?_) (fun _ => rfl)
            have h9 : av.eval (.tmp 9) = (.slice (some ⟨g1, 0, none⟩) K cc) := hO.2.2 9 rfl
            have f9 := (ev_form av 9).symm.trans h9
            refine ⟨rfl, ?_⟩
            simp [go_sem, f9, t0, t1, i1, z0]
          case s3 =>
            refine step_val (v := (.int .i64 m)) (fun av wv hE hS hO hD => ?_) (fun _ => rfl)
            have h10 : av.eval (.tmp 10) = (.int .i64 m) := hO.2.2 10 rfl
            have f10 := (ev_form av 10).symm.trans h10
            refine ⟨rfl, ?_⟩
            simp [go_sem, f10, t0, t1, i1, z0]
          case s4 =>
            refine step_val (v := (.pointer (some ⟨g1, m, none⟩))) (fun av wv hE hS hO hD => ?_) (fun _ => rfl)
            have d69 : av.eval (.tmp 69) = (.slice (some ⟨g1, 0, none⟩) K cc) := hD.1 rfl _ rfl
            have f69 := (ev_form av 69).symm.trans d69
            have d70 : av.eval (.tmp 70) = (.int .i64 m) := hD.2.1 rfl _ rfl
            have f70 := (ev_form av 70).symm.trans d70
            refine ⟨rfl, ?_⟩
            simp [go_sem, f69, f70, t0, t1, i1, z0]
          case s5 =>
            refine step_val (v := (.int .u64 x)) (fun av wv hE hS hO hD => ?_) (fun _ => rfl)
            have d71 : av.eval (.tmp 71) = (.pointer (some ⟨g1, m, none⟩)) := hD.1 rfl _ rfl
            have f71 := (ev_form av 71).symm.trans d71
            have cm := extB_cell hE (by simp) cm
            refine ⟨rfl, ?_⟩
            simp [go_sem, f71, cm, t0, t1, i1, z0]
          case s6 =>
            refine step_val (v := (.pointer (some ⟨B, 0, none⟩))) (fun av wv hE hS hO hD => ?_) (fun _ => rfl)
            have h7 : av.eval (.tmp 7) = (.pointer (some ⟨B, 0, none⟩)) := hO.2.2 7 rfl
            have f7 := (ev_form av 7).symm.trans h7
            refine ⟨rfl, ?_⟩
            simp [go_sem, f7, t0, t1, i1, z0]
          case s7 =>
            refine step_wp (fun av wv hE hS hO hD => ?_)
            have d73 : av.eval (.tmp 73) = (.pointer (some ⟨B, 0, none⟩)) := hD.1 rfl _ rfl
            have f73 := (ev_form av 73).symm.trans d73
            refine ⟨rfl, ?_⟩
            refine wp_of_call (v := (.int .u64 T)) (by simp [go_sem, f73, t0, t1, i1, z0]) ((TA.out wv (bnext HB5.out (of_drew hE))).mono (fun e w' h => ⟨h.1, h.2.below _⟩)) (fun w2 hb => ⟨_, rfl, es_of_ext hb, rfl⟩)
          case s8 =>
            refine step_val (v := (.int .u64 (x % T))) (fun av wv hE hS hO hD => ?_) (fun _ => rfl)
            have d72 : av.eval (.tmp 72) = (.int .u64 x) := hD.1 rfl _ rfl
            have f72 := (ev_form av 72).symm.trans d72
            have d74 : av.eval (.tmp 74) = (.int .u64 T) := hD.2.1 rfl _ rfl
            have f74 := (ev_form av 74).symm.trans d74
            refine ⟨rfl, ?_⟩
            simp [go_sem, f72, f74, t0, t1, i1, z0]
          case s9 =>
            refine step_val (v := (.pointer (some ⟨g1, m, none⟩))) (fun av wv hE hS hO hD => ?_) (fun _ => rfl)
            have d67 : av.eval (.tmp 67) = (.slice (some ⟨g1, 0, none⟩) K cc) := hD.1 rfl _ rfl
            have f67 := (ev_form av 67).symm.trans d67
            have d68 : av.eval (.tmp 68) = (.int .i64 m) := hD.2.1 rfl _ rfl
            have f68 := (ev_form av 68).symm.trans d68
            refine ⟨rfl, ?_⟩
            simp [go_sem, f67, f68, t0, t1, i1, z0]
          intro a' w' hE hO hall
          have hA := act_of_outer (ds := [67, 68, 69, 70, 71, 72, 73, 74, 75, 76]) rfl hO (by kernel_rfl)
          have e67 : (fun u _ => u = (.slice (some ⟨g1, 0, none⟩) K cc)) (a'.eval (.tmp 67)) w' := hall.1 _ rfl
          have e68 : (fun u _ => u = (.int .i64 m)) (a'.eval (.tmp 68)) w' := hall.2.1 _ rfl
          have e69 : (fun u _ => u = (.slice (some ⟨g1, 0, none⟩) K cc)) (a'.eval (.tmp 69)) w' := hall.2.2.1 _ rfl
          have e70 : (fun u _ => u = (.int .i64 m)) (a'.eval (.tmp 70)) w' := hall.2.2.2.1 _ rfl
          have e71 : (fun u _ => u = (.pointer (some ⟨g1, m, none⟩))) (a'.eval (.tmp 71)) w' := hall.2.2.2.2.1 _ rfl
          have e72 : (fun u _ => u = (.int .u64 x)) (a'.eval (.tmp 72)) w' := hall.2.2.2.2.2.1 _ rfl
          have e73 : (fun u _ => u = (.pointer (some ⟨B, 0, none⟩))) (a'.eval (.tmp 73)) w' := hall.2.2.2.2.2.2.1 _ rfl
          have e74 : (fun u _ => u = (.int .u64 T)) (a'.eval (.tmp 74)) w' := hall.2.2.2.2.2.2.2.1 _ rfl
          have e75 : (fun u _ => u = (.int .u64 (x % T))) (a'.eval (.tmp 75)) w' := hall.2.2.2.2.2.2.2.2.1 _ rfl
          have e76 : (fun u _ => u = (.pointer (some ⟨g1, m, none⟩))) (a'.eval (.tmp 76)) w' := hall.2.2.2.2.2.2.2.2.2.1 _ rfl
          simp only [List.foldl_cons, List.foldl_nil, Act.put, List.setIfInBounds_toArray, List.set_cons_succ, List.set_cons_zero, e67, e68, e69, e70, e71, e72, e73, e74, e75, e76] at hA
          clear hO hall e67 e68 e69 e70 e71 e72 e73 e74 e75 e76
          subst hA
          --ENDREGION
          have VB5 : Hid (Below w3.heap.size w3 w') := Lib.hid (bnext HB5.out (of_drew hE))
          have OW5 : Hid (w'.ownsRow w3.heap.size 22 1 (.slice (some ⟨g1, 0, none⟩) (len C) cc) (len C) (C.map (Value.int .u64))) := Lib.hid (own_below (by rw [HK.out]; exact HO5.out) (of_drew hE))
          have c6 : w'.cell? ⟨g1, m, none⟩ = some (.int .u64 x) := by
            rw [OW5.out.cellAt m (by have := HK.out; omega)]; exact HCX.out
          have f5 := OW5.out.frozenAt m
          have HS5 := Lib.hid (own_set (m := m) OW5.out (x % T))
          have HB6 : Hid (Below w3.heap.size w3 (w'.setCell ⟨g1, m, none⟩ (.int .u64 (x % T)))) := Lib.hid (bset VB5.out (HO.out.lt g1 rfl).1 _)
          have hxm : 0 ≤ x % T ∧ x % T < T := ⟨Int.emod_nonneg _ (by omega), Int.emod_lt_of_pos x (by omega)⟩
          have HR5 : Hid (∀ i, 0 ≤ nth (C.set m (x % T)) i ∧ nth (C.set m (x % T)) i < 18446744073709551616) := Lib.hid (fun i => nth_set C m i _ ⟨hxm.1, by omega⟩ HRG.out)
          have HL5 : Hid (∀ j, j < m + 1 → nth (C.set m (x % T)) j < T) := Lib.hid (fun j hj => nth_set_lt (by have := HK.out; omega) hxm.2 HLT.out j hj)
          clear hE VB5 OW5 hxm
          go_wp2
          go_roundg (K - (m + 1))
          case rel => exact ⟨m + 1, C.set m (x % T), by omega, by go_num, by rw [len_set]; exact HK.out, HB6.out, by have h := HS5.out; rw [len_set, HK.out] at h; exact h, HR5.out, HL5.out⟩
          case measure => omega
        · obtain rfl : m = K := by omega
          have i1 : ¬ (m : Int) < m := by omega
          obtain ⟨ps, rs, ks, L, hch, hcho⟩ := chosen_of HWT.out HK.out (fun i => (HRG.out i).1) (fun i hi => by rw [HT.out]; exact HLT.out i hi)
          rw [HE.out, HW.out] at hcho
          have HCH := Lib.hid hch
          obtain ⟨ca2, cc2, he2, hcu, _⟩ := own_u64n (l := C) (by exact HO.out)
          rw [HK.out] at he2
          injection he2 with q1 q2 q3
          subst q1
          subst q3
          have HCU := Lib.hid hcu
          have hcall : Calls Try.prog 31 #[.pointer (some ⟨B, 0, none⟩), .slice ca m cc] wr (ChO ps rs 0 wr) := by
            have h := choose_any B E W S C ca cc wr HCU.out (by rw [HK.out]; omega) (LA.out.below HB.out) HEW.out HEN.out HEU.out
            rw [HK.out] at h; exact h.mono (hcho wr)
          have HCA := Lib.hid hcall
          have VBR : Hid (Below w3.heap.size w3 wr) := HB
          clear hcall hcho hch hcu q2 hm hlt HO HB HLT
          go_wp2_with fail
          refine HCA.out.mono ?_
          rintro e w6 ⟨a1, k1, a2, k2, rfl, up, ur, -, -, hb6⟩
          rw [HCH.out.lp, HCH.out.lr]
          have VB6 : Hid (Below w3.heap.size w3 w6) := Lib.hid (bnext VBR.out hb6)
          have CU6 := Lib.hid (HCU.out.below hb6)
          have UP6 := Lib.hid up
          have UR6 := Lib.hid ur
          clear up ur hb6 HCA HCU VBR
          go_wp2_with fail
          refine (TA.out _ VB6.out).mono ?_
          rintro e w7 ⟨rfl, hd7⟩
          have VB7 : Hid (Below w3.heap.size w3 w7) := Lib.hid (bnext VB6.out (hd7.below _))
          have CU7 := Lib.hid (CU6.out.below (hd7.below _))
          have UP7 := Lib.hid (UP6.out.below (hd7.below _))
          have UR7 := Lib.hid (UR6.out.below (hd7.below _))
          have l1 : decide (m < L) = false := decide_eq_false (by have := HCH.out.le; omega)
          clear hd7 CU6 UP6 UR6 VB6
          have hmm := @run_makeMap Try.prog
          go_wp2
          clear hmm l1
          obtain ⟨V8, hV8⟩ : ∃ V, w7.alloc (.map #[] 0) = V := ⟨_, rfl⟩
          obtain ⟨kb, hkb⟩ : ∃ kb, w7.heap.size = kb := ⟨_, rfl⟩
          have VB8 : Hid (Below w7.heap.size w7 V8) := Lib.hid (by rw [← hV8]; exact balloc (Below.refl _ _) _)
          have VS8 : Hid (SetO V8 kb (insAll (ps.take 0))) := Lib.hid (by rw [← hV8, ← hkb]; exact SetO.new w7)
          have HKB : Hid (w7.heap.size ≤ kb) := Lib.hid (by rw [hkb]; exact Nat.le_refl _)
          rw [hV8, hkb]
          clear hV8 hkb i1
          go_loopg [15] m (fun g i wx => ∃ q : Nat, g + q = m ∧ i = .int .i64 q ∧ Hid (Below w7.heap.size w7 wx) ∧ Hid (SetO wx kb (insAll (ps.take q))))
          case atStart => exact ⟨0, rfl, rfl, VB8.out, VS8.out⟩
          case round =>
            clear VB8 VS8
            obtain ⟨q, hq, rfl, HBq, HSq⟩ := hrel
            by_cases hlt2 : q < m
            · obtain ⟨k0, hp0, hk0, hs0⟩ := HCH.out.at' q hlt2
              obtain ⟨pb, po, rfl, pc⟩ := (UP7.out.below HBq.out) q (by rw [HCH.out.lp]; exact hlt2)
              rw [hp0] at pc
              obtain ⟨sb, so, rfl, scell⟩ := (U23.out.below (bnext VB7.out HBq.out)) k0 (by rw [HSN.out]; exact hk0)
              have hs1 : Ss.getD k0 false = true := hs0
              rw [hs1] at scell
              have HP0 := Lib.hid hp0
              have iq : (q : Int) < m := by omega
              have iw : IntKind.u64.wrap ((len Ws : Nat) : Int) = len Ws := IntWalk.u64_in _ (by omega)
              have i3 : decide (((len Ws : Nat) : Int) ≤ (k0 : Int)) = false := decide_eq_false (by omega)
              have i4 : (k0 : Int) < len Ws := by omega
              have HTK : Hid (insAll (ps.take (q + 1)) = insK (insAll (ps.take q)) (k0 : Int)) := Lib.hid (by
                rw [take_snoc_int (by rw [HCH.out.lp]; exact hlt2), insAll_snoc, hp0])
              clear hp0 hs0 hs1
              go_wp2_with (at_mapUpdate; refine wpList_mapUpdate_m rfl _ _ _ 58 22 3 .u64 rfl Try.underlying58 Try.underlying22 kb 0 _ rfl HSq.out (k0 : Int) _ rfl rfl ?_)
              obtain ⟨V9, hV9⟩ : ∃ V, setBlock wr kb (mObj .u64 0 (mPut (kone (insAll (ps.take q))) (k0 : Int) (.int .i64 1))) = V := ⟨_, rfl⟩
              have VB9 : Hid (Below w7.heap.size w7 V9) := Lib.hid (by rw [← hV9]; exact setBlock_below HBq.out HKB.out)
              have VS9 : Hid (SetO V9 kb (insAll (ps.take (q + 1)))) := Lib.hid (by rw [← hV9, HTK.out]; exact SetO.put HSq.out _)
              rw [hV9]
              clear hV9 pc scell HBq HSq
              obtain ⟨GK, hGK⟩ : ∃ G, G = gk := ⟨_, rfl⟩
              subst hGK
              go_loopg [16] (len Ws) (fun g k wx => ∃ j : Nat, g + j = len Ws ∧ k = .int .i64 j ∧ Hid (Below V9.heap.size V9 wx))
              case atStart => exact ⟨0, rfl, rfl, Below.refl _ _⟩
              case round =>
                obtain ⟨j, hj, rfl, HBj⟩ := hrel
                by_cases hlt3 : j < len Ws
                · have ij : IntKind.u64.wrap (j : Int) = j := IntWalk.u64_in _ (by omega)
                  have ij2 : (j : Int) < len Ws := by omega
                  have HBA : Hid (Below w3.heap.size w3 wr) := Lib.hid (bnext (bnext VB7.out VB9.out) HBj.out)
                  go_wp2_with fail
                  refine (sum_any B E W S (len Ws) j _ (LA.out.below HBA.out) HAL.out (by omega) hlt3).mono ?_
                  rintro e wS ⟨rfl, rfl⟩
                  rw [HAN.out j hlt3]
                  obtain ⟨sb2, so2, hsa2, scell⟩ := (U23.out.below HBA.out) j (by rw [HSN.out]; exact hlt3)
                  cases hsa2
                  cases hsj : sg Ss j with
                  | false =>
                    have hs1 : Ss.getD j false = false := hsj
                    rw [hs1] at scell
                    clear hs1 hsj
                    go_wp2_with fail
                    go_quiet (fail)
                    go_wp2
                    go_roundg (len Ws - (j + 1))
                    case rel => exact ⟨j + 1, by omega, by go_num, bdrewN HBj.out _⟩
                    case measure => omega
                  | true =>
                    have hs1 : Ss.getD j false = true := hsj
                    rw [hs1] at scell
                    obtain ⟨pb2, po2, hpa2, pc⟩ := (UP7.out.below (bnext VB9.out HBj.out)) q (by rw [HCH.out.lp]; exact hlt2)
                    cases hpa2
                    obtain ⟨cb, co, rfl, xc⟩ := (CU7.out.below (bnext VB9.out HBj.out)) q (by rw [HK.out]; exact hlt2)
                    obtain ⟨wb, wo, rfl, wcell⟩ := (U13.out.below HBA.out) j hlt3
                    have hfl := HCH.out.fl q hlt2 j hlt3 hsj
                    have hx := HRG.out q
                    have hsm0 := smK_nonneg HWT.out Ss j (by omega)
                    have hsm1 := HSM.out j (by omega)
                    rw [HP0.out] at hfl pc
                    obtain ⟨x, hxe⟩ : ∃ x, nth C q = x := ⟨_, rfl⟩
                    obtain ⟨s0, hse⟩ : ∃ s0, smK Ws Ss j = s0 := ⟨_, rfl⟩
                    obtain ⟨y, hye⟩ : ∃ y, nth Ws j = y := ⟨_, rfl⟩
                    rw [hxe] at hfl hx xc
                    rw [hse] at hfl hsm0 hsm1 ⊢
                    rw [hye] at hfl wcell
                    clear hxe hse hye hs1 hsj
                    by_cases hjk : j = k0
                    · have hfb : fallsB x s0 y = true := hfl.2 (by rw [hjk])
                      have hkk : ((j : Int) == (k0 : Int)) = true := by simp; omega
                      have HF := Lib.hid (fun W' => falls_same x s0 y hfb W' hx.1 (by omega) hsm0 (by omega))
                      clear hfb hfl hjk
                      go_wp2_with fail
                      go_quiet ((go_at_call 34; exact Calls.quiet_of_same (HF.out _)))
                      go_wp2
                      go_roundg (len Ws - (j + 1))
                      case rel => exact ⟨j + 1, by omega, by go_num, bdrewN HBj.out _⟩
                      case measure => omega
                    · have hfb : fallsB x s0 y = false := by
                        cases h : fallsB x s0 y with
                        | false => rfl
                        | true => exact absurd (hfl.1 h) (by omega)
                      have hkk : ((j : Int) == (k0 : Int)) = false := by simp; omega
                      have HF := Lib.hid (fun W' => falls_same x s0 y hfb W' hx.1 (by omega) hsm0 (by omega))
                      clear hfb hfl hjk
                      go_wp2_with fail
                      go_quiet ((go_at_call 34; exact Calls.quiet_of_same (HF.out _)))
                      go_wp2
                      go_roundg (len Ws - (j + 1))
                      case rel => exact ⟨j + 1, by omega, by go_num, bdrewN HBj.out _⟩
                      case measure => omega
                · have ij2 : ¬ (j : Int) < len Ws := by omega
                  go_wp2
                  go_roundg (m - (q + 1))
                  case rel => exact ⟨q + 1, by omega, by go_num, bnext VB9.out HBj.out, VS9.out.below HBj.out⟩
                  case measure => omega
            · obtain rfl : q = m := by omega
              have iq : ¬ (q : Int) < q := by omega
              have hSK : SetO wr kb ks := by
                have h := HSq.out
                rw [show ps.take q = ps from by rw [← HCH.out.lp]; exact take_len ps, ← HCH.out.keys] at h; exact h
              have HSK := Lib.hid hSK
              have URB := Lib.hid (UR7.out.below HBq.out)
              have VBQ : Hid (Below w.heap.size w wr) := Lib.hid (bnext VB3.out (bnext VB7.out HBq.out))
              clear hSK HBq HSq
              obtain ⟨W1, hW1⟩ : ∃ W, W = wr := ⟨_, rfl⟩
              subst hW1
              go_wp2
              clear iq
              go_loopg [19] L (fun g i wx => ∃ j : Nat, g + j = L ∧ i = .int .i64 j ∧ Hid (Below W1.heap.size W1 wx))
              case atStart => exact ⟨0, rfl, rfl, Below.refl _ _⟩
              case round =>
                obtain ⟨j, hj, rfl, HBj⟩ := hrel
                by_cases hlt3 : j < L
                · have ij2 : (j : Int) < L := by omega
                  obtain ⟨rb, ro, rfl, rc⟩ := (URB.out.below HBj.out) j (by rw [HCH.out.lr]; exact hlt3)
                  have hlk : ∀ n, (Instr.lookup 58 (.map (some kb)) (.int .u64 (nth rs j)) false).run Try.prog (wr.drewN n) = .ok (.int .i64 1) (wr.drewN n) := fun n => (HSK.out.below (bdrewN HBj.out n)).look (HCH.out.mem j hlt3)
                  by_cases hj0 : 0 < j
                  · obtain ⟨i, rfl⟩ : ∃ i, j = i + 1 := ⟨j - 1, by omega⟩
                    obtain ⟨rb2, ro2, hra2, rc2⟩ := (URB.out.below HBj.out) i (by rw [HCH.out.lr]; omega)
                    cases hra2
                    have hup := HCH.out.up i (by omega)
                    have hg : decide (nth rs (i + 1) ≤ nth rs i) = false := decide_eq_false (by omega)
                    have e4 : (0 : Int) < (i : Int) + 1 := by omega
                    have hL60 : L ≤ 60 := by have := HCH.out.le; omega
                    have ij3 : (i : Int) < L := by omega
                    have ij4 : (i : Int) + 1 < L := by omega
                    have i1 : IntKind.i64.wrap (i : Int) = i := (IntWalk.i64_in _ (by omega)); have i2 : 0 ≤ (i : Int) + 1 := (by omega); have i3 : ((i : Int) + 1).toNat = i + 1 := (by omega)
                    clear hup hj0 ij2
                    go_wp2_with fail
                    go_quiet (fail)
                    go_wp2
                    go_roundg (L - (i + 1 + 1))
                    case rel => exact ⟨i + 1 + 1, by omega, by go_num, bdrewN HBj.out _⟩
                    case measure => omega
                  · have e4 : decide ((0 : Int) < (j : Int)) = false := decide_eq_false (by omega)
                    go_wp2_with fail
                    go_quiet (fail)
                    go_wp2
                    go_roundg (L - (j + 1))
                    case rel => exact ⟨j + 1, by omega, by go_num, bdrewN HBj.out _⟩
                    case measure => omega
                · obtain rfl : j = L := by omega
                  have ij2 : ¬ (j : Int) < j := by omega
                  obtain ⟨es, cl, hes, hsz⟩ := (HSK.out.below HBj.out).size
                  have e5 : es.size = j := by rw [hsz]; exact HCH.out.ll.symm
                  have VBE : Hid (Below w.heap.size w wr) := Lib.hid (bnext VBQ.out HBj.out)
                  have hml : (Builtin.len_ #[58] 3 #[.map (some kb)]).run Try.prog wr = .ok (.int .i64 j) wr := by
                    rw [run_len_map wr 58 3 kb es cl (by kernel_rfl) hes, e5]; rfl
                  clear hsz hes e5
                  go_wp2
                  go_ret
                  exact ⟨rfl, VBE.out⟩
    · have t0 : decide (0 < T) = false := decide_eq_false hTp
      have e1 : (T == 0) = true := by simp; omega
      have HZ : Hid (∀ c ∈ C0, ¬ cutN E c < len E) := Lib.hid (fun c hc => by
        obtain ⟨i, _, rfl⟩ := mem_nth hc
        rw [← HE.out]; exact none_falls HWT.out (by rw [HT.out]; omega) (HCW0.out i).1)
      obtain ⟨err, herr, hcho⟩ := chO_zero (W := W) HZ.out
      have hcall : ∀ w5, Below w4.heap.size w4 w5 → Calls Try.prog 31 #[.pointer (some ⟨B, 0, none⟩), .slice ca (len C0) cc] w5 (ChO [] [] err w5) := fun w5 hb =>
        (choose_any B E W S C0 ca cc w5 (HCU0.out.below hb) (by omega) (LA.out.below (bnext VB4.out hb)) HEW.out HEN.out HEU.out).mono (hcho w5)
      obtain ⟨K, hK⟩ : ∃ K, len C0 = K := ⟨_, rfl⟩
      rw [hK] at hcall herr hC60
      rw [hK]
      have HCA : Hid (∀ w5, Below w4.heap.size w4 w5 → Calls Try.prog 31 #[.pointer (some ⟨B, 0, none⟩), .slice ca K cc] w5 (ChO [] [] err w5)) := Lib.hid hcall
      have l0 : len ([] : List Int) = 0 := rfl
      clear hcall hcho HZ HCU0 HOW0 hK HCW0
      rcases herr with ⟨rfl, rfl⟩ | ⟨rfl, hK⟩
      · go_wp2
        go_loopg [10] 0 (fun g i wr => i = .int .i64 0 ∧ Hid (Below w4.heap.size w4 wr))
        case atStart => exact ⟨rfl, Below.refl _ _⟩
        case round =>
          obtain ⟨rfl, HBX⟩ := hrel
          go_wp2_with fail
          refine (HCA.out _ HBX.out).mono ?_
          rintro e w6 ⟨a1, k1, a2, k2, rfl, -, -, -, -, hb6⟩
          have VB6 : Hid (Below w3.heap.size w3 w6) := Lib.hid (bnext (bnext VB4.out HBX.out) hb6)
          clear hb6 HBX
          go_wp2_with fail
          refine (TA.out _ VB6.out).mono ?_
          rintro e w7 ⟨rfl, hd7⟩
          have VB7 : Hid (Below w.heap.size w w7) := Lib.hid (bnext VB3.out (bnext VB6.out (hd7.below _)))
          clear hd7
          go_wp2
          go_ret
          exact ⟨rfl, VB7.out⟩
      · have hK2 : (0 : Int) < K := by omega
        go_wp2
        go_loopg [10] 0 (fun g i wr => i = .int .i64 0 ∧ Hid (Below w4.heap.size w4 wr))
        case atStart => exact ⟨rfl, Below.refl _ _⟩
        case round =>
          obtain ⟨rfl, HBY⟩ := hrel
          have e6 : ((K : Int) == 0) = false := by simp; omega
          go_wp2_with fail
          refine (TA.out _ (bnext VB4.out HBY.out)).mono ?_
          rintro e w5 ⟨rfl, hd5⟩
          have HBX : Hid (Below w4.heap.size w4 w5) := Lib.hid (bnext HBY.out (hd5.below _))
          clear hd5 HBY
          go_wp2_with fail
          refine (HCA.out _ HBX.out).mono ?_
          rintro e w6 ⟨a1, k1, a2, k2, rfl, -, -, -, -, hb6⟩
          have VB6 : Hid (Below w3.heap.size w3 w6) := Lib.hid (bnext (bnext VB4.out HBX.out) hb6)
          clear hb6 HBX
          go_wp2_with fail
          refine (TA.out _ VB6.out).mono ?_
          rintro e w7 ⟨rfl, hd7⟩
          have VB7 : Hid (Below w.heap.size w w7) := Lib.hid (bnext VB3.out (bnext VB6.out (hd7.below _)))
          clear hd7
          go_wp2
          go_ret
          exact ⟨rfl, VB7.out⟩
end Go.Proofs.Ytbeppkokkbgddaa
