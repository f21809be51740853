/- The statement RevealChooses: the law. -/
import Derived.Test.YtbeppkokkbgddaaChs
import Derived.Test.YtbeppkokkbgddaaRegion
namespace Go.Proofs.Ytbeppkokkbgddaa
open Go.RowKit
set_option linter.unusedSimpArgs false
set_option linter.unusedVariables false

theorem wOf_len (l : List (Int × Bool)) : len (wOf l) = len l := by simp [wOf, len]
theorem sOf_len (l : List (Int × Bool)) : (sOf l).length = len l := by simp [sOf, len]
theorem wOf_wts (l : List (Int × Bool)) (h : ∀ i, 0 ≤ (rth l i).1 ∧ (rth l i).1 < 18446744073709551616) : Wts (wOf l) := fun i hi => by
  have hi2 : i < (wOf l).length := hi
  have hi' : i < l.length := by rw [← len_eq, ← wOf_len]; exact hi
  have h1 := h i
  rw [rth_eq l i hi'] at h1
  rw [nth_eq _ i hi2]
  simp only [wOf, List.getElem_map]
  omega
theorem rth_take (l : List (Int × Bool)) (k i : Nat) (h : ∀ i, 0 ≤ (rth l i).1 ∧ (rth l i).1 < 18446744073709551616) : 0 ≤ (rth (l.take k) i).1 ∧ (rth (l.take k) i).1 < 18446744073709551616 := by
  by_cases hi : i < (l.take k).length
  · have h1 := h i
    rw [rth_eq _ i hi, List.getElem_take, ← rth_eq l i (by rw [List.length_take] at hi; omega)]; exact h1
  · unfold rth; rw [List.getD_eq_getElem?_getD, List.getElem?_eq_none (by omega)]; decide
theorem nth_take (l : List Int) (k i : Nat) (h : ∀ i, 0 ≤ nth l i ∧ nth l i < 18446744073709551616) : 0 ≤ nth (l.take k) i ∧ nth (l.take k) i < 18446744073709551616 := by
  by_cases hi : i < (l.take k).length
  · have h1 := h i
    rw [nth_eq _ i hi, List.getElem_take, ← nth_eq l i (by rw [List.length_take] at hi; omega)]; exact h1
  · unfold nth; rw [List.getD_eq_getElem?_getD, List.getElem?_eq_none (by omega)]; decide
theorem nth_set (l : List Int) (k i : Nat) (x : Int) (hx : 0 ≤ x ∧ x < 18446744073709551616) (h : ∀ i, 0 ≤ nth l i ∧ nth l i < 18446744073709551616) : 0 ≤ nth (l.set k x) i ∧ nth (l.set k x) i < 18446744073709551616 := by
  have h1 := h i
  unfold nth at *
  rw [List.getD_eq_getElem?_getD] at *
  rw [List.getElem?_set]
  split
  · split
    · exact hx
    · decide
  · exact h1
theorem len_set (l : List Int) (k : Nat) (x : Int) : len (l.set k x) = len l := by simp [len]
/-- A number of an own row is put into its place. -/
theorem own_set {w : World} {base g cap m : Nat} {C : List Int} (h : w.ownsRow base 22 1 (.slice (some ⟨g, 0, none⟩) (len C) cap) (len C) (C.map (Value.int .u64))) (x : Int) :
    (w.setCell ⟨g, m, none⟩ (.int .u64 x)).ownsRow base 22 1 (.slice (some ⟨g, 0, none⟩) (len (C.set m x)) cap) (len (C.set m x)) ((C.set m x).map (Value.int .u64)) := by
  have h1 := (h.stored m (.int .u64 x)).1
  rw [len_set, List.map_set]; exact h1

set_option maxRecDepth 100000 in
set_option maxHeartbeats 8000000 in
theorem chooses_law (a0 b0 : Option Addr) (c0 d0 : Nat) (rows : List (Int × Bool)) (coins : List Int) (n0 n1 n2 : Int) (w : World) (hr : RowsB w a0 rows) (hrl : len rows ≤ 9223372036854775807) (hrr : ∀ i, 0 ≤ (rth rows i).1 ∧ (rth rows i).1 < 18446744073709551616)
    (hc : U64s w b0 coins) (hcl : len coins ≤ d0) (hcm : d0 ≤ 9223372036854775807) (hcn : b0 = none → d0 = 0) (hcr : ∀ i, 0 ≤ nth coins i ∧ nth coins i < 18446744073709551616)
    (b1 : 0 ≤ n0) (b2 : n0 ≤ 18446744073709551615) (b3 : 0 ≤ n1) (b4 : n1 ≤ 18446744073709551615) :
    Calls Try.prog 8 #[.slice a0 (len rows) c0, .slice b0 (len coins) d0, .agg #[.int .u64 n0, .int .u64 n1, .int .u64 n2]] w fun e w' => e = .returned (.bool true) ∧ Below w.heap.size w w' := by
  have HR := Lib.hid hr
  have HRR := Lib.hid hrr
  have HC := Lib.hid hc
  have HCN := Lib.hid hcn
  have HCR := Lib.hid hcr
  clear hr hrr hc hcn hcr
  go_enter Try.func8, Try.ntmps8
  go_wp2_with fail
  obtain ⟨V0, hV0⟩ : ∃ V0, w.alloc (.cells #[.int .u64 n0, .int .u64 n1, .int .u64 n2] 40) = V0 := ⟨_, rfl⟩
  have VB0 : Hid (Below w.heap.size w V0) := Lib.hid (by rw [← hV0]; exact balloc (Below.refl _ _) _)
  have VK0 : Hid (V0.heap[w.heap.size]? = some (.cells #[.int .u64 n0, .int .u64 n1, .int .u64 n2] 40 (0, 0))) := Lib.hid (by rw [← hV0]; exact heap_alloc_new _ _)
  try rw [hV0]
  clear hV0
  refine (split_any a0 c0 rows V0 (HR.out.below VB0.out) hrl HRR.out).mono ?_
  rintro e w1 ⟨v1, v2, rfl, o1, o2, hb⟩
  have hRT : ∀ i, 0 ≤ (rth (rows.take 300) i).1 ∧ (rth (rows.take 300) i).1 < 18446744073709551616 := fun i => rth_take rows 300 i HRR.out
  obtain ⟨R3, hR3⟩ : ∃ R3, rows.take 300 = R3 := ⟨_, rfl⟩
  have hn300 : len R3 ≤ 300 := by rw [← hR3, len_eq, List.length_take]; omega
  rw [hR3] at o1 o2 hRT
  have hWt := wOf_wts R3 hRT
  have hWn := wOf_len R3
  have hSn := sOf_len R3
  obtain ⟨wa, wc, rfl, u1, _⟩ := own_u64n o1
  obtain ⟨sa, sc, rfl, u2, _⟩ := own_bls o2
  obtain ⟨Ws, hWs⟩ : ∃ Ws, wOf R3 = Ws := ⟨_, rfl⟩
  obtain ⟨Ss, hSs⟩ : ∃ Ss, sOf R3 = Ss := ⟨_, rfl⟩
  rw [hWs] at u1 hWt hWn ⊢
  rw [hSs] at u2 hSn
  rw [← hWn] at hn300 hSn ⊢
  have U1 := Lib.hid u1
  have U2 := Lib.hid u2
  have HWT := Lib.hid hWt
  have HSN := Lib.hid hSn
  have VB1 : Hid (Below w.heap.size w w1) := Lib.hid (bnext VB0.out hb)
  have VK1 : Hid (w1.heap[w.heap.size]? = some (.cells #[.int .u64 n0, .int .u64 n1, .int .u64 n2] 40 (0, 0))) := Lib.hid ((hb.block _ (lt_of_block VK0.out)).trans VK0.out)
  have HC1 := Lib.hid (HC.out.below VB1.out)
  clear o1 o2 hRT hR3 hWt hWn hSn hWs hSs u1 u2 hb VB0 VK0 HR HRR HC
  have hnew := new_any wa sa wc sc Ws Ss w1 U1.out U2.out HSN.out (by omega) HWT.out
  rw [HSN.out] at hnew
  have HNEW := Lib.hid hnew
  clear hnew
  go_wp2_with fail
  refine HNEW.out.mono ?_
  clear HNEW
  rintro e w2 h
  have hb2 : Below w1.heap.size w1 w2 := by
    rcases h with ⟨_, _, hb⟩ | ⟨_, B, _, _, _, hb⟩ <;> exact hb
  have HN := Lib.hid h
  have VB2 : Hid (Below w.heap.size w w2) := Lib.hid (bnext VB1.out hb2)
  have VK2 : Hid (w2.heap[w.heap.size]? = some (.cells #[.int .u64 n0, .int .u64 n1, .int .u64 n2] 40 (0, 0))) := Lib.hid ((hb2.block _ (lt_of_block VK1.out)).trans VK1.out)
  have HC2 := Lib.hid (HC1.out.below hb2)
  have U12 := Lib.hid (U1.out.below hb2)
  have U22 := Lib.hid (U2.out.below hb2)
  clear h hb2 VB1 VK1 HC1 U1 U2
  rcases HN.out with ⟨⟨k, hk, hk2⟩, rfl, -⟩ | ⟨hsm, B, rfl, -, hlay, -⟩
  · go_wp2_with fail
    refine (rnew_any wa sa wc sc Ws Ss w2 U12.out U22.out HSN.out (by omega) HWT.out).mono ?_
    rintro e w3 h
    rcases h with ⟨-, rfl, hb⟩ | ⟨hall, -⟩
    · have VB3 : Hid (Below w.heap.size w w3) := Lib.hid (bnext VB2.out hb)
      clear hb
      go_wp2_with fail
      refine (works20_any w3).mono ?_
      rintro e w4 ⟨rfl, hb⟩
      have VB4 : Hid (Below w.heap.size w w4) := Lib.hid (bnext VB3.out hb)
      go_wp2
      go_ret
      exact ⟨rfl, VB4.out⟩
    · exact absurd (hall k hk) (by omega)
  · have HSM := Lib.hid hsm
    have HLAY := Lib.hid hlay
    clear hsm hlay HN
    go_wp2_with fail
    refine (rnew_any wa sa wc sc Ws Ss w2 U12.out U22.out HSN.out (by omega) HWT.out).mono ?_
    rintro e w3 h
    rcases h with ⟨⟨k, hk, hk2⟩, -, -⟩ | ⟨-, B2, rfl, hlay2, hb⟩
    · exact absurd (HSM.out k hk) (by omega)
    have LA := Lib.hid (HLAY.out.below hb)
    have LB := Lib.hid hlay2
    have VB3 : Hid (Below w.heap.size w w3) := Lib.hid (bnext VB2.out hb)
    have VK3 : Hid (w3.heap[w.heap.size]? = some (.cells #[.int .u64 n0, .int .u64 n1, .int .u64 n2] 40 (0, 0))) := Lib.hid ((hb.block _ (lt_of_block VK2.out)).trans VK2.out)
    have HC3 := Lib.hid (HC2.out.below hb)
    clear hb hlay2 HLAY VB2 VK2 HC2 U12 U22
    obtain ⟨E, hE⟩ : ∃ E, endK Ws Ss (len Ws) = E := ⟨_, rfl⟩
    obtain ⟨W, hW⟩ : ∃ W, whoK Ss (len Ws) = W := ⟨_, rfl⟩
    have HEW : Hid (len W = len E) := Lib.hid (by rw [← hE, ← hW]; exact who_end Ws Ss _)
    have HEN : Hid (len E ≤ 1000000) := Lib.hid (by rw [← hE]; exact Nat.le_trans (end_len Ws Ss _) (by omega))
    have HEU : Hid (Ups E) := Lib.hid (by rw [← hE]; exact ups_of (ends_up HWT.out Ss _ (Nat.le_refl _)))
    have HE := Lib.hid hE
    have HW := Lib.hid hW
    have LA3 : Hid (LayB w3 B E W (allK Ws Ss (len Ws))) := Lib.hid (by rw [← hE, ← hW]; exact LA.out)
    have RT : Hid (∀ W', Below w3.heap.size w3 W' → Calls Try.prog 30 #[.pointer (some ⟨B2, 0, none⟩)] W' fun e w' => e = .returned (.int .u64 (smK Ws Ss (len Ws))) ∧ W' = w') := Lib.hid (fun W' hb => rtotal_any B2 Ws Ss W' (LB.out.below hb) HSN.out HWT.out (by omega) (HSM.out _ (Nat.le_refl _)))
    have hT0 := smK_nonneg HWT.out Ss (len Ws) (Nat.le_refl _)
    have hT1 := HSM.out (len Ws) (Nat.le_refl _)
    obtain ⟨T, hT⟩ : ∃ T, smK Ws Ss (len Ws) = T := ⟨_, rfl⟩
    rw [hT] at RT hT0 hT1
    clear hE hW hT LA
    obtain ⟨C0, hC0⟩ : ∃ C0, coins.take 700 = C0 := ⟨_, rfl⟩
    have hkl : len C0 = min (len coins) 700 := by rw [← hC0, len_eq, List.length_take]; have : coins.length = len coins := rfl; omega
    have mm : min ((len coins : Nat) : Int) 700 = (len C0 : Int) := by omega
    have h700 : len C0 ≤ 700 := by omega
    have hCd : len C0 ≤ d0 := by omega
    have i1 : (len C0 : Int) ≤ d0 := by omega
    have HCW0 : Hid (∀ i, 0 ≤ nth C0 i ∧ nth C0 i < 18446744073709551616) := Lib.hid (fun i => by rw [← hC0]; exact nth_take coins 700 i HCR.out)
    have HU0 : Hid (U64s w3 b0 C0) := Lib.hid (by rw [← hC0]; exact u64s_take HC3.out 700)
    clear hC0 hkl HC3 HCR
    have E0 : Hid ((w3.alloc (.cells #[] 22)).ownsRow w3.heap.size 22 1 (.slice (some ⟨w3.heap.size, 0, none⟩) 0 0) (len ([] : List Int)) (([] : List Int).map (Value.int .u64))) := Lib.hid (World.ownsRow_lit w3 #[] 0 (Nat.le_refl _) (Nat.zero_le _) rfl)
    have hsl : ∀ W, (Instr.slice 28 (.slice b0 (len coins) d0) none (some (.int .i64 (len C0 : Int))) none).run Try.prog W = .ok (.slice b0 (len C0) d0) W := fun W => slice_to b0 (by omega) W
    go_wp2_with (at_builtin; refine wpList_append_u64s rfl _ _ rfl w3.heap.size _ [] C0 b0 d0 rfl E0.out rfl (HU0.out.below (balloc (Below.refl _ _) _)) HCN.out (show 0 + len C0 ≤ 100000 by omega) (by simp) ?_)
    intro cv w4 hown hgrow
    have VB4 : Hid (Below w3.heap.size w3 w4) := Lib.hid (grownBy_below (balloc (Below.refl _ _) _) hgrow (fun k hk => by simp [Value.ownBlock] at hk; omega))
    have HOW0 : Hid (w4.ownsRow w3.heap.size 22 1 cv (len C0) (C0.map (Value.int .u64))) := Lib.hid hown
    clear hown hgrow hsl E0 mm i1
    have k0 : w4.cell? ⟨w.heap.size, 0, none⟩ = some (.int .u64 n0) := by
      rw [VB4.out.cell (p := ⟨w.heap.size, 0, none⟩) (lt_of_block VK3.out)]; exact block_cell VK3.out 0
    obtain ⟨whole, hwh⟩ : ∃ b : Bool, decide (0 < n0 % 3) = b := ⟨_, rfl⟩
    obtain ⟨ca, cc, rfl, hcu⟩ := own_u64s HOW0.out
    obtain ⟨K, hK⟩ : ∃ K, len C0 = K := ⟨_, rfl⟩
    have HK0 := Lib.hid hK
    rw [hK] at HOW0 h700
    rw [hK]
    clear hcu hK hCd
    have HWH := Lib.hid hwh
    go_wp2
    clear k0
    go_loopg [15] K (fun g i wr => ∃ m : Nat, ∃ C : List Int, g + m = K ∧ i = .int .i64 m ∧ Hid (len C = K) ∧ Hid (Below w3.heap.size w3 wr) ∧ Hid (wr.ownsRow w3.heap.size 22 1 (.slice ca K cc) K (C.map (Value.int .u64))) ∧ Hid (∀ i, 0 ≤ nth C i ∧ nth C i < 18446744073709551616))
    case atStart => exact ⟨0, C0, rfl, rfl, HK0.out, VB4.out, HOW0.out, HCW0.out⟩
    case round =>
      clear HCW0 HK0 VB4 HOW0
      obtain ⟨m, C, hm, rfl, HK, HB, HO, HRG⟩ := hrel
      by_cases hlt : m < K
      · have hform : ∃ g1 : Nat, ca = some ⟨g1, 0, none⟩ := by
          rcases HO.out.2 with ⟨h, h0⟩ | ⟨g1, cap, cur, h, _⟩
          · omega
          · injection h with e1 e2 e3; exact ⟨g1, e1⟩
        obtain ⟨g1, rfl⟩ := hform
        obtain ⟨x, hx⟩ : ∃ x, nth C m = x := ⟨_, rfl⟩
        have HX := Lib.hid hx
        have cm : wr.cell? ⟨g1, m, none⟩ = some (.int .u64 x) := by
          rw [HO.out.cellAt m (by omega), List.getElem?_map, List.getElem?_eq_getElem (show m < C.length by have := HK.out; rw [len_eq] at this; omega), ← nth_eq, hx]; rfl
        have hx0 := HRG.out m
        rw [hx] at hx0
        clear hx
        by_cases hT : 0 < T
        · have t0 : decide (0 < T) = true := decide_eq_true hT
          cases whole with
          | true =>
            have hwh := HWH.out
            have z0 : ¬ T = 0 := by omega
            have t1 : x.tmod T = x % T := Int.tmod_eq_emod_of_nonneg hx0.1
            have i1 : (m : Int) < K := by omega
            go_upto_region 14 with (go_at_call 30; refine (RT.out _ HB.out).mono ?_; rintro e w5 ⟨rfl, rfl⟩)
            --REGION sextant/sextantlaw20.RevealChooses 14 ch14
            refine wp_region_tail 10 1000 (none) (phis [fun u _ => u = (.slice (some ⟨g1, 0, none⟩) K cc), fun u _ => u = (.int .i64 m), fun u _ => u = (.slice (some ⟨g1, 0, none⟩) K cc), fun u _ => u = (.int .i64 m), fun u _ => u = (.pointer (some ⟨g1, m, none⟩)), fun u _ => u = (.int .u64 x), fun u _ => u = (.pointer (some ⟨B2, 0, none⟩)), fun u _ => u = (.int .u64 T), fun u _ => u = (.int .u64 (x % T)), fun u _ => u = (.pointer (some ⟨g1, m, none⟩))]) rfl (by kernel_rfl) (by kernel_rfl) (mono_of ⟨mono_eq, mono_eq, mono_eq, mono_eq, mono_eq, mono_eq, mono_eq, mono_eq, mono_eq, mono_eq, trivial⟩) (steps_of 10 ⟨?s0, ?s1, ?s2, ?s3, ?s4, ?s5, ?s6, ?s7, ?s8, ?s9, trivial⟩) ?_
            case s0 =>
              refine step_val (v := (.slice (some ⟨g1, 0, none⟩) K cc)) (fun av wv hE hS hO hD => ?_) (fun _ => rfl)
              have h13 : av.eval (.tmp 13) = (.slice (some ⟨g1, 0, none⟩) K cc) := hO.2.2 13 rfl
              have f13 := (ev_form av 13).symm.trans h13
              refine ⟨rfl, ?_⟩
              simp [go_sem, f13, t0, t1, i1, z0]
            case s1 =>
              refine step_val (v := (.int .i64 m)) (fun av wv hE hS hO hD => ?_) (fun _ => rfl)
              have h15 : av.eval (.tmp 15) = (.int .i64 m) := hO.2.2 15 rfl
              have f15 := (ev_form av 15).symm.trans h15
              refine ⟨rfl, ?_⟩
              simp [go_sem, f15, t0, t1, i1, z0]
            case s2 =>
              refine step_val (v := (.slice (some ⟨g1, 0, none⟩) K cc)) (fun av wv hE hS hO hD => ?_) (fun _ => rfl)
              have h13 : av.eval (.tmp 13) = (.slice (some ⟨g1, 0, none⟩) K cc) := hO.2.2 13 rfl
              have f13 := (ev_form av 13).symm.trans h13
              refine ⟨rfl, ?_⟩
              simp [go_sem, f13, t0, t1, i1, z0]
            case s3 =>
              refine step_val (v := (.int .i64 m)) (fun av wv hE hS hO hD => ?_) (fun _ => rfl)
              have h15 : av.eval (.tmp 15) = (.int .i64 m) := hO.2.2 15 rfl
              have f15 := (ev_form av 15).symm.trans h15
              refine ⟨rfl, ?_⟩
              simp [go_sem, f15, t0, t1, i1, z0]
            case s4 =>
              refine step_val (v := (.pointer (some ⟨g1, m, none⟩))) (fun av wv hE hS hO hD => ?_) (fun _ => rfl)
              have d75 : av.eval (.tmp 75) = (.slice (some ⟨g1, 0, none⟩) K cc) := hD.1 rfl _ rfl
              have f75 := (ev_form av 75).symm.trans d75
              have d76 : av.eval (.tmp 76) = (.int .i64 m) := hD.2.1 rfl _ rfl
              have f76 := (ev_form av 76).symm.trans d76
              refine ⟨rfl, ?_⟩
              simp [go_sem, f75, f76, t0, t1, i1, z0]
            case s5 =>
              refine step_val (v := (.int .u64 x)) (fun av wv hE hS hO hD => ?_) (fun _ => rfl)
              have d77 : av.eval (.tmp 77) = (.pointer (some ⟨g1, m, none⟩)) := hD.1 rfl _ rfl
              have f77 := (ev_form av 77).symm.trans d77
              have cm := extB_cell hE (by simp) cm
              refine ⟨rfl, ?_⟩
              simp [go_sem, f77, cm, t0, t1, i1, z0]
            case s6 =>
              refine step_val (v := (.pointer (some ⟨B2, 0, none⟩))) (fun av wv hE hS hO hD => ?_) (fun _ => rfl)
              have h11 : av.eval (.tmp 11) = (.pointer (some ⟨B2, 0, none⟩)) := hO.2.2 11 rfl
              have f11 := (ev_form av 11).symm.trans h11
              refine ⟨rfl, ?_⟩
              simp [go_sem, f11, t0, t1, i1, z0]
            case s7 =>
              refine step_wp (fun av wv hE hS hO hD => ?_)
              have d79 : av.eval (.tmp 79) = (.pointer (some ⟨B2, 0, none⟩)) := hD.1 rfl _ rfl
              have f79 := (ev_form av 79).symm.trans d79
              refine ⟨rfl, ?_⟩
              refine wp_of_call (v := (.int .u64 T)) (by simp [go_sem, f79, t0, t1, i1, z0]) ((RT.out wv (bnext HB.out (of_drew hE))).mono (fun e w' h => ⟨h.1, h.2 ▸ Below.refl _ _⟩)) (fun w2 hb => ⟨_, rfl, es_of_ext hb, rfl⟩)
            case s8 =>
              refine step_val (v := (.int .u64 (x % T))) (fun av wv hE hS hO hD => ?_) (fun _ => rfl)
              have d78 : av.eval (.tmp 78) = (.int .u64 x) := hD.1 rfl _ rfl
              have f78 := (ev_form av 78).symm.trans d78
              have d80 : av.eval (.tmp 80) = (.int .u64 T) := hD.2.1 rfl _ rfl
              have f80 := (ev_form av 80).symm.trans d80
              refine ⟨rfl, ?_⟩
              simp [go_sem, f78, f80, t0, t1, i1, z0]
            case s9 =>
              refine step_val (v := (.pointer (some ⟨g1, m, none⟩))) (fun av wv hE hS hO hD => ?_) (fun _ => rfl)
              have d73 : av.eval (.tmp 73) = (.slice (some ⟨g1, 0, none⟩) K cc) := hD.1 rfl _ rfl
              have f73 := (ev_form av 73).symm.trans d73
              have d74 : av.eval (.tmp 74) = (.int .i64 m) := hD.2.1 rfl _ rfl
              have f74 := (ev_form av 74).symm.trans d74
              refine ⟨rfl, ?_⟩
              simp [go_sem, f73, f74, t0, t1, i1, z0]
            intro a' w' hE hO hall
            have hA := act_of_outer (ds := [73, 74, 75, 76, 77, 78, 79, 80, 81, 82]) rfl hO (by kernel_rfl)
            have e73 : (fun u _ => u = (.slice (some ⟨g1, 0, none⟩) K cc)) (a'.eval (.tmp 73)) w' := hall.1 _ rfl
            have e74 : (fun u _ => u = (.int .i64 m)) (a'.eval (.tmp 74)) w' := hall.2.1 _ rfl
            have e75 : (fun u _ => u = (.slice (some ⟨g1, 0, none⟩) K cc)) (a'.eval (.tmp 75)) w' := hall.2.2.1 _ rfl
            have e76 : (fun u _ => u = (.int .i64 m)) (a'.eval (.tmp 76)) w' := hall.2.2.2.1 _ rfl
            have e77 : (fun u _ => u = (.pointer (some ⟨g1, m, none⟩))) (a'.eval (.tmp 77)) w' := hall.2.2.2.2.1 _ rfl
            have e78 : (fun u _ => u = (.int .u64 x)) (a'.eval (.tmp 78)) w' := hall.2.2.2.2.2.1 _ rfl
            have e79 : (fun u _ => u = (.pointer (some ⟨B2, 0, none⟩))) (a'.eval (.tmp 79)) w' := hall.2.2.2.2.2.2.1 _ rfl
            have e80 : (fun u _ => u = (.int .u64 T)) (a'.eval (.tmp 80)) w' := hall.2.2.2.2.2.2.2.1 _ rfl
            have e81 : (fun u _ => u = (.int .u64 (x % T))) (a'.eval (.tmp 81)) w' := hall.2.2.2.2.2.2.2.2.1 _ rfl
            have e82 : (fun u _ => u = (.pointer (some ⟨g1, m, none⟩))) (a'.eval (.tmp 82)) w' := hall.2.2.2.2.2.2.2.2.2.1 _ rfl
            simp only [List.foldl_cons, List.foldl_nil, Act.put, List.setIfInBounds_toArray, List.set_cons_succ, List.set_cons_zero, e73, e74, e75, e76, e77, e78, e79, e80, e81, e82] at hA
            clear hO hall e73 e74 e75 e76 e77 e78 e79 e80 e81 e82
            subst hA
            --ENDREGION
            have VB5 : Hid (Below w3.heap.size w3 w') := Lib.hid (bnext HB.out (of_drew hE))
            have OW5 : Hid (w'.ownsRow w3.heap.size 22 1 (.slice (some ⟨g1, 0, none⟩) (len C) cc) (len C) (C.map (Value.int .u64))) := Lib.hid (own_below (by rw [HK.out]; exact HO.out) (of_drew hE))
            have c5 := (own_below HO.out (of_drew hE)).cellAt m (by omega)
            have c6 : w'.cell? ⟨g1, m, none⟩ = some (.int .u64 x) := by
              rw [c5, List.getElem?_map, List.getElem?_eq_getElem (show m < C.length by have := HK.out; rw [len_eq] at this; omega), ← nth_eq]
              rw [HX.out]; rfl
            have f5 := (own_below HO.out (of_drew hE)).frozenAt m
            have HS5 := Lib.hid (own_set (m := m) OW5.out (x % T))
            have HB5 : Hid (Below w3.heap.size w3 (w'.setCell ⟨g1, m, none⟩ (.int .u64 (x % T)))) := Lib.hid (bset VB5.out (HO.out.lt g1 rfl).1 _)
            have HR5 : Hid (∀ i, 0 ≤ nth (C.set m (x % T)) i ∧ nth (C.set m (x % T)) i < 18446744073709551616) := Lib.hid (fun i => nth_set C m i _ ⟨Int.emod_nonneg _ (by omega), by have := Int.emod_lt_of_pos x (show 0 < T by omega); omega⟩ HRG.out)
            clear c5 hE VB5 OW5
            go_wp2
            go_roundg (K - (m + 1))
            case rel => exact ⟨m + 1, C.set m (x % T), by omega, by go_num, by rw [len_set]; exact HK.out, HB5.out, by have h := HS5.out; rw [len_set, HK.out] at h; exact h, HR5.out⟩
            case measure => omega
          | false =>
            have hwh := HWH.out
            by_cases hodd : m % 2 = 1
            · have e1 : ((m : Int).tmod 2 == 1) = true := by rw [Int.tmod_eq_emod_of_nonneg (by omega)]; simp; omega
              have e2 : ((m : Int) % 2 == 1) = true := by simp; omega
              clear hodd
              have z0 : ¬ T = 0 := by omega
              have t1 : x.tmod T = x % T := Int.tmod_eq_emod_of_nonneg hx0.1
              have i1 : (m : Int) < K := by omega
              go_upto_region 14 with (go_at_call 30; refine (RT.out _ HB.out).mono ?_; rintro e w5 ⟨rfl, rfl⟩)
              --REGION sextant/sextantlaw20.RevealChooses 14 ch14
              refine wp_region_tail 10 1000 (none) (phis [fun u _ => u = (.slice (some ⟨g1, 0, none⟩) K cc), fun u _ => u = (.int .i64 m), fun u _ => u = (.slice (some ⟨g1, 0, none⟩) K cc), fun u _ => u = (.int .i64 m), fun u _ => u = (.pointer (some ⟨g1, m, none⟩)), fun u _ => u = (.int .u64 x), fun u _ => u = (.pointer (some ⟨B2, 0, none⟩)), fun u _ => u = (.int .u64 T), fun u _ => u = (.int .u64 (x % T)), fun u _ => u = (.pointer (some ⟨g1, m, none⟩))]) rfl (by kernel_rfl) (by kernel_rfl) (mono_of ⟨mono_eq, mono_eq, mono_eq, mono_eq, mono_eq, mono_eq, mono_eq, mono_eq, mono_eq, mono_eq, trivial⟩) (steps_of 10 ⟨?s0, ?s1, ?s2, ?s3, ?s4, ?s5, ?s6, ?s7, ?s8, ?s9, trivial⟩) ?_
              case s0 =>
                refine step_val (v := (.slice (some ⟨g1, 0, none⟩) K cc)) (fun av wv hE hS hO hD => ?_) (fun _ => rfl)
                have h13 : av.eval (.tmp 13) = (.slice (some ⟨g1, 0, none⟩) K cc) := hO.2.2 13 rfl
                have f13 := (ev_form av 13).symm.trans h13
                refine ⟨rfl, ?_⟩
                simp [go_sem, f13, t0, t1, i1, z0]
              case s1 =>
                refine step_val (v := (.int .i64 m)) (fun av wv hE hS hO hD => ?_) (fun _ => rfl)
                have h15 : av.eval (.tmp 15) = (.int .i64 m) := hO.2.2 15 rfl
                have f15 := (ev_form av 15).symm.trans h15
                refine ⟨rfl, ?_⟩
                simp [go_sem, f15, t0, t1, i1, z0]
              case s2 =>
                refine step_val (v := (.slice (some ⟨g1, 0, none⟩) K cc)) (fun av wv hE hS hO hD => ?_) (fun _ => rfl)
                have h13 : av.eval (.tmp 13) = (.slice (some ⟨g1, 0, none⟩) K cc) := hO.2.2 13 rfl
                have f13 := (ev_form av 13).symm.trans h13
                refine ⟨rfl, ?_⟩
                simp [go_sem, f13, t0, t1, i1, z0]
              case s3 =>
                refine step_val (v := (.int .i64 m)) (fun av wv hE hS hO hD => ?_) (fun _ => rfl)
                have h15 : av.eval (.tmp 15) = (.int .i64 m) := hO.2.2 15 rfl
                have f15 := (ev_form av 15).symm.trans h15
                refine ⟨rfl, ?_⟩
                simp [go_sem, f15, t0, t1, i1, z0]
              case s4 =>
                refine step_val (v := (.pointer (some ⟨g1, m, none⟩))) (fun av wv hE hS hO hD => ?_) (fun _ => rfl)
                have d75 : av.eval (.tmp 75) = (.slice (some ⟨g1, 0, none⟩) K cc) := hD.1 rfl _ rfl
                have f75 := (ev_form av 75).symm.trans d75
                have d76 : av.eval (.tmp 76) = (.int .i64 m) := hD.2.1 rfl _ rfl
                have f76 := (ev_form av 76).symm.trans d76
                refine ⟨rfl, ?_⟩
                simp [go_sem, f75, f76, t0, t1, i1, z0]
              case s5 =>
                refine step_val (v := (.int .u64 x)) (fun av wv hE hS hO hD => ?_) (fun _ => rfl)
                have d77 : av.eval (.tmp 77) = (.pointer (some ⟨g1, m, none⟩)) := hD.1 rfl _ rfl
                have f77 := (ev_form av 77).symm.trans d77
                have cm := extB_cell hE (by simp) cm
                refine ⟨rfl, ?_⟩
                simp [go_sem, f77, cm, t0, t1, i1, z0]
              case s6 =>
                refine step_val (v := (.pointer (some ⟨B2, 0, none⟩))) (fun av wv hE hS hO hD => ?_) (fun _ => rfl)
                have h11 : av.eval (.tmp 11) = (.pointer (some ⟨B2, 0, none⟩)) := hO.2.2 11 rfl
                have f11 := (ev_form av 11).symm.trans h11
                refine ⟨rfl, ?_⟩
                simp [go_sem, f11, t0, t1, i1, z0]
              case s7 =>
                refine step_wp (fun av wv hE hS hO hD => ?_)
                have d79 : av.eval (.tmp 79) = (.pointer (some ⟨B2, 0, none⟩)) := hD.1 rfl _ rfl
                have f79 := (ev_form av 79).symm.trans d79
                refine ⟨rfl, ?_⟩
                refine wp_of_call (v := (.int .u64 T)) (by simp [go_sem, f79, t0, t1, i1, z0]) ((RT.out wv (bnext HB.out (of_drew hE))).mono (fun e w' h => ⟨h.1, h.2 ▸ Below.refl _ _⟩)) (fun w2 hb => ⟨_, rfl, es_of_ext hb, rfl⟩)
              case s8 =>
                refine step_val (v := (.int .u64 (x % T))) (fun av wv hE hS hO hD => ?_) (fun _ => rfl)
                have d78 : av.eval (.tmp 78) = (.int .u64 x) := hD.1 rfl _ rfl
                have f78 := (ev_form av 78).symm.trans d78
                have d80 : av.eval (.tmp 80) = (.int .u64 T) := hD.2.1 rfl _ rfl
                have f80 := (ev_form av 80).symm.trans d80
                refine ⟨rfl, ?_⟩
                simp [go_sem, f78, f80, t0, t1, i1, z0]
              case s9 =>
                refine step_val (v := (.pointer (some ⟨g1, m, none⟩))) (fun av wv hE hS hO hD => ?_) (fun _ => rfl)
                have d73 : av.eval (.tmp 73) = (.slice (some ⟨g1, 0, none⟩) K cc) := hD.1 rfl _ rfl
                have f73 := (ev_form av 73).symm.trans d73
                have d74 : av.eval (.tmp 74) = (.int .i64 m) := hD.2.1 rfl _ rfl
                have f74 := (ev_form av 74).symm.trans d74
                refine ⟨rfl, ?_⟩
                simp [go_sem, f73, f74, t0, t1, i1, z0]
              intro a' w' hE hO hall
              have hA := act_of_outer (ds := [73, 74, 75, 76, 77, 78, 79, 80, 81, 82]) rfl hO (by kernel_rfl)
              have e73 : (fun u _ => u = (.slice (some ⟨g1, 0, none⟩) K cc)) (a'.eval (.tmp 73)) w' := hall.1 _ rfl
              have e74 : (fun u _ => u = (.int .i64 m)) (a'.eval (.tmp 74)) w' := hall.2.1 _ rfl
              have e75 : (fun u _ => u = (.slice (some ⟨g1, 0, none⟩) K cc)) (a'.eval (.tmp 75)) w' := hall.2.2.1 _ rfl
              have e76 : (fun u _ => u = (.int .i64 m)) (a'.eval (.tmp 76)) w' := hall.2.2.2.1 _ rfl
              have e77 : (fun u _ => u = (.pointer (some ⟨g1, m, none⟩))) (a'.eval (.tmp 77)) w' := hall.2.2.2.2.1 _ rfl
              have e78 : (fun u _ => u = (.int .u64 x)) (a'.eval (.tmp 78)) w' := hall.2.2.2.2.2.1 _ rfl
              have e79 : (fun u _ => u = (.pointer (some ⟨B2, 0, none⟩))) (a'.eval (.tmp 79)) w' := hall.2.2.2.2.2.2.1 _ rfl
              have e80 : (fun u _ => u = (.int .u64 T)) (a'.eval (.tmp 80)) w' := hall.2.2.2.2.2.2.2.1 _ rfl
              have e81 : (fun u _ => u = (.int .u64 (x % T))) (a'.eval (.tmp 81)) w' := hall.2.2.2.2.2.2.2.2.1 _ rfl
              have e82 : (fun u _ => u = (.pointer (some ⟨g1, m, none⟩))) (a'.eval (.tmp 82)) w' := hall.2.2.2.2.2.2.2.2.2.1 _ rfl
              simp only [List.foldl_cons, List.foldl_nil, Act.put, List.setIfInBounds_toArray, List.set_cons_succ, List.set_cons_zero, e73, e74, e75, e76, e77, e78, e79, e80, e81, e82] at hA
              clear hO hall e73 e74 e75 e76 e77 e78 e79 e80 e81 e82
              subst hA
              --ENDREGION
              have VB5 : Hid (Below w3.heap.size w3 w') := Lib.hid (bnext HB.out (of_drew hE))
              have OW5 : Hid (w'.ownsRow w3.heap.size 22 1 (.slice (some ⟨g1, 0, none⟩) (len C) cc) (len C) (C.map (Value.int .u64))) := Lib.hid (own_below (by rw [HK.out]; exact HO.out) (of_drew hE))
              have c5 := (own_below HO.out (of_drew hE)).cellAt m (by omega)
              have c6 : w'.cell? ⟨g1, m, none⟩ = some (.int .u64 x) := by
                rw [c5, List.getElem?_map, List.getElem?_eq_getElem (show m < C.length by have := HK.out; rw [len_eq] at this; omega), ← nth_eq]
                rw [HX.out]; rfl
              have f5 := (own_below HO.out (of_drew hE)).frozenAt m
              have HS5 := Lib.hid (own_set (m := m) OW5.out (x % T))
              have HB5 : Hid (Below w3.heap.size w3 (w'.setCell ⟨g1, m, none⟩ (.int .u64 (x % T)))) := Lib.hid (bset VB5.out (HO.out.lt g1 rfl).1 _)
              have HR5 : Hid (∀ i, 0 ≤ nth (C.set m (x % T)) i ∧ nth (C.set m (x % T)) i < 18446744073709551616) := Lib.hid (fun i => nth_set C m i _ ⟨Int.emod_nonneg _ (by omega), by have := Int.emod_lt_of_pos x (show 0 < T by omega); omega⟩ HRG.out)
              clear c5 hE VB5 OW5
              go_wp2
              go_roundg (K - (m + 1))
              case rel => exact ⟨m + 1, C.set m (x % T), by omega, by go_num, by rw [len_set]; exact HK.out, HB5.out, by have h := HS5.out; rw [len_set, HK.out] at h; exact h, HR5.out⟩
              case measure => omega
            · have e1 : ((m : Int).tmod 2 == 1) = false := by rw [Int.tmod_eq_emod_of_nonneg (by omega)]; simp; omega
              have e2 : ((m : Int) % 2 == 1) = false := by simp; omega
              have i1 : (m : Int) < K := by omega
              clear hodd
              go_wp2_with (go_at_call 30; refine (RT.out _ HB.out).mono ?_; rintro e w5 ⟨rfl, rfl⟩)
              go_roundg (K - (m + 1))
              case rel => exact ⟨m + 1, C, by omega, by go_num, HK.out, HB.out, HO.out, HRG.out⟩
              case measure => omega
        · have t0 : decide (0 < T) = false := decide_eq_false hT
          have i1 : (m : Int) < K := by omega
          go_wp2_with (go_at_call 30; refine (RT.out _ HB.out).mono ?_; rintro e w5 ⟨rfl, rfl⟩)
          go_roundg (K - (m + 1))
          case rel => exact ⟨m + 1, C, by omega, by go_num, HK.out, HB.out, HO.out, HRG.out⟩
          case measure => omega
      · obtain rfl : m = K := by omega
        have i1 : ¬ (m : Int) < m := by omega
        have VBK : Hid (Below w3.heap.size w3 wr) := HB
        obtain ⟨ca2, cc2, he2, hcu, _⟩ := own_u64n (l := C) (by exact HO.out)
        rw [HK.out] at he2
        injection he2 with e1 e2 e3
        subst e1
        subst e3
        have HCU := Lib.hid hcu
        clear hcu e2
        by_cases h640 : m ≤ 640
        · obtain ⟨ps, rs, err, hpl, hrs, hcho⟩ := chO_any E W C
          rw [HK.out] at hpl hrs
          have hpl : len ps ≤ 100000 := by omega
          have hrs : len rs ≤ 100000 := by omega
          have HCA : Hid (Calls Try.prog 31 #[.pointer (some ⟨B, 0, none⟩), .slice ca m cc] wr (ChO ps rs err wr)) := Lib.hid (by
            have h := choose_any B E W _ C ca cc wr HCU.out (by rw [HK.out]; omega) (LA3.out.below VBK.out) HEW.out HEN.out HEU.out
            rw [HK.out] at h
            exact h.mono (hcho wr))
          have HCB : Hid (∀ w5, Below wr.heap.size wr w5 → Calls Try.prog 32 #[.pointer (some ⟨B2, 0, none⟩), .slice ca m cc] w5 (ChO ps rs err w5)) := Lib.hid (fun w5 hb => by
            have h := rchoose_any B2 Ws Ss C ca cc w5 (HCU.out.below hb) (by rw [HK.out]; omega) (LB.out.below (bnext VBK.out hb)) HSN.out HWT.out (by omega) HRG.out
            rw [HK.out, HE.out, HW.out] at h
            exact h.mono (hcho w5))
          clear hcho HO HCU HRG HK hm hlt
          go_wp2_with fail
          refine HCA.out.mono ?_
          rintro e w5 ⟨a1, c1, a2, c2, rfl, up1, ur1, -, -, hb5⟩
          have hbx := HCB.out w5 hb5
          have HCB5 := Lib.hid hbx
          have UP5 := Lib.hid up1
          have UR5 := Lib.hid ur1
          have VB5 : Hid (Below w3.heap.size w3 w5) := Lib.hid (bnext VBK.out hb5)
          clear up1 ur1 hb5 hbx HCA HCB
          go_wp2_with fail
          refine HCB5.out.mono ?_
          rintro e w6 ⟨a3, c3, a4, c4, rfl, up2, ur2, -, -, hb6⟩
          have UP1 := Lib.hid (UP5.out.below hb6)
          have UR1 := Lib.hid (UR5.out.below hb6)
          have UP2 := Lib.hid up2
          have UR2 := Lib.hid ur2
          have VB6 : Hid (Below w3.heap.size w3 w6) := Lib.hid (bnext VB5.out hb6)
          clear up2 ur2 hb6 UP5 UR5 HCB5
          have k0 : w6.cell? ⟨w.heap.size, 0, none⟩ = some (.int .u64 n0) := by
            rw [VB6.out.cell (p := ⟨w.heap.size, 0, none⟩) (lt_of_block VK3.out)]; exact block_cell VK3.out 0
          have k1 : w6.cell? ⟨w.heap.size, 1, none⟩ = some (.int .u64 n1) := by
            rw [VB6.out.cell (p := ⟨w.heap.size, 1, none⟩) (lt_of_block VK3.out)]; exact block_cell VK3.out 1
          have k2 : w6.cell? ⟨w.heap.size, 2, none⟩ = some (.int .u64 n2) := by
            rw [VB6.out.cell (p := ⟨w.heap.size, 2, none⟩) (lt_of_block VK3.out)]; exact block_cell VK3.out 2
          go_upto_region 17 with fail
          --REGION sextant/sextantlaw20.RevealChooses 17 ch17
          refine wp_region_tail 31 1000 (none) (phis [fun u _ => u = (.slice a1 (len ps) c1), fun u _ => u = (.slice a3 (len ps) c3), fun u _ => u = (.bool true), fun u _ => u = (.bool true), fun u _ => u = (.slice a2 (len rs) c2), fun u _ => u = (.slice a4 (len rs) c4), fun u _ => u = (.bool true), fun u _ => u = (.bool true), fun u _ => u = (.bool true), fun u _ => u = (.int .i64 err), fun u _ => u = (.int .i64 err), fun u _ => u = (.bool true), fun u _ => u = (.bool true), fun u _ => u = (.bool true), fun u _ => u = (.pointer (some ⟨w.heap.size, 0, none⟩)), fun u _ => u = (.int .u64 n0), fun u _ => u = (.pointer (some ⟨w.heap.size, 1, none⟩)), fun u _ => u = (.int .u64 n1), fun u _ => u = (.pointer (some ⟨w.heap.size, 2, none⟩)), fun u _ => u = (.int .u64 n2), fun u _ => u = (.bool (fallsB n0 n1 n2)), fun u _ => u = (.pointer (some ⟨w.heap.size, 0, none⟩)), fun u _ => u = (.int .u64 n0), fun u _ => u = (.pointer (some ⟨w.heap.size, 1, none⟩)), fun u _ => u = (.int .u64 n1), fun u _ => u = (.pointer (some ⟨w.heap.size, 2, none⟩)), fun u _ => u = (.int .u64 n2), fun u _ => u = (.bool (fallsB n0 n1 n2)), fun u _ => u = (.bool true), fun u _ => u = (.bool true), fun u _ => u = (.bool true)]) rfl (by kernel_rfl) (by kernel_rfl) (mono_of ⟨mono_eq, mono_eq, mono_eq, mono_eq, mono_eq, mono_eq, mono_eq, mono_eq, mono_eq, mono_eq, mono_eq, mono_eq, mono_eq, mono_eq, mono_eq, mono_eq, mono_eq, mono_eq, mono_eq, mono_eq, mono_eq, mono_eq, mono_eq, mono_eq, mono_eq, mono_eq, mono_eq, mono_eq, mono_eq, mono_eq, mono_eq, trivial⟩) (steps_of 31 ⟨?s0, ?s1, ?s2, ?s3, ?s4, ?s5, ?s6, ?s7, ?s8, ?s9, ?s10, ?s11, ?s12, ?s13, ?s14, ?s15, ?s16, ?s17, ?s18, ?s19, ?s20, ?s21, ?s22, ?s23, ?s24, ?s25, ?s26, ?s27, ?s28, ?s29, ?s30, trivial⟩) ?_
          case s0 =>
            refine step_val (v := (.slice a1 (len ps) c1)) (fun av wv hE hS hO hD => ?_) (fun _ => rfl)
            have h16 : av.eval (.tmp 16) = (.slice a1 (len ps) c1) := hO.2.2 16 rfl
            have f16 := (ev_form av 16).symm.trans h16
            refine ⟨rfl, ?_⟩
            simp [go_sem, f16]
          case s1 =>
            refine step_val (v := (.slice a3 (len ps) c3)) (fun av wv hE hS hO hD => ?_) (fun _ => rfl)
            have h19 : av.eval (.tmp 19) = (.slice a3 (len ps) c3) := hO.2.2 19 rfl
            have f19 := (ev_form av 19).symm.trans h19
            refine ⟨rfl, ?_⟩
            simp [go_sem, f19]
          case s2 =>
            refine step_wp (fun av wv hE hS hO hD => ?_)
            have d97 : av.eval (.tmp 97) = (.slice a1 (len ps) c1) := hD.1 rfl _ rfl
            have f97 := (ev_form av 97).symm.trans d97
            have d98 : av.eval (.tmp 98) = (.slice a3 (len ps) c3) := hD.2.1 rfl _ rfl
            have f98 := (ev_form av 98).symm.trans d98
            refine ⟨rfl, ?_⟩
            refine wp_of_call (v := (.bool true)) (by simp [go_sem, f97, f98]) (nums_same a1 a3 c1 c3 ps wv (UP1.out.below (of_drew hE)) (UP2.out.below (of_drew hE)) hpl) (fun w2 hb => ⟨_, rfl, es_of_ext hb, rfl⟩)
          case s3 =>
            refine step_val (v := (.bool true)) (fun av wv hE hS hO hD => ?_) (fun _ => rfl)
            have d99 : av.eval (.tmp 99) = (.bool true) := hD.1 rfl _ rfl
            have f99 := (ev_form av 99).symm.trans d99
            refine ⟨rfl, ?_⟩
            simp [go_sem, f99]
          case s4 =>
            refine step_val (v := (.slice a2 (len rs) c2)) (fun av wv hE hS hO hD => ?_) (fun _ => rfl)
            have h17 : av.eval (.tmp 17) = (.slice a2 (len rs) c2) := hO.2.2 17 rfl
            have f17 := (ev_form av 17).symm.trans h17
            have d100 : av.eval (.tmp 100) = (.bool true) := hD.1 rfl _ rfl
            have f100 := (ev_form av 100).symm.trans d100
            refine ⟨(wanted_of (d := 100) (b := true) (want := true) rfl rfl rfl d100), ?_⟩
            simp [go_sem, f17, f100]
          case s5 =>
            refine step_val (v := (.slice a4 (len rs) c4)) (fun av wv hE hS hO hD => ?_) (fun _ => rfl)
            have h20 : av.eval (.tmp 20) = (.slice a4 (len rs) c4) := hO.2.2 20 rfl
            have f20 := (ev_form av 20).symm.trans h20
            have d100 : av.eval (.tmp 100) = (.bool true) := hD.1 rfl _ rfl
            have f100 := (ev_form av 100).symm.trans d100
            refine ⟨(wanted_of (d := 100) (b := true) (want := true) rfl rfl rfl d100), ?_⟩
            simp [go_sem, f20, f100]
          case s6 =>
            refine step_wp (fun av wv hE hS hO hD => ?_)
            have d101 : av.eval (.tmp 101) = (.slice a2 (len rs) c2) := hD.1 rfl _ rfl
            have f101 := (ev_form av 101).symm.trans d101
            have d102 : av.eval (.tmp 102) = (.slice a4 (len rs) c4) := hD.2.1 rfl _ rfl
            have f102 := (ev_form av 102).symm.trans d102
            have d100 : av.eval (.tmp 100) = (.bool true) := hD.2.2.1 rfl _ rfl
            have f100 := (ev_form av 100).symm.trans d100
            refine ⟨(wanted_of (d := 100) (b := true) (want := true) rfl rfl rfl d100), ?_⟩
            refine wp_of_call (v := (.bool true)) (by simp [go_sem, f101, f102, f100]) (nums_same a2 a4 c2 c4 rs wv (UR1.out.below (of_drew hE)) (UR2.out.below (of_drew hE)) hrs) (fun w2 hb => ⟨_, rfl, es_of_ext hb, rfl⟩)
          case s7 =>
            refine step_val (v := (.bool true)) (fun av wv hE hS hO hD => ?_) (fun _ => rfl)
            have d100 : av.eval (.tmp 100) = (.bool true) := hD.1 rfl _ rfl
            have f100 := (ev_form av 100).symm.trans d100
            have d103 : av.eval (.tmp 103) = (.bool true) := hD.2.1 rfl _ rfl
            have f103 := (ev_form av 103).symm.trans d103
            refine ⟨rfl, ?_⟩
            simp [go_sem, f100, f103]
          case s8 =>
            refine step_val (v := (.bool true)) (fun av wv hE hS hO hD => ?_) (fun _ => rfl)
            have d104 : av.eval (.tmp 104) = (.bool true) := hD.1 rfl _ rfl
            have f104 := (ev_form av 104).symm.trans d104
            refine ⟨rfl, ?_⟩
            simp [go_sem, f104]
          case s9 =>
            refine step_val (v := (.int .i64 err)) (fun av wv hE hS hO hD => ?_) (fun _ => rfl)
            have h18 : av.eval (.tmp 18) = (.int .i64 err) := hO.2.2 18 rfl
            have f18 := (ev_form av 18).symm.trans h18
            have d105 : av.eval (.tmp 105) = (.bool true) := hD.1 rfl _ rfl
            have f105 := (ev_form av 105).symm.trans d105
            refine ⟨(wanted_of (d := 105) (b := true) (want := true) rfl rfl rfl d105), ?_⟩
            simp [go_sem, f18, f105]
          case s10 =>
            refine step_val (v := (.int .i64 err)) (fun av wv hE hS hO hD => ?_) (fun _ => rfl)
            have h21 : av.eval (.tmp 21) = (.int .i64 err) := hO.2.2 21 rfl
            have f21 := (ev_form av 21).symm.trans h21
            have d105 : av.eval (.tmp 105) = (.bool true) := hD.1 rfl _ rfl
            have f105 := (ev_form av 105).symm.trans d105
            refine ⟨(wanted_of (d := 105) (b := true) (want := true) rfl rfl rfl d105), ?_⟩
            simp [go_sem, f21, f105]
          case s11 =>
            refine step_val (v := (.bool true)) (fun av wv hE hS hO hD => ?_) (fun _ => rfl)
            have d106 : av.eval (.tmp 106) = (.int .i64 err) := hD.1 rfl _ rfl
            have f106 := (ev_form av 106).symm.trans d106
            have d107 : av.eval (.tmp 107) = (.int .i64 err) := hD.2.1 rfl _ rfl
            have f107 := (ev_form av 107).symm.trans d107
            have d105 : av.eval (.tmp 105) = (.bool true) := hD.2.2.1 rfl _ rfl
            have f105 := (ev_form av 105).symm.trans d105
            refine ⟨(wanted_of (d := 105) (b := true) (want := true) rfl rfl rfl d105), ?_⟩
            simp [go_sem, f106, f107, f105]
          case s12 =>
            refine step_val (v := (.bool true)) (fun av wv hE hS hO hD => ?_) (fun _ => rfl)
            have d105 : av.eval (.tmp 105) = (.bool true) := hD.1 rfl _ rfl
            have f105 := (ev_form av 105).symm.trans d105
            have d108 : av.eval (.tmp 108) = (.bool true) := hD.2.1 rfl _ rfl
            have f108 := (ev_form av 108).symm.trans d108
            refine ⟨rfl, ?_⟩
            simp [go_sem, f105, f108]
          case s13 =>
            refine step_val (v := (.bool true)) (fun av wv hE hS hO hD => ?_) (fun _ => rfl)
            have d109 : av.eval (.tmp 109) = (.bool true) := hD.1 rfl _ rfl
            have f109 := (ev_form av 109).symm.trans d109
            refine ⟨rfl, ?_⟩
            simp [go_sem, f109]
          case s14 =>
            refine step_val (v := (.pointer (some ⟨w.heap.size, 0, none⟩))) (fun av wv hE hS hO hD => ?_) (fun _ => rfl)
            have h5 : av.eval (.tmp 5) = (.pointer (some ⟨w.heap.size, 0, none⟩)) := hO.2.2 5 rfl
            have f5 := (ev_form av 5).symm.trans h5
            have d110 : av.eval (.tmp 110) = (.bool true) := hD.1 rfl _ rfl
            have f110 := (ev_form av 110).symm.trans d110
            refine ⟨(wanted_of (d := 110) (b := true) (want := true) rfl rfl rfl d110), ?_⟩
            simp [go_sem, f5, f110]
          case s15 =>
            refine step_val (v := (.int .u64 n0)) (fun av wv hE hS hO hD => ?_) (fun _ => rfl)
            have d111 : av.eval (.tmp 111) = (.pointer (some ⟨w.heap.size, 0, none⟩)) := hD.1 rfl _ rfl
            have f111 := (ev_form av 111).symm.trans d111
            have d110 : av.eval (.tmp 110) = (.bool true) := hD.2.1 rfl _ rfl
            have f110 := (ev_form av 110).symm.trans d110
            have k0 := extB_cell hE (by simp) k0
            have k1 := extB_cell hE (by simp) k1
            have k2 := extB_cell hE (by simp) k2
            refine ⟨(wanted_of (d := 110) (b := true) (want := true) rfl rfl rfl d110), ?_⟩
            simp [go_sem, f111, f110, k0, k1, k2]
          case s16 =>
            refine step_val (v := (.pointer (some ⟨w.heap.size, 1, none⟩))) (fun av wv hE hS hO hD => ?_) (fun _ => rfl)
            have h5 : av.eval (.tmp 5) = (.pointer (some ⟨w.heap.size, 0, none⟩)) := hO.2.2 5 rfl
            have f5 := (ev_form av 5).symm.trans h5
            have d110 : av.eval (.tmp 110) = (.bool true) := hD.1 rfl _ rfl
            have f110 := (ev_form av 110).symm.trans d110
            refine ⟨(wanted_of (d := 110) (b := true) (want := true) rfl rfl rfl d110), ?_⟩
            simp [go_sem, f5, f110]
          case s17 =>
            refine step_val (v := (.int .u64 n1)) (fun av wv hE hS hO hD => ?_) (fun _ => rfl)
            have d113 : av.eval (.tmp 113) = (.pointer (some ⟨w.heap.size, 1, none⟩)) := hD.1 rfl _ rfl
            have f113 := (ev_form av 113).symm.trans d113
            have d110 : av.eval (.tmp 110) = (.bool true) := hD.2.1 rfl _ rfl
            have f110 := (ev_form av 110).symm.trans d110
            have k0 := extB_cell hE (by simp) k0
            have k1 := extB_cell hE (by simp) k1
            have k2 := extB_cell hE (by simp) k2
            refine ⟨(wanted_of (d := 110) (b := true) (want := true) rfl rfl rfl d110), ?_⟩
            simp [go_sem, f113, f110, k0, k1, k2]
          case s18 =>
            refine step_val (v := (.pointer (some ⟨w.heap.size, 2, none⟩))) (fun av wv hE hS hO hD => ?_) (fun _ => rfl)
            have h5 : av.eval (.tmp 5) = (.pointer (some ⟨w.heap.size, 0, none⟩)) := hO.2.2 5 rfl
            have f5 := (ev_form av 5).symm.trans h5
            have d110 : av.eval (.tmp 110) = (.bool true) := hD.1 rfl _ rfl
            have f110 := (ev_form av 110).symm.trans d110
            refine ⟨(wanted_of (d := 110) (b := true) (want := true) rfl rfl rfl d110), ?_⟩
            simp [go_sem, f5, f110]
          case s19 =>
            refine step_val (v := (.int .u64 n2)) (fun av wv hE hS hO hD => ?_) (fun _ => rfl)
            have d115 : av.eval (.tmp 115) = (.pointer (some ⟨w.heap.size, 2, none⟩)) := hD.1 rfl _ rfl
            have f115 := (ev_form av 115).symm.trans d115
            have d110 : av.eval (.tmp 110) = (.bool true) := hD.2.1 rfl _ rfl
            have f110 := (ev_form av 110).symm.trans d110
            have k0 := extB_cell hE (by simp) k0
            have k1 := extB_cell hE (by simp) k1
            have k2 := extB_cell hE (by simp) k2
            refine ⟨(wanted_of (d := 110) (b := true) (want := true) rfl rfl rfl d110), ?_⟩
            simp [go_sem, f115, f110, k0, k1, k2]
          case s20 =>
            refine step_wp (fun av wv hE hS hO hD => ?_)
            have d112 : av.eval (.tmp 112) = (.int .u64 n0) := hD.1 rfl _ rfl
            have f112 := (ev_form av 112).symm.trans d112
            have d114 : av.eval (.tmp 114) = (.int .u64 n1) := hD.2.1 rfl _ rfl
            have f114 := (ev_form av 114).symm.trans d114
            have d116 : av.eval (.tmp 116) = (.int .u64 n2) := hD.2.2.1 rfl _ rfl
            have f116 := (ev_form av 116).symm.trans d116
            have d110 : av.eval (.tmp 110) = (.bool true) := hD.2.2.2.1 rfl _ rfl
            have f110 := (ev_form av 110).symm.trans d110
            refine ⟨(wanted_of (d := 110) (b := true) (want := true) rfl rfl rfl d110), ?_⟩
            refine wp_of_call (v := (.bool (fallsB n0 n1 n2))) (by simp [go_sem, f112, f114, f116, f110]) ((falls_any n0 n1 n2 wv b1 b2 b3 b4).mono (fun e w' h => ⟨h.1, h.2 ▸ Below.refl _ _⟩)) (fun w2 hb => ⟨_, rfl, es_of_ext hb, rfl⟩)
          case s21 =>
            refine step_val (v := (.pointer (some ⟨w.heap.size, 0, none⟩))) (fun av wv hE hS hO hD => ?_) (fun _ => rfl)
            have h5 : av.eval (.tmp 5) = (.pointer (some ⟨w.heap.size, 0, none⟩)) := hO.2.2 5 rfl
            have f5 := (ev_form av 5).symm.trans h5
            have d110 : av.eval (.tmp 110) = (.bool true) := hD.1 rfl _ rfl
            have f110 := (ev_form av 110).symm.trans d110
            refine ⟨(wanted_of (d := 110) (b := true) (want := true) rfl rfl rfl d110), ?_⟩
            simp [go_sem, f5, f110]
          case s22 =>
            refine step_val (v := (.int .u64 n0)) (fun av wv hE hS hO hD => ?_) (fun _ => rfl)
            have d118 : av.eval (.tmp 118) = (.pointer (some ⟨w.heap.size, 0, none⟩)) := hD.1 rfl _ rfl
            have f118 := (ev_form av 118).symm.trans d118
            have d110 : av.eval (.tmp 110) = (.bool true) := hD.2.1 rfl _ rfl
            have f110 := (ev_form av 110).symm.trans d110
            have k0 := extB_cell hE (by simp) k0
            have k1 := extB_cell hE (by simp) k1
            have k2 := extB_cell hE (by simp) k2
            refine ⟨(wanted_of (d := 110) (b := true) (want := true) rfl rfl rfl d110), ?_⟩
            simp [go_sem, f118, f110, k0, k1, k2]
          case s23 =>
            refine step_val (v := (.pointer (some ⟨w.heap.size, 1, none⟩))) (fun av wv hE hS hO hD => ?_) (fun _ => rfl)
            have h5 : av.eval (.tmp 5) = (.pointer (some ⟨w.heap.size, 0, none⟩)) := hO.2.2 5 rfl
            have f5 := (ev_form av 5).symm.trans h5
            have d110 : av.eval (.tmp 110) = (.bool true) := hD.1 rfl _ rfl
            have f110 := (ev_form av 110).symm.trans d110
            refine ⟨(wanted_of (d := 110) (b := true) (want := true) rfl rfl rfl d110), ?_⟩
            simp [go_sem, f5, f110]
          case s24 =>
            refine step_val (v := (.int .u64 n1)) (fun av wv hE hS hO hD => ?_) (fun _ => rfl)
            have d120 : av.eval (.tmp 120) = (.pointer (some ⟨w.heap.size, 1, none⟩)) := hD.1 rfl _ rfl
            have f120 := (ev_form av 120).symm.trans d120
            have d110 : av.eval (.tmp 110) = (.bool true) := hD.2.1 rfl _ rfl
            have f110 := (ev_form av 110).symm.trans d110
            have k0 := extB_cell hE (by simp) k0
            have k1 := extB_cell hE (by simp) k1
            have k2 := extB_cell hE (by simp) k2
            refine ⟨(wanted_of (d := 110) (b := true) (want := true) rfl rfl rfl d110), ?_⟩
            simp [go_sem, f120, f110, k0, k1, k2]
          case s25 =>
            refine step_val (v := (.pointer (some ⟨w.heap.size, 2, none⟩))) (fun av wv hE hS hO hD => ?_) (fun _ => rfl)
            have h5 : av.eval (.tmp 5) = (.pointer (some ⟨w.heap.size, 0, none⟩)) := hO.2.2 5 rfl
            have f5 := (ev_form av 5).symm.trans h5
            have d110 : av.eval (.tmp 110) = (.bool true) := hD.1 rfl _ rfl
            have f110 := (ev_form av 110).symm.trans d110
            refine ⟨(wanted_of (d := 110) (b := true) (want := true) rfl rfl rfl d110), ?_⟩
            simp [go_sem, f5, f110]
          case s26 =>
            refine step_val (v := (.int .u64 n2)) (fun av wv hE hS hO hD => ?_) (fun _ => rfl)
            have d122 : av.eval (.tmp 122) = (.pointer (some ⟨w.heap.size, 2, none⟩)) := hD.1 rfl _ rfl
            have f122 := (ev_form av 122).symm.trans d122
            have d110 : av.eval (.tmp 110) = (.bool true) := hD.2.1 rfl _ rfl
            have f110 := (ev_form av 110).symm.trans d110
            have k0 := extB_cell hE (by simp) k0
            have k1 := extB_cell hE (by simp) k1
            have k2 := extB_cell hE (by simp) k2
            refine ⟨(wanted_of (d := 110) (b := true) (want := true) rfl rfl rfl d110), ?_⟩
            simp [go_sem, f122, f110, k0, k1, k2]
          case s27 =>
            refine step_wp (fun av wv hE hS hO hD => ?_)
            have d119 : av.eval (.tmp 119) = (.int .u64 n0) := hD.1 rfl _ rfl
            have f119 := (ev_form av 119).symm.trans d119
            have d121 : av.eval (.tmp 121) = (.int .u64 n1) := hD.2.1 rfl _ rfl
            have f121 := (ev_form av 121).symm.trans d121
            have d123 : av.eval (.tmp 123) = (.int .u64 n2) := hD.2.2.1 rfl _ rfl
            have f123 := (ev_form av 123).symm.trans d123
            have d110 : av.eval (.tmp 110) = (.bool true) := hD.2.2.2.2.1 rfl _ rfl
            have f110 := (ev_form av 110).symm.trans d110
            refine ⟨(wanted_of (d := 110) (b := true) (want := true) rfl rfl rfl d110), ?_⟩
            refine wp_of_call (v := (.bool (fallsB n0 n1 n2))) (by simp [go_sem, f119, f121, f123, f110]) ((refFalls_any n0 n1 n2 wv b1 b2 b3 b4).mono (fun e w' h => ⟨h.1, h.2 ▸ Below.refl _ _⟩)) (fun w2 hb => ⟨_, rfl, es_of_ext hb, rfl⟩)
          case s28 =>
            refine step_val (v := (.bool true)) (fun av wv hE hS hO hD => ?_) (fun _ => rfl)
            have d117 : av.eval (.tmp 117) = (.bool (fallsB n0 n1 n2)) := hD.1 rfl _ rfl
            have f117 := (ev_form av 117).symm.trans d117
            have d124 : av.eval (.tmp 124) = (.bool (fallsB n0 n1 n2)) := hD.2.1 rfl _ rfl
            have f124 := (ev_form av 124).symm.trans d124
            have d110 : av.eval (.tmp 110) = (.bool true) := hD.2.2.1 rfl _ rfl
            have f110 := (ev_form av 110).symm.trans d110
            refine ⟨(wanted_of (d := 110) (b := true) (want := true) rfl rfl rfl d110), ?_⟩
            simp [go_sem, f117, f124, f110]
          case s29 =>
            refine step_val (v := (.bool true)) (fun av wv hE hS hO hD => ?_) (fun _ => rfl)
            have d110 : av.eval (.tmp 110) = (.bool true) := hD.1 rfl _ rfl
            have f110 := (ev_form av 110).symm.trans d110
            have d125 : av.eval (.tmp 125) = (.bool true) := hD.2.1 rfl _ rfl
            have f125 := (ev_form av 125).symm.trans d125
            refine ⟨rfl, ?_⟩
            simp [go_sem, f110, f125]
          case s30 =>
            refine step_val (v := (.bool true)) (fun av wv hE hS hO hD => ?_) (fun _ => rfl)
            have d126 : av.eval (.tmp 126) = (.bool true) := hD.1 rfl _ rfl
            have f126 := (ev_form av 126).symm.trans d126
            refine ⟨rfl, ?_⟩
            simp [go_sem, f126]
          intro a' w' hE hO hall
          have hA := act_of_outer (ds := [97, 98, 99, 100, 101, 102, 103, 104, 105, 106, 107, 108, 109, 110, 111, 112, 113, 114, 115, 116, 117, 118, 119, 120, 121, 122, 123, 124, 125, 126, 127]) rfl hO (by kernel_rfl)
          have e97 : (fun u _ => u = (.slice a1 (len ps) c1)) (a'.eval (.tmp 97)) w' := hall.1 _ rfl
          have e98 : (fun u _ => u = (.slice a3 (len ps) c3)) (a'.eval (.tmp 98)) w' := hall.2.1 _ rfl
          have e99 : (fun u _ => u = (.bool true)) (a'.eval (.tmp 99)) w' := hall.2.2.1 _ rfl
          have e100 : (fun u _ => u = (.bool true)) (a'.eval (.tmp 100)) w' := hall.2.2.2.1 _ rfl
          have e101 : (fun u _ => u = (.slice a2 (len rs) c2)) (a'.eval (.tmp 101)) w' := hall.2.2.2.2.1 _ rfl
          have e102 : (fun u _ => u = (.slice a4 (len rs) c4)) (a'.eval (.tmp 102)) w' := hall.2.2.2.2.2.1 _ rfl
          have e103 : (fun u _ => u = (.bool true)) (a'.eval (.tmp 103)) w' := hall.2.2.2.2.2.2.1 _ rfl
          have e104 : (fun u _ => u = (.bool true)) (a'.eval (.tmp 104)) w' := hall.2.2.2.2.2.2.2.1 _ rfl
          have e105 : (fun u _ => u = (.bool true)) (a'.eval (.tmp 105)) w' := hall.2.2.2.2.2.2.2.2.1 _ rfl
          have e106 : (fun u _ => u = (.int .i64 err)) (a'.eval (.tmp 106)) w' := hall.2.2.2.2.2.2.2.2.2.1 _ rfl
          have e107 : (fun u _ => u = (.int .i64 err)) (a'.eval (.tmp 107)) w' := hall.2.2.2.2.2.2.2.2.2.2.1 _ rfl
          have e108 : (fun u _ => u = (.bool true)) (a'.eval (.tmp 108)) w' := hall.2.2.2.2.2.2.2.2.2.2.2.1 _ rfl
          have e109 : (fun u _ => u = (.bool true)) (a'.eval (.tmp 109)) w' := hall.2.2.2.2.2.2.2.2.2.2.2.2.1 _ rfl
          have e110 : (fun u _ => u = (.bool true)) (a'.eval (.tmp 110)) w' := hall.2.2.2.2.2.2.2.2.2.2.2.2.2.1 _ rfl
          have e111 : (fun u _ => u = (.pointer (some ⟨w.heap.size, 0, none⟩))) (a'.eval (.tmp 111)) w' := hall.2.2.2.2.2.2.2.2.2.2.2.2.2.2.1 _ rfl
          have e112 : (fun u _ => u = (.int .u64 n0)) (a'.eval (.tmp 112)) w' := hall.2.2.2.2.2.2.2.2.2.2.2.2.2.2.2.1 _ rfl
          have e113 : (fun u _ => u = (.pointer (some ⟨w.heap.size, 1, none⟩))) (a'.eval (.tmp 113)) w' := hall.2.2.2.2.2.2.2.2.2.2.2.2.2.2.2.2.1 _ rfl
          have e114 : (fun u _ => u = (.int .u64 n1)) (a'.eval (.tmp 114)) w' := hall.2.2.2.2.2.2.2.2.2.2.2.2.2.2.2.2.2.1 _ rfl
          have e115 : (fun u _ => u = (.pointer (some ⟨w.heap.size, 2, none⟩))) (a'.eval (.tmp 115)) w' := hall.2.2.2.2.2.2.2.2.2.2.2.2.2.2.2.2.2.2.1 _ rfl
          have e116 : (fun u _ => u = (.int .u64 n2)) (a'.eval (.tmp 116)) w' := hall.2.2.2.2.2.2.2.2.2.2.2.2.2.2.2.2.2.2.2.1 _ rfl
          have e117 : (fun u _ => u = (.bool (fallsB n0 n1 n2))) (a'.eval (.tmp 117)) w' := hall.2.2.2.2.2.2.2.2.2.2.2.2.2.2.2.2.2.2.2.2.1 _ rfl
          have e118 : (fun u _ => u = (.pointer (some ⟨w.heap.size, 0, none⟩))) (a'.eval (.tmp 118)) w' := hall.2.2.2.2.2.2.2.2.2.2.2.2.2.2.2.2.2.2.2.2.2.1 _ rfl
          have e119 : (fun u _ => u = (.int .u64 n0)) (a'.eval (.tmp 119)) w' := hall.2.2.2.2.2.2.2.2.2.2.2.2.2.2.2.2.2.2.2.2.2.2.1 _ rfl
          have e120 : (fun u _ => u = (.pointer (some ⟨w.heap.size, 1, none⟩))) (a'.eval (.tmp 120)) w' := hall.2.2.2.2.2.2.2.2.2.2.2.2.2.2.2.2.2.2.2.2.2.2.2.1 _ rfl
          have e121 : (fun u _ => u = (.int .u64 n1)) (a'.eval (.tmp 121)) w' := hall.2.2.2.2.2.2.2.2.2.2.2.2.2.2.2.2.2.2.2.2.2.2.2.2.1 _ rfl
          have e122 : (fun u _ => u = (.pointer (some ⟨w.heap.size, 2, none⟩))) (a'.eval (.tmp 122)) w' := hall.2.2.2.2.2.2.2.2.2.2.2.2.2.2.2.2.2.2.2.2.2.2.2.2.2.1 _ rfl
          have e123 : (fun u _ => u = (.int .u64 n2)) (a'.eval (.tmp 123)) w' := hall.2.2.2.2.2.2.2.2.2.2.2.2.2.2.2.2.2.2.2.2.2.2.2.2.2.2.1 _ rfl
          have e124 : (fun u _ => u = (.bool (fallsB n0 n1 n2))) (a'.eval (.tmp 124)) w' := hall.2.2.2.2.2.2.2.2.2.2.2.2.2.2.2.2.2.2.2.2.2.2.2.2.2.2.2.1 _ rfl
          have e125 : (fun u _ => u = (.bool true)) (a'.eval (.tmp 125)) w' := hall.2.2.2.2.2.2.2.2.2.2.2.2.2.2.2.2.2.2.2.2.2.2.2.2.2.2.2.2.1 _ rfl
          have e126 : (fun u _ => u = (.bool true)) (a'.eval (.tmp 126)) w' := hall.2.2.2.2.2.2.2.2.2.2.2.2.2.2.2.2.2.2.2.2.2.2.2.2.2.2.2.2.2.1 _ rfl
          have e127 : (fun u _ => u = (.bool true)) (a'.eval (.tmp 127)) w' := hall.2.2.2.2.2.2.2.2.2.2.2.2.2.2.2.2.2.2.2.2.2.2.2.2.2.2.2.2.2.2.1 _ rfl
          simp only [List.foldl_cons, List.foldl_nil, Act.put, List.setIfInBounds_toArray, List.set_cons_succ, List.set_cons_zero, e97, e98, e99, e100, e101, e102, e103, e104, e105, e106, e107, e108, e109, e110, e111, e112, e113, e114, e115, e116, e117, e118, e119, e120, e121, e122, e123, e124, e125, e126, e127] at hA
          clear hO hall e97 e98 e99 e100 e101 e102 e103 e104 e105 e106 e107 e108 e109 e110 e111 e112 e113 e114 e115 e116 e117 e118 e119 e120 e121 e122 e123 e124 e125 e126 e127
          subst hA
          --ENDREGION
          have VB7 : Hid (Below w.heap.size w w') := Lib.hid (bnext (bnext VB3.out VB6.out) (of_drew hE))
          clear hE
          go_wp2_with fail
          refine (works20_any w').mono ?_
          rintro e w8 ⟨rfl, hb8⟩
          have VB8 : Hid (Below w.heap.size w w8) := Lib.hid (bnext VB7.out hb8)
          clear hb8
          go_wp2
          go_ret
          exact ⟨rfl, VB8.out⟩
        · obtain ⟨ps, hps⟩ : ∃ ps : List Int, ps = [] := ⟨_, rfl⟩
          obtain ⟨rs, hrs0⟩ : ∃ rs : List Int, rs = [] := ⟨_, rfl⟩
          obtain ⟨err, herr⟩ : ∃ err : Int, err = 3 := ⟨_, rfl⟩
          have hpl : len ps ≤ 100000 := by subst hps; decide
          have hrs : len rs ≤ 100000 := by subst hrs0; decide
          have HCA : Hid (Calls Try.prog 31 #[.pointer (some ⟨B, 0, none⟩), .slice ca m cc] wr (ChO ps rs err wr)) := Lib.hid (by
            rw [hps, hrs0, herr]
            exact (choose_long B ca cc m wr (by omega)).mono (fun e w' h => chO_none h))
          have HCB : Hid (∀ w5, Below wr.heap.size wr w5 → Calls Try.prog 32 #[.pointer (some ⟨B2, 0, none⟩), .slice ca m cc] w5 (ChO ps rs err w5)) := Lib.hid (fun w5 hb => by
            rw [hps, hrs0, herr]
            exact (rchoose_long B2 ca cc m w5 (by omega)).mono (fun e w' h => chO_none h))
          clear HO HCU HRG HK hm hlt hps hrs0 herr
          go_wp2_with fail
          refine HCA.out.mono ?_
          rintro e w5 ⟨a1, c1, a2, c2, rfl, up1, ur1, -, -, hb5⟩
          have hbx := HCB.out w5 hb5
          have HCB5 := Lib.hid hbx
          have UP5 := Lib.hid up1
          have UR5 := Lib.hid ur1
          have VB5 : Hid (Below w3.heap.size w3 w5) := Lib.hid (bnext VBK.out hb5)
          clear up1 ur1 hb5 hbx HCA HCB
          go_wp2_with fail
          refine HCB5.out.mono ?_
          rintro e w6 ⟨a3, c3, a4, c4, rfl, up2, ur2, -, -, hb6⟩
          have UP1 := Lib.hid (UP5.out.below hb6)
          have UR1 := Lib.hid (UR5.out.below hb6)
          have UP2 := Lib.hid up2
          have UR2 := Lib.hid ur2
          have VB6 : Hid (Below w3.heap.size w3 w6) := Lib.hid (bnext VB5.out hb6)
          clear up2 ur2 hb6 UP5 UR5 HCB5
          have k0 : w6.cell? ⟨w.heap.size, 0, none⟩ = some (.int .u64 n0) := by
            rw [VB6.out.cell (p := ⟨w.heap.size, 0, none⟩) (lt_of_block VK3.out)]; exact block_cell VK3.out 0
          have k1 : w6.cell? ⟨w.heap.size, 1, none⟩ = some (.int .u64 n1) := by
            rw [VB6.out.cell (p := ⟨w.heap.size, 1, none⟩) (lt_of_block VK3.out)]; exact block_cell VK3.out 1
          have k2 : w6.cell? ⟨w.heap.size, 2, none⟩ = some (.int .u64 n2) := by
            rw [VB6.out.cell (p := ⟨w.heap.size, 2, none⟩) (lt_of_block VK3.out)]; exact block_cell VK3.out 2
          go_upto_region 17 with fail
          --REGION sextant/sextantlaw20.RevealChooses 17 ch17
          refine wp_region_tail 31 1000 (none) (phis [fun u _ => u = (.slice a1 (len ps) c1), fun u _ => u = (.slice a3 (len ps) c3), fun u _ => u = (.bool true), fun u _ => u = (.bool true), fun u _ => u = (.slice a2 (len rs) c2), fun u _ => u = (.slice a4 (len rs) c4), fun u _ => u = (.bool true), fun u _ => u = (.bool true), fun u _ => u = (.bool true), fun u _ => u = (.int .i64 err), fun u _ => u = (.int .i64 err), fun u _ => u = (.bool true), fun u _ => u = (.bool true), fun u _ => u = (.bool true), fun u _ => u = (.pointer (some ⟨w.heap.size, 0, none⟩)), fun u _ => u = (.int .u64 n0), fun u _ => u = (.pointer (some ⟨w.heap.size, 1, none⟩)), fun u _ => u = (.int .u64 n1), fun u _ => u = (.pointer (some ⟨w.heap.size, 2, none⟩)), fun u _ => u = (.int .u64 n2), fun u _ => u = (.bool (fallsB n0 n1 n2)), fun u _ => u = (.pointer (some ⟨w.heap.size, 0, none⟩)), fun u _ => u = (.int .u64 n0), fun u _ => u = (.pointer (some ⟨w.heap.size, 1, none⟩)), fun u _ => u = (.int .u64 n1), fun u _ => u = (.pointer (some ⟨w.heap.size, 2, none⟩)), fun u _ => u = (.int .u64 n2), fun u _ => u = (.bool (fallsB n0 n1 n2)), fun u _ => u = (.bool true), fun u _ => u = (.bool true), fun u _ => u = (.bool true)]) rfl (by kernel_rfl) (by kernel_rfl) (mono_of ⟨mono_eq, mono_eq, mono_eq, mono_eq, mono_eq, mono_eq, mono_eq, mono_eq, mono_eq, mono_eq, mono_eq, mono_eq, mono_eq, mono_eq, mono_eq, mono_eq, mono_eq, mono_eq, mono_eq, mono_eq, mono_eq, mono_eq, mono_eq, mono_eq, mono_eq, mono_eq, mono_eq, mono_eq, mono_eq, mono_eq, mono_eq, trivial⟩) (steps_of 31 ⟨?s0, ?s1, ?s2, ?s3, ?s4, ?s5, ?s6, ?s7, ?s8, ?s9, ?s10, ?s11, ?s12, ?s13, ?s14, ?s15, ?s16, ?s17, ?s18, ?s19, ?s20, ?s21, ?s22, ?s23, ?s24, ?s25, ?s26, ?s27, ?s28, ?s29, ?s30, trivial⟩) ?_
          case s0 =>
            refine step_val (v := (.slice a1 (len ps) c1)) (fun av wv hE hS hO hD => ?_) (fun _ => rfl)
            have h16 : av.eval (.tmp 16) = (.slice a1 (len ps) c1) := hO.2.2 16 rfl
            have f16 := (ev_form av 16).symm.trans h16
            refine ⟨rfl, ?_⟩
            simp [go_sem, f16]
          case s1 =>
            refine step_val (v := (.slice a3 (len ps) c3)) (fun av wv hE hS hO hD => ?_) (fun _ => rfl)
            have h19 : av.eval (.tmp 19) = (.slice a3 (len ps) c3) := hO.2.2 19 rfl
            have f19 := (ev_form av 19).symm.trans h19
            refine ⟨rfl, ?_⟩
            simp [go_sem, f19]
          case s2 =>
            refine step_wp (fun av wv hE hS hO hD => ?_)
            have d97 : av.eval (.tmp 97) = (.slice a1 (len ps) c1) := hD.1 rfl _ rfl
            have f97 := (ev_form av 97).symm.trans d97
            have d98 : av.eval (.tmp 98) = (.slice a3 (len ps) c3) := hD.2.1 rfl _ rfl
            have f98 := (ev_form av 98).symm.trans d98
            refine ⟨rfl, ?_⟩
            refine wp_of_call (v := (.bool true)) (by simp [go_sem, f97, f98]) (nums_same a1 a3 c1 c3 ps wv (UP1.out.below (of_drew hE)) (UP2.out.below (of_drew hE)) hpl) (fun w2 hb => ⟨_, rfl, es_of_ext hb, rfl⟩)
          case s3 =>
            refine step_val (v := (.bool true)) (fun av wv hE hS hO hD => ?_) (fun _ => rfl)
            have d99 : av.eval (.tmp 99) = (.bool true) := hD.1 rfl _ rfl
            have f99 := (ev_form av 99).symm.trans d99
            refine ⟨rfl, ?_⟩
            simp [go_sem, f99]
          case s4 =>
            refine step_val (v := (.slice a2 (len rs) c2)) (fun av wv hE hS hO hD => ?_) (fun _ => rfl)
            have h17 : av.eval (.tmp 17) = (.slice a2 (len rs) c2) := hO.2.2 17 rfl
            have f17 := (ev_form av 17).symm.trans h17
            have d100 : av.eval (.tmp 100) = (.bool true) := hD.1 rfl _ rfl
            have f100 := (ev_form av 100).symm.trans d100
            refine ⟨(wanted_of (d := 100) (b := true) (want := true) rfl rfl rfl d100), ?_⟩
            simp [go_sem, f17, f100]
          case s5 =>
            refine step_val (v := (.slice a4 (len rs) c4)) (fun av wv hE hS hO hD => ?_) (fun _ => rfl)
            have h20 : av.eval (.tmp 20) = (.slice a4 (len rs) c4) := hO.2.2 20 rfl
            have f20 := (ev_form av 20).symm.trans h20
            have d100 : av.eval (.tmp 100) = (.bool true) := hD.1 rfl _ rfl
            have f100 := (ev_form av 100).symm.trans d100
            refine ⟨(wanted_of (d := 100) (b := true) (want := true) rfl rfl rfl d100), ?_⟩
            simp [go_sem, f20, f100]
          case s6 =>
            refine step_wp (fun av wv hE hS hO hD => ?_)
            have d101 : av.eval (.tmp 101) = (.slice a2 (len rs) c2) := hD.1 rfl _ rfl
            have f101 := (ev_form av 101).symm.trans d101
            have d102 : av.eval (.tmp 102) = (.slice a4 (len rs) c4) := hD.2.1 rfl _ rfl
            have f102 := (ev_form av 102).symm.trans d102
            have d100 : av.eval (.tmp 100) = (.bool true) := hD.2.2.1 rfl _ rfl
            have f100 := (ev_form av 100).symm.trans d100
            refine ⟨(wanted_of (d := 100) (b := true) (want := true) rfl rfl rfl d100), ?_⟩
            refine wp_of_call (v := (.bool true)) (by simp [go_sem, f101, f102, f100]) (nums_same a2 a4 c2 c4 rs wv (UR1.out.below (of_drew hE)) (UR2.out.below (of_drew hE)) hrs) (fun w2 hb => ⟨_, rfl, es_of_ext hb, rfl⟩)
          case s7 =>
            refine step_val (v := (.bool true)) (fun av wv hE hS hO hD => ?_) (fun _ => rfl)
            have d100 : av.eval (.tmp 100) = (.bool true) := hD.1 rfl _ rfl
            have f100 := (ev_form av 100).symm.trans d100
            have d103 : av.eval (.tmp 103) = (.bool true) := hD.2.1 rfl _ rfl
            have f103 := (ev_form av 103).symm.trans d103
            refine ⟨rfl, ?_⟩
            simp [go_sem, f100, f103]
          case s8 =>
            refine step_val (v := (.bool true)) (fun av wv hE hS hO hD => ?_) (fun _ => rfl)
            have d104 : av.eval (.tmp 104) = (.bool true) := hD.1 rfl _ rfl
            have f104 := (ev_form av 104).symm.trans d104
            refine ⟨rfl, ?_⟩
            simp [go_sem, f104]
          case s9 =>
            refine step_val (v := (.int .i64 err)) (fun av wv hE hS hO hD => ?_) (fun _ => rfl)
            have h18 : av.eval (.tmp 18) = (.int .i64 err) := hO.2.2 18 rfl
            have f18 := (ev_form av 18).symm.trans h18
            have d105 : av.eval (.tmp 105) = (.bool true) := hD.1 rfl _ rfl
            have f105 := (ev_form av 105).symm.trans d105
            refine ⟨(wanted_of (d := 105) (b := true) (want := true) rfl rfl rfl d105), ?_⟩
            simp [go_sem, f18, f105]
          case s10 =>
            refine step_val (v := (.int .i64 err)) (fun av wv hE hS hO hD => ?_) (fun _ => rfl)
            have h21 : av.eval (.tmp 21) = (.int .i64 err) := hO.2.2 21 rfl
            have f21 := (ev_form av 21).symm.trans h21
            have d105 : av.eval (.tmp 105) = (.bool true) := hD.1 rfl _ rfl
            have f105 := (ev_form av 105).symm.trans d105
            refine ⟨(wanted_of (d := 105) (b := true) (want := true) rfl rfl rfl d105), ?_⟩
            simp [go_sem, f21, f105]
          case s11 =>
            refine step_val (v := (.bool true)) (fun av wv hE hS hO hD => ?_) (fun _ => rfl)
            have d106 : av.eval (.tmp 106) = (.int .i64 err) := hD.1 rfl _ rfl
            have f106 := (ev_form av 106).symm.trans d106
            have d107 : av.eval (.tmp 107) = (.int .i64 err) := hD.2.1 rfl _ rfl
            have f107 := (ev_form av 107).symm.trans d107
            have d105 : av.eval (.tmp 105) = (.bool true) := hD.2.2.1 rfl _ rfl
            have f105 := (ev_form av 105).symm.trans d105
            refine ⟨(wanted_of (d := 105) (b := true) (want := true) rfl rfl rfl d105), ?_⟩
            simp [go_sem, f106, f107, f105]
          case s12 =>
            refine step_val (v := (.bool true)) (fun av wv hE hS hO hD => ?_) (fun _ => rfl)
            have d105 : av.eval (.tmp 105) = (.bool true) := hD.1 rfl _ rfl
            have f105 := (ev_form av 105).symm.trans d105
            have d108 : av.eval (.tmp 108) = (.bool true) := hD.2.1 rfl _ rfl
            have f108 := (ev_form av 108).symm.trans d108
            refine ⟨rfl, ?_⟩
            simp [go_sem, f105, f108]
          case s13 =>
            refine step_val (v := (.bool true)) (fun av wv hE hS hO hD => ?_) (fun _ => rfl)
            have d109 : av.eval (.tmp 109) = (.bool true) := hD.1 rfl _ rfl
            have f109 := (ev_form av 109).symm.trans d109
            refine ⟨rfl, ?_⟩
            simp [go_sem, f109]
          case s14 =>
            refine step_val (v := (.pointer (some ⟨w.heap.size, 0, none⟩))) (fun av wv hE hS hO hD => ?_) (fun _ => rfl)
            have h5 : av.eval (.tmp 5) = (.pointer (some ⟨w.heap.size, 0, none⟩)) := hO.2.2 5 rfl
            have f5 := (ev_form av 5).symm.trans h5
            have d110 : av.eval (.tmp 110) = (.bool true) := hD.1 rfl _ rfl
            have f110 := (ev_form av 110).symm.trans d110
            refine ⟨(wanted_of (d := 110) (b := true) (want := true) rfl rfl rfl d110), ?_⟩
            simp [go_sem, f5, f110]
          case s15 =>
            refine step_val (v := (.int .u64 n0)) (fun av wv hE hS hO hD => ?_) (fun _ => rfl)
            have d111 : av.eval (.tmp 111) = (.pointer (some ⟨w.heap.size, 0, none⟩)) := hD.1 rfl _ rfl
            have f111 := (ev_form av 111).symm.trans d111
            have d110 : av.eval (.tmp 110) = (.bool true) := hD.2.1 rfl _ rfl
            have f110 := (ev_form av 110).symm.trans d110
            have k0 := extB_cell hE (by simp) k0
            have k1 := extB_cell hE (by simp) k1
            have k2 := extB_cell hE (by simp) k2
            refine ⟨(wanted_of (d := 110) (b := true) (want := true) rfl rfl rfl d110), ?_⟩
            simp [go_sem, f111, f110, k0, k1, k2]
          case s16 =>
            refine step_val (v := (.pointer (some ⟨w.heap.size, 1, none⟩))) (fun av wv hE hS hO hD => ?_) (fun _ => rfl)
            have h5 : av.eval (.tmp 5) = (.pointer (some ⟨w.heap.size, 0, none⟩)) := hO.2.2 5 rfl
            have f5 := (ev_form av 5).symm.trans h5
            have d110 : av.eval (.tmp 110) = (.bool true) := hD.1 rfl _ rfl
            have f110 := (ev_form av 110).symm.trans d110
            refine ⟨(wanted_of (d := 110) (b := true) (want := true) rfl rfl rfl d110), ?_⟩
            simp [go_sem, f5, f110]
          case s17 =>
            refine step_val (v := (.int .u64 n1)) (fun av wv hE hS hO hD => ?_) (fun _ => rfl)
            have d113 : av.eval (.tmp 113) = (.pointer (some ⟨w.heap.size, 1, none⟩)) := hD.1 rfl _ rfl
            have f113 := (ev_form av 113).symm.trans d113
            have d110 : av.eval (.tmp 110) = (.bool true) := hD.2.1 rfl _ rfl
            have f110 := (ev_form av 110).symm.trans d110
            have k0 := extB_cell hE (by simp) k0
            have k1 := extB_cell hE (by simp) k1
            have k2 := extB_cell hE (by simp) k2
            refine ⟨(wanted_of (d := 110) (b := true) (want := true) rfl rfl rfl d110), ?_⟩
            simp [go_sem, f113, f110, k0, k1, k2]
          case s18 =>
            refine step_val (v := (.pointer (some ⟨w.heap.size, 2, none⟩))) (fun av wv hE hS hO hD => ?_) (fun _ => rfl)
            have h5 : av.eval (.tmp 5) = (.pointer (some ⟨w.heap.size, 0, none⟩)) := hO.2.2 5 rfl
            have f5 := (ev_form av 5).symm.trans h5
            have d110 : av.eval (.tmp 110) = (.bool true) := hD.1 rfl _ rfl
            have f110 := (ev_form av 110).symm.trans d110
            refine ⟨(wanted_of (d := 110) (b := true) (want := true) rfl rfl rfl d110), ?_⟩
            simp [go_sem, f5, f110]
          case s19 =>
            refine step_val (v := (.int .u64 n2)) (fun av wv hE hS hO hD => ?_) (fun _ => rfl)
            have d115 : av.eval (.tmp 115) = (.pointer (some ⟨w.heap.size, 2, none⟩)) := hD.1 rfl _ rfl
            have f115 := (ev_form av 115).symm.trans d115
            have d110 : av.eval (.tmp 110) = (.bool true) := hD.2.1 rfl _ rfl
            have f110 := (ev_form av 110).symm.trans d110
            have k0 := extB_cell hE (by simp) k0
            have k1 := extB_cell hE (by simp) k1
            have k2 := extB_cell hE (by simp) k2
            refine ⟨(wanted_of (d := 110) (b := true) (want := true) rfl rfl rfl d110), ?_⟩
            simp [go_sem, f115, f110, k0, k1, k2]
          case s20 =>
            refine step_wp (fun av wv hE hS hO hD => ?_)
            have d112 : av.eval (.tmp 112) = (.int .u64 n0) := hD.1 rfl _ rfl
            have f112 := (ev_form av 112).symm.trans d112
            have d114 : av.eval (.tmp 114) = (.int .u64 n1) := hD.2.1 rfl _ rfl
            have f114 := (ev_form av 114).symm.trans d114
            have d116 : av.eval (.tmp 116) = (.int .u64 n2) := hD.2.2.1 rfl _ rfl
            have f116 := (ev_form av 116).symm.trans d116
            have d110 : av.eval (.tmp 110) = (.bool true) := hD.2.2.2.1 rfl _ rfl
            have f110 := (ev_form av 110).symm.trans d110
            refine ⟨(wanted_of (d := 110) (b := true) (want := true) rfl rfl rfl d110), ?_⟩
            refine wp_of_call (v := (.bool (fallsB n0 n1 n2))) (by simp [go_sem, f112, f114, f116, f110]) ((falls_any n0 n1 n2 wv b1 b2 b3 b4).mono (fun e w' h => ⟨h.1, h.2 ▸ Below.refl _ _⟩)) (fun w2 hb => ⟨_, rfl, es_of_ext hb, rfl⟩)
          case s21 =>
            refine step_val (v := (.pointer (some ⟨w.heap.size, 0, none⟩))) (fun av wv hE hS hO hD => ?_) (fun _ => rfl)
            have h5 : av.eval (.tmp 5) = (.pointer (some ⟨w.heap.size, 0, none⟩)) := hO.2.2 5 rfl
            have f5 := (ev_form av 5).symm.trans h5
            have d110 : av.eval (.tmp 110) = (.bool true) := hD.1 rfl _ rfl
            have f110 := (ev_form av 110).symm.trans d110
            refine ⟨(wanted_of (d := 110) (b := true) (want := true) rfl rfl rfl d110), ?_⟩
            simp [go_sem, f5, f110]
          case s22 =>
            refine step_val (v := (.int .u64 n0)) (fun av wv hE hS hO hD => ?_) (fun _ => rfl)
            have d118 : av.eval (.tmp 118) = (.pointer (some ⟨w.heap.size, 0, none⟩)) := hD.1 rfl _ rfl
            have f118 := (ev_form av 118).symm.trans d118
            have d110 : av.eval (.tmp 110) = (.bool true) := hD.2.1 rfl _ rfl
            have f110 := (ev_form av 110).symm.trans d110
            have k0 := extB_cell hE (by simp) k0
            have k1 := extB_cell hE (by simp) k1
            have k2 := extB_cell hE (by simp) k2
            refine ⟨(wanted_of (d := 110) (b := true) (want := true) rfl rfl rfl d110), ?_⟩
            simp [go_sem, f118, f110, k0, k1, k2]
          case s23 =>
            refine step_val (v := (.pointer (some ⟨w.heap.size, 1, none⟩))) (fun av wv hE hS hO hD => ?_) (fun _ => rfl)
            have h5 : av.eval (.tmp 5) = (.pointer (some ⟨w.heap.size, 0, none⟩)) := hO.2.2 5 rfl
            have f5 := (ev_form av 5).symm.trans h5
            have d110 : av.eval (.tmp 110) = (.bool true) := hD.1 rfl _ rfl
            have f110 := (ev_form av 110).symm.trans d110
            refine ⟨(wanted_of (d := 110) (b := true) (want := true) rfl rfl rfl d110), ?_⟩
            simp [go_sem, f5, f110]
          case s24 =>
            refine step_val (v := (.int .u64 n1)) (fun av wv hE hS hO hD => ?_) (fun _ => rfl)
            have d120 : av.eval (.tmp 120) = (.pointer (some ⟨w.heap.size, 1, none⟩)) := hD.1 rfl _ rfl
            have f120 := (ev_form av 120).symm.trans d120
            have d110 : av.eval (.tmp 110) = (.bool true) := hD.2.1 rfl _ rfl
            have f110 := (ev_form av 110).symm.trans d110
            have k0 := extB_cell hE (by simp) k0
            have k1 := extB_cell hE (by simp) k1
            have k2 := extB_cell hE (by simp) k2
            refine ⟨(wanted_of (d := 110) (b := true) (want := true) rfl rfl rfl d110), ?_⟩
            simp [go_sem, f120, f110, k0, k1, k2]
          case s25 =>
            refine step_val (v := (.pointer (some ⟨w.heap.size, 2, none⟩))) (fun av wv hE hS hO hD => ?_) (fun _ => rfl)
            have h5 : av.eval (.tmp 5) = (.pointer (some ⟨w.heap.size, 0, none⟩)) := hO.2.2 5 rfl
            have f5 := (ev_form av 5).symm.trans h5
            have d110 : av.eval (.tmp 110) = (.bool true) := hD.1 rfl _ rfl
            have f110 := (ev_form av 110).symm.trans d110
            refine ⟨(wanted_of (d := 110) (b := true) (want := true) rfl rfl rfl d110), ?_⟩
            simp [go_sem, f5, f110]
          case s26 =>
            refine step_val (v := (.int .u64 n2)) (fun av wv hE hS hO hD => ?_) (fun _ => rfl)
            have d122 : av.eval (.tmp 122) = (.pointer (some ⟨w.heap.size, 2, none⟩)) := hD.1 rfl _ rfl
            have f122 := (ev_form av 122).symm.trans d122
            have d110 : av.eval (.tmp 110) = (.bool true) := hD.2.1 rfl _ rfl
            have f110 := (ev_form av 110).symm.trans d110
            have k0 := extB_cell hE (by simp) k0
            have k1 := extB_cell hE (by simp) k1
            have k2 := extB_cell hE (by simp) k2
            refine ⟨(wanted_of (d := 110) (b := true) (want := true) rfl rfl rfl d110), ?_⟩
            simp [go_sem, f122, f110, k0, k1, k2]
          case s27 =>
            refine step_wp (fun av wv hE hS hO hD => ?_)
            have d119 : av.eval (.tmp 119) = (.int .u64 n0) := hD.1 rfl _ rfl
            have f119 := (ev_form av 119).symm.trans d119
            have d121 : av.eval (.tmp 121) = (.int .u64 n1) := hD.2.1 rfl _ rfl
            have f121 := (ev_form av 121).symm.trans d121
            have d123 : av.eval (.tmp 123) = (.int .u64 n2) := hD.2.2.1 rfl _ rfl
            have f123 := (ev_form av 123).symm.trans d123
            have d110 : av.eval (.tmp 110) = (.bool true) := hD.2.2.2.2.1 rfl _ rfl
            have f110 := (ev_form av 110).symm.trans d110
            refine ⟨(wanted_of (d := 110) (b := true) (want := true) rfl rfl rfl d110), ?_⟩
            refine wp_of_call (v := (.bool (fallsB n0 n1 n2))) (by simp [go_sem, f119, f121, f123, f110]) ((refFalls_any n0 n1 n2 wv b1 b2 b3 b4).mono (fun e w' h => ⟨h.1, h.2 ▸ Below.refl _ _⟩)) (fun w2 hb => ⟨_, rfl, es_of_ext hb, rfl⟩)
          case s28 =>
            refine step_val (v := (.bool true)) (fun av wv hE hS hO hD => ?_) (fun _ => rfl)
            have d117 : av.eval (.tmp 117) = (.bool (fallsB n0 n1 n2)) := hD.1 rfl _ rfl
            have f117 := (ev_form av 117).symm.trans d117
            have d124 : av.eval (.tmp 124) = (.bool (fallsB n0 n1 n2)) := hD.2.1 rfl _ rfl
            have f124 := (ev_form av 124).symm.trans d124
            have d110 : av.eval (.tmp 110) = (.bool true) := hD.2.2.1 rfl _ rfl
            have f110 := (ev_form av 110).symm.trans d110
            refine ⟨(wanted_of (d := 110) (b := true) (want := true) rfl rfl rfl d110), ?_⟩
            simp [go_sem, f117, f124, f110]
          case s29 =>
            refine step_val (v := (.bool true)) (fun av wv hE hS hO hD => ?_) (fun _ => rfl)
            have d110 : av.eval (.tmp 110) = (.bool true) := hD.1 rfl _ rfl
            have f110 := (ev_form av 110).symm.trans d110
            have d125 : av.eval (.tmp 125) = (.bool true) := hD.2.1 rfl _ rfl
            have f125 := (ev_form av 125).symm.trans d125
            refine ⟨rfl, ?_⟩
            simp [go_sem, f110, f125]
          case s30 =>
            refine step_val (v := (.bool true)) (fun av wv hE hS hO hD => ?_) (fun _ => rfl)
            have d126 : av.eval (.tmp 126) = (.bool true) := hD.1 rfl _ rfl
            have f126 := (ev_form av 126).symm.trans d126
            refine ⟨rfl, ?_⟩
            simp [go_sem, f126]
          intro a' w' hE hO hall
          have hA := act_of_outer (ds := [97, 98, 99, 100, 101, 102, 103, 104, 105, 106, 107, 108, 109, 110, 111, 112, 113, 114, 115, 116, 117, 118, 119, 120, 121, 122, 123, 124, 125, 126, 127]) rfl hO (by kernel_rfl)
          have e97 : (fun u _ => u = (.slice a1 (len ps) c1)) (a'.eval (.tmp 97)) w' := hall.1 _ rfl
          have e98 : (fun u _ => u = (.slice a3 (len ps) c3)) (a'.eval (.tmp 98)) w' := hall.2.1 _ rfl
          have e99 : (fun u _ => u = (.bool true)) (a'.eval (.tmp 99)) w' := hall.2.2.1 _ rfl
          have e100 : (fun u _ => u = (.bool true)) (a'.eval (.tmp 100)) w' := hall.2.2.2.1 _ rfl
          have e101 : (fun u _ => u = (.slice a2 (len rs) c2)) (a'.eval (.tmp 101)) w' := hall.2.2.2.2.1 _ rfl
          have e102 : (fun u _ => u = (.slice a4 (len rs) c4)) (a'.eval (.tmp 102)) w' := hall.2.2.2.2.2.1 _ rfl
          have e103 : (fun u _ => u = (.bool true)) (a'.eval (.tmp 103)) w' := hall.2.2.2.2.2.2.1 _ rfl
          have e104 : (fun u _ => u = (.bool true)) (a'.eval (.tmp 104)) w' := hall.2.2.2.2.2.2.2.1 _ rfl
          have e105 : (fun u _ => u = (.bool true)) (a'.eval (.tmp 105)) w' := hall.2.2.2.2.2.2.2.2.1 _ rfl
          have e106 : (fun u _ => u = (.int .i64 err)) (a'.eval (.tmp 106)) w' := hall.2.2.2.2.2.2.2.2.2.1 _ rfl
          have e107 : (fun u _ => u = (.int .i64 err)) (a'.eval (.tmp 107)) w' := hall.2.2.2.2.2.2.2.2.2.2.1 _ rfl
          have e108 : (fun u _ => u = (.bool true)) (a'.eval (.tmp 108)) w' := hall.2.2.2.2.2.2.2.2.2.2.2.1 _ rfl
          have e109 : (fun u _ => u = (.bool true)) (a'.eval (.tmp 109)) w' := hall.2.2.2.2.2.2.2.2.2.2.2.2.1 _ rfl
          have e110 : (fun u _ => u = (.bool true)) (a'.eval (.tmp 110)) w' := hall.2.2.2.2.2.2.2.2.2.2.2.2.2.1 _ rfl
          have e111 : (fun u _ => u = (.pointer (some ⟨w.heap.size, 0, none⟩))) (a'.eval (.tmp 111)) w' := hall.2.2.2.2.2.2.2.2.2.2.2.2.2.2.1 _ rfl
          have e112 : (fun u _ => u = (.int .u64 n0)) (a'.eval (.tmp 112)) w' := hall.2.2.2.2.2.2.2.2.2.2.2.2.2.2.2.1 _ rfl
          have e113 : (fun u _ => u = (.pointer (some ⟨w.heap.size, 1, none⟩))) (a'.eval (.tmp 113)) w' := hall.2.2.2.2.2.2.2.2.2.2.2.2.2.2.2.2.1 _ rfl
          have e114 : (fun u _ => u = (.int .u64 n1)) (a'.eval (.tmp 114)) w' := hall.2.2.2.2.2.2.2.2.2.2.2.2.2.2.2.2.2.1 _ rfl
          have e115 : (fun u _ => u = (.pointer (some ⟨w.heap.size, 2, none⟩))) (a'.eval (.tmp 115)) w' := hall.2.2.2.2.2.2.2.2.2.2.2.2.2.2.2.2.2.2.1 _ rfl
          have e116 : (fun u _ => u = (.int .u64 n2)) (a'.eval (.tmp 116)) w' := hall.2.2.2.2.2.2.2.2.2.2.2.2.2.2.2.2.2.2.2.1 _ rfl
          have e117 : (fun u _ => u = (.bool (fallsB n0 n1 n2))) (a'.eval (.tmp 117)) w' := hall.2.2.2.2.2.2.2.2.2.2.2.2.2.2.2.2.2.2.2.2.1 _ rfl
          have e118 : (fun u _ => u = (.pointer (some ⟨w.heap.size, 0, none⟩))) (a'.eval (.tmp 118)) w' := hall.2.2.2.2.2.2.2.2.2.2.2.2.2.2.2.2.2.2.2.2.2.1 _ rfl
          have e119 : (fun u _ => u = (.int .u64 n0)) (a'.eval (.tmp 119)) w' := hall.2.2.2.2.2.2.2.2.2.2.2.2.2.2.2.2.2.2.2.2.2.2.1 _ rfl
          have e120 : (fun u _ => u = (.pointer (some ⟨w.heap.size, 1, none⟩))) (a'.eval (.tmp 120)) w' := hall.2.2.2.2.2.2.2.2.2.2.2.2.2.2.2.2.2.2.2.2.2.2.2.1 _ rfl
          have e121 : (fun u _ => u = (.int .u64 n1)) (a'.eval (.tmp 121)) w' := hall.2.2.2.2.2.2.2.2.2.2.2.2.2.2.2.2.2.2.2.2.2.2.2.2.1 _ rfl
          have e122 : (fun u _ => u = (.pointer (some ⟨w.heap.size, 2, none⟩))) (a'.eval (.tmp 122)) w' := hall.2.2.2.2.2.2.2.2.2.2.2.2.2.2.2.2.2.2.2.2.2.2.2.2.2.1 _ rfl
          have e123 : (fun u _ => u = (.int .u64 n2)) (a'.eval (.tmp 123)) w' := hall.2.2.2.2.2.2.2.2.2.2.2.2.2.2.2.2.2.2.2.2.2.2.2.2.2.2.1 _ rfl
          have e124 : (fun u _ => u = (.bool (fallsB n0 n1 n2))) (a'.eval (.tmp 124)) w' := hall.2.2.2.2.2.2.2.2.2.2.2.2.2.2.2.2.2.2.2.2.2.2.2.2.2.2.2.1 _ rfl
          have e125 : (fun u _ => u = (.bool true)) (a'.eval (.tmp 125)) w' := hall.2.2.2.2.2.2.2.2.2.2.2.2.2.2.2.2.2.2.2.2.2.2.2.2.2.2.2.2.1 _ rfl
          have e126 : (fun u _ => u = (.bool true)) (a'.eval (.tmp 126)) w' := hall.2.2.2.2.2.2.2.2.2.2.2.2.2.2.2.2.2.2.2.2.2.2.2.2.2.2.2.2.2.1 _ rfl
          have e127 : (fun u _ => u = (.bool true)) (a'.eval (.tmp 127)) w' := hall.2.2.2.2.2.2.2.2.2.2.2.2.2.2.2.2.2.2.2.2.2.2.2.2.2.2.2.2.2.2.1 _ rfl
          simp only [List.foldl_cons, List.foldl_nil, Act.put, List.setIfInBounds_toArray, List.set_cons_succ, List.set_cons_zero, e97, e98, e99, e100, e101, e102, e103, e104, e105, e106, e107, e108, e109, e110, e111, e112, e113, e114, e115, e116, e117, e118, e119, e120, e121, e122, e123, e124, e125, e126, e127] at hA
          clear hO hall e97 e98 e99 e100 e101 e102 e103 e104 e105 e106 e107 e108 e109 e110 e111 e112 e113 e114 e115 e116 e117 e118 e119 e120 e121 e122 e123 e124 e125 e126 e127
          subst hA
          --ENDREGION
          have VB7 : Hid (Below w.heap.size w w') := Lib.hid (bnext (bnext VB3.out VB6.out) (of_drew hE))
          clear hE
          go_wp2_with fail
          refine (works20_any w').mono ?_
          rintro e w8 ⟨rfl, hb8⟩
          have VB8 : Hid (Below w.heap.size w w8) := Lib.hid (bnext VB7.out hb8)
          clear hb8
          go_wp2
          go_ret
          exact ⟨rfl, VB8.out⟩
end Go.Proofs.Ytbeppkokkbgddaa
