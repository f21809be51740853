/- The statement PartParts: the law. -/
import Derived.Test.YtmcmapcijncblaaPartE
namespace Go.Proofs.Ytmcmapcijncblaa
open Go.RowKit

theorem pnth_take (l : List Prt) (k i : Nat) (h : i < k) : pnth (l.take k) i = pnth l i := by
  unfold pnth; rw [List.getD_eq_getElem?_getD, List.getD_eq_getElem?_getD, List.getElem?_take, if_pos h]
theorem pnth_drop (l : List Prt) (k i : Nat) : pnth (l.drop k) i = pnth l (k + i) := by
  unfold pnth; rw [List.getD_eq_getElem?_getD, List.getD_eq_getElem?_getD, List.getElem?_drop]
theorem wsum_take (l : List Prt) (k : Nat) : ∀ j, j ≤ k → wsum (l.take k) j = wsum l j
  | 0, _ => rfl
  | j + 1, h => by
    show wsum (l.take k) j + (pnth (l.take k) j).wt = wsum l j + (pnth l j).wt
    rw [wsum_take l k j (by omega), pnth_take l k j (by omega)]
theorem wsum_drop (l : List Prt) (k : Nat) : ∀ j, wsum (l.drop k) j = wsum l (k + j) - wsum l k
  | 0 => by show (0 : Int) = wsum l (k + 0) - wsum l k; rw [Nat.add_zero]; omega
  | j + 1 => by
    show wsum (l.drop k) j + (pnth (l.drop k) j).wt = (wsum l (k + j) + (pnth l (k + j)).wt) - wsum l k
    rw [wsum_drop l k j, pnth_drop]; omega
theorem check_zero {l : List Prt} (h : checkOf l = 0) : 1 ≤ len l ∧ len l ≤ 65536 ∧ lackB l = false ∧ wsum l (len l) < 18446744073709551616 := by
  unfold checkOf at h
  split at h
  · assumption
  · cases h
theorem len_take (l : List Prt) (k : Nat) (h : k ≤ len l) : len (l.take k) = k := by rw [len_eq] at *; simp; omega
theorem len_drop (l : List Prt) (k : Nat) : len (l.drop k) = len l - k := by rw [len_eq, len_eq]; simp
theorem check_take {l : List Prt} (hok : ∀ i, (pnth l i).Ok) (h : checkOf l = 0) {k : Nat} (h0 : 0 < k) (hk : k ≤ len l) : checkOf (l.take k) = 0 := by
  obtain ⟨c1, c2, c3, c4⟩ := check_zero h
  have hl := len_take l k hk
  refine checkOf_ok (by omega) (by omega) (lackB_false fun j hj => ?_) ?_
  · rw [pnth_take l k j (by omega)]; exact lackB_none c3 j (by omega)
  · rw [hl, wsum_take l k k (Nat.le_refl _)]
    have := wsum_mono hok hk
    omega
theorem check_drop {l : List Prt} (hok : ∀ i, (pnth l i).Ok) (h : checkOf l = 0) {k : Nat} (hk : k < len l) : checkOf (l.drop k) = 0 := by
  obtain ⟨c1, c2, c3, c4⟩ := check_zero h
  have hl := len_drop l k
  refine checkOf_ok (by omega) (by omega) (lackB_false fun j hj => ?_) ?_
  · rw [pnth_drop]; exact lackB_none c3 (k + j) (by omega)
  · rw [hl, wsum_drop, show k + (len l - k) = len l by omega]
    have := (wsum_bd hok k).1
    omega
theorem check_nil : checkOf [] = 2 := by decide
theorem total_take {l : List Prt} (hok : ∀ i, (pnth l i).Ok) (h : checkOf l = 0) {k : Nat} (hk : k ≤ len l) : totalOf (l.take k) = wsum l k := by
  rcases Nat.eq_zero_or_pos k with e | e
  · subst e; rw [List.take_zero]; rfl
  · unfold totalOf; rw [if_pos (check_take hok h e hk), len_take l k hk, wsum_take l k k (Nat.le_refl _)]
theorem total_drop {l : List Prt} (hok : ∀ i, (pnth l i).Ok) (h : checkOf l = 0) {k : Nat} (hk : k ≤ len l) : totalOf (l.drop k) = wsum l (len l) - wsum l k := by
  rcases Nat.lt_or_ge k (len l) with e | e
  · unfold totalOf; rw [if_pos (check_drop hok h e), len_drop, wsum_drop, show k + (len l - k) = len l by omega]
  · obtain rfl : k = len l := by omega
    rw [show l.drop (len l) = [] from List.drop_length, Int.sub_self]; rfl
theorem total_all {l : List Prt} (h : checkOf l = 0) : totalOf l = wsum l (len l) := by unfold totalOf; rw [if_pos h]
theorem wsum_ge {l : List Prt} (hok : ∀ i, (pnth l i).Ok) (h : lackB l = false) : ∀ k, k ≤ len l → (k : Int) ≤ wsum l k
  | 0, _ => Int.le_refl 0
  | k + 1, hk => by
    have ih := wsum_ge hok h k (by omega)
    have a := lackB_none h k (by omega)
    have b := (hok k).wt0
    unfold lacksB at a
    simp only [Bool.or_eq_false_iff, decide_eq_false_iff_not] at a
    show _ ≤ wsum l k + (pnth l k).wt
    omega

theorem run_drop (b off n c k : Nat) (h1 : k ≤ n) (w : World) : (Instr.slice 46 (.slice (some ⟨b, off, none⟩) n c) (some (.int .i64 k)) none none).run Try.prog w = .ok (.slice (if c = k then some ⟨b, off, none⟩ else some ⟨b, off + k * 5, none⟩) (n - k) (c - k)) w := by
  simp [go_sem, h1]

set_option maxRecDepth 100000 in
set_option maxHeartbeats 2000000 in
theorem parts_law (a : Option Addr) (cap : Nat) (l : List Prt) (n : Int) (w : World) (hlen : len l ≤ 9223372036854775807) (hc : Prts w a l) (hok : ∀ i, (pnth l i).Ok) (n0 : 0 ≤ n) (n1 : n ≤ 255) :
    Calls Try.prog 7 #[.slice a (len l) cap, .int .u8 n] w fun e w' => e = .returned (.bool true) ∧ Below w.heap.size w w' := by
  have HC := Lib.hid hc
  have HO0 := Lib.hid hok
  clear hc hok
  go_enter Try.func7, Try.ntmps7
  go_wp2_with fail
  refine (works15_any _).mono ?_
  rintro e w1 ⟨rfl, hb1⟩
  have B1 := Lib.hid hb1
  clear hb1
  go_wp2_with fail
  refine (short_any a cap l _ hlen (HC.out.below B1.out)).mono ?_
  rintro e w2 ⟨v, rfl, hown, hb2⟩
  obtain ⟨L, hLd⟩ : ∃ L, L = shortOf l := ⟨_, rfl⟩
  have HO := Lib.hid (shortOf_ok HO0.out)
  have hl30 := shortOf_len l
  rw [← hLd] at hown HO hl30
  have B2 := Lib.hid (bnext B1.out hb2)
  obtain ⟨la, lc, rfl, hP, hlc⟩ := Prts.own hown
  have HP := Lib.hid hP
  clear hown hb2 hLd hP HO0 HC
  have hL : len L ≤ 9223372036854775807 := by omega
  go_wp2_with fail
  refine (check_any la lc L _ hL HP.out HO.out).mono ?_
  rintro e w3 ⟨he, hb3⟩
  have B3 := Lib.hid hb3
  clear hb3
  rcases checkOf_two L with hz | hz
  · rw [hz] at he
    subst he
    obtain ⟨c1, c2, c3, c4⟩ := check_zero hz
    have HZ := Lib.hid hz
    have C3 := Lib.hid c3
    have HT := Lib.hid (total_all hz)
    clear hz c3
    obtain ⟨b, off, rfl, -⟩ := HP.out 0 (by omega)
    obtain ⟨k, hk⟩ : ∃ k : Nat, n % ((len L : Int) + 1) = k := ⟨(n % ((len L : Int) + 1)).toNat, by have := Int.emod_nonneg n (show ((len L : Int) + 1) ≠ 0 by omega); omega⟩
    have hk1 : k ≤ len L := by have := Int.emod_lt_of_pos n (show 0 < ((len L : Int) + 1) by omega); omega
    have hk2 : k ≤ lc := by omega
    have i1 : IntKind.i64.wrap n = n := IntWalk.i64_in _ (by omega)
    have i2 : n.tmod ((len L : Int) + 1) = k := by rw [Int.tmod_eq_emod_of_nonneg n0]; exact hk
    have i3 : IntKind.u64.wrap (len L : Int) = len L := IntWalk.u64_in _ (by omega)
    have HK := Lib.hid hk
    clear hk
    obtain ⟨T, hT⟩ : ∃ T, T = wsum L (len L) := ⟨_, rfl⟩
    obtain ⟨X, hX⟩ : ∃ X, X = wsum L k := ⟨_, rfl⟩
    obtain ⟨Y, hY⟩ : ∃ Y, Y = T - X := ⟨_, rfl⟩
    have t1 : (len L : Int) ≤ T := by rw [hT]; exact wsum_ge HO.out C3.out _ (Nat.le_refl _)
    have t2 : decide (T < (len L : Int)) = false := by simp; omega
    have x0 : 0 ≤ X := by rw [hX]; exact (wsum_bd HO.out k).1
    have x1 : X ≤ T := by rw [hX, hT]; exact wsum_mono HO.out hk1
    have y0 : 0 ≤ Y := by omega
    rw [← hT] at c4
    have HXY : (X + Y == T) = true := by simp; omega
    have wxy : IntKind.u64.wrap (X + Y) = X + Y := IntWalk.u64_in _ (by omega)
    rw [← hT] at HT
    have HTH := Lib.hid hT
    go_wp2_with fail
    refine (total_any (some ⟨b, off, none⟩) lc L _ hL (HP.out.below B3.out) HO.out).mono ?_
    rintro e w4 ⟨he, hb4⟩
    rw [HT.out] at he
    subst he
    have B4 := Lib.hid (bnext B3.out hb4)
    have HP4 := Lib.hid (HP.out.below B4.out)
    clear hb4
    obtain ⟨da, hda⟩ : ∃ da, (if lc = k then some (⟨b, off, none⟩ : Addr) else some ⟨b, off + k * 5, none⟩) = da := ⟨_, rfl⟩
    have HPD : Hid (∀ wv, Prts wv (some ⟨b, off, none⟩) L → Prts wv da (L.drop k)) := Lib.hid (fun wv h => by
      rw [← hda]
      split
      · rw [List.drop_eq_nil_of_le (by rw [← len_eq]; omega)]; exact Prts.nil _ _
      · exact h.drop k)
    have HDA := Lib.hid hda
    have CT : Hid (∀ wv, Below w4.heap.size w4 wv → Calls Try.prog 17 #[.slice (some ⟨b, off, none⟩) k lc] wv fun e w' => e = .returned (.int .u64 X) ∧ Below wv.heap.size wv w') := Lib.hid (fun wv hb => by
      have h := total_any (some ⟨b, off, none⟩) lc (L.take k) wv (by rw [len_take L k hk1]; omega) ((HP4.out.below hb).take k) (oks (fun p hp => by
        obtain ⟨i, hi, rfl⟩ := List.getElem_of_mem (List.mem_of_mem_take hp)
        have := HO.out i; rwa [pnth_eq L i hi] at this))
      rw [len_take L k hk1, total_take HO.out HZ.out hk1, ← hX] at h
      exact h)
    have CD : Hid (∀ wv, Below w4.heap.size w4 wv → Calls Try.prog 17 #[.slice da (len L - k) (lc - k)] wv fun e w' => e = .returned (.int .u64 Y) ∧ Below wv.heap.size wv w') := Lib.hid (fun wv hb => by
      have h := total_any da (lc - k) (L.drop k) wv (by rw [len_drop]; omega) (HPD.out wv (HP4.out.below hb)) (fun i => by rw [pnth_drop]; exact HO.out _)
      rw [len_drop, total_drop HO.out HZ.out hk1, ← hX, ← hT, ← hY] at h
      exact h)
    have HX := Lib.hid hX
    clear hX hY hT hda
    go_wp2
    --REGION sextant/sextantlaw15.PartParts 9 pparts9
    refine wp_region_all 1000 (none) (phis [fun u _ => u = (.slice (some ⟨b, off, none⟩) (len L) lc), fun u _ => u = (.int .i64 k), fun u _ => u = (.slice (some ⟨b, off, none⟩) k lc), fun u _ => u = (.int .u64 X), fun u _ => u = (.slice (some ⟨b, off, none⟩) (len L) lc), fun u _ => u = (.int .i64 k), fun u _ => u = (.slice da (len L - k) (lc - k)), fun u _ => u = (.int .u64 Y), fun u _ => u = (.int .u64 X), fun u _ => u = (.int .u64 Y)]) rfl (by kernel_rfl) (mono_of ⟨mono_eq, mono_eq, mono_eq, mono_eq, mono_eq, mono_eq, mono_eq, mono_eq, mono_eq, mono_eq, trivial⟩) (steps_of 10 ⟨?s0, ?s1, ?s2, ?s3, ?s4, ?s5, ?s6, ?s7, ?s8, ?s9, trivial⟩) ?_
    case s0 =>
      refine step_val (v := (.slice (some ⟨b, off, none⟩) (len L) lc)) (fun av wv hE hS hO hD => ?_) (fun _ => rfl)
      have h0 : av.eval (.tmp 0) = (.slice (some ⟨b, off, none⟩) (len L) lc) := hO.2.2 0 rfl
      have f0 := (ev_form av 0).symm.trans h0
      refine ⟨rfl, ?_⟩
      simp [go_sem, f0, hk1, hk2]
    case s1 =>
      refine step_val (v := (.int .i64 k)) (fun av wv hE hS hO hD => ?_) (fun _ => rfl)
      have h5 : av.eval (.tmp 5) = (.int .i64 k) := hO.2.2 5 rfl
      have f5 := (ev_form av 5).symm.trans h5
      refine ⟨rfl, ?_⟩
      simp [go_sem, f5, hk1, hk2]
    case s2 =>
      refine step_val (v := (.slice (some ⟨b, off, none⟩) k lc)) (fun av wv hE hS hO hD => ?_) (fun _ => rfl)
      have d32 : av.eval (.tmp 32) = (.slice (some ⟨b, off, none⟩) (len L) lc) := hD.1 rfl _ rfl
      have f32 := (ev_form av 32).symm.trans d32
      have d33 : av.eval (.tmp 33) = (.int .i64 k) := hD.2.1 rfl _ rfl
      have f33 := (ev_form av 33).symm.trans d33
      refine ⟨rfl, ?_⟩
      simp [go_sem, f32, f33, hk1, hk2]
    case s3 =>
      refine step_wp (fun av wv hE hS hO hD => ?_)
      have d34 : av.eval (.tmp 34) = (.slice (some ⟨b, off, none⟩) k lc) := hD.1 rfl _ rfl
      have f34 := (ev_form av 34).symm.trans d34
      refine ⟨rfl, ?_⟩
      refine wp_of_call (v := (.int .u64 X)) (by simp [go_sem, f34, hk1, hk2]) (CT.out wv (of_drew hE)) (fun w2 hb => ⟨_, rfl, es_of_ext hb, rfl⟩)
    case s4 =>
      refine step_val (v := (.slice (some ⟨b, off, none⟩) (len L) lc)) (fun av wv hE hS hO hD => ?_) (fun _ => rfl)
      have h0 : av.eval (.tmp 0) = (.slice (some ⟨b, off, none⟩) (len L) lc) := hO.2.2 0 rfl
      have f0 := (ev_form av 0).symm.trans h0
      refine ⟨rfl, ?_⟩
      simp [go_sem, f0, hk1, hk2]
    case s5 =>
      refine step_val (v := (.int .i64 k)) (fun av wv hE hS hO hD => ?_) (fun _ => rfl)
      have h5 : av.eval (.tmp 5) = (.int .i64 k) := hO.2.2 5 rfl
      have f5 := (ev_form av 5).symm.trans h5
      refine ⟨rfl, ?_⟩
      simp [go_sem, f5, hk1, hk2]
    case s6 =>
      refine step_val (v := (.slice da (len L - k) (lc - k))) (fun av wv hE hS hO hD => ?_) (fun _ => rfl)
      have d36 : av.eval (.tmp 36) = (.slice (some ⟨b, off, none⟩) (len L) lc) := hD.1 rfl _ rfl
      have f36 := (ev_form av 36).symm.trans d36
      have d37 : av.eval (.tmp 37) = (.int .i64 k) := hD.2.1 rfl _ rfl
      have f37 := (ev_form av 37).symm.trans d37
      refine ⟨rfl, ?_⟩
      simp [go_sem, f36, f37, hk1, HDA.out]
    case s7 =>
      refine step_wp (fun av wv hE hS hO hD => ?_)
      have d38 : av.eval (.tmp 38) = (.slice da (len L - k) (lc - k)) := hD.1 rfl _ rfl
      have f38 := (ev_form av 38).symm.trans d38
      refine ⟨rfl, ?_⟩
      refine wp_of_call (v := (.int .u64 Y)) (by simp [go_sem, f38, hk1, hk2]) (CD.out wv (of_drew hE)) (fun w2 hb => ⟨_, rfl, es_of_ext hb, rfl⟩)
    case s8 =>
      refine step_val (v := (.int .u64 X)) (fun av wv hE hS hO hD => ?_) (fun _ => rfl)
      have d35 : av.eval (.tmp 35) = (.int .u64 X) := hD.1 rfl _ rfl
      have f35 := (ev_form av 35).symm.trans d35
      refine ⟨rfl, ?_⟩
      simp [go_sem, f35, hk1, hk2]
    case s9 =>
      refine step_val (v := (.int .u64 Y)) (fun av wv hE hS hO hD => ?_) (fun _ => rfl)
      have d39 : av.eval (.tmp 39) = (.int .u64 Y) := hD.1 rfl _ rfl
      have f39 := (ev_form av 39).symm.trans d39
      refine ⟨rfl, ?_⟩
      simp [go_sem, f39, hk1, hk2]
    intro a' w' hE hO hall
    have hA := act_of_outer (ds := [32, 33, 34, 35, 36, 37, 38, 39, 6, 7]) rfl hO (by kernel_rfl)
    have e32 : (fun u _ => u = (.slice (some ⟨b, off, none⟩) (len L) lc)) (a'.eval (.tmp 32)) w' := hall.1 _ rfl
    have e33 : (fun u _ => u = (.int .i64 k)) (a'.eval (.tmp 33)) w' := hall.2.1 _ rfl
    have e34 : (fun u _ => u = (.slice (some ⟨b, off, none⟩) k lc)) (a'.eval (.tmp 34)) w' := hall.2.2.1 _ rfl
    have e35 : (fun u _ => u = (.int .u64 X)) (a'.eval (.tmp 35)) w' := hall.2.2.2.1 _ rfl
    have e36 : (fun u _ => u = (.slice (some ⟨b, off, none⟩) (len L) lc)) (a'.eval (.tmp 36)) w' := hall.2.2.2.2.1 _ rfl
    have e37 : (fun u _ => u = (.int .i64 k)) (a'.eval (.tmp 37)) w' := hall.2.2.2.2.2.1 _ rfl
    have e38 : (fun u _ => u = (.slice da (len L - k) (lc - k))) (a'.eval (.tmp 38)) w' := hall.2.2.2.2.2.2.1 _ rfl
    have e39 : (fun u _ => u = (.int .u64 Y)) (a'.eval (.tmp 39)) w' := hall.2.2.2.2.2.2.2.1 _ rfl
    have e6 : (fun u _ => u = (.int .u64 X)) (a'.eval (.tmp 6)) w' := hall.2.2.2.2.2.2.2.2.1 _ rfl
    have e7 : (fun u _ => u = (.int .u64 Y)) (a'.eval (.tmp 7)) w' := hall.2.2.2.2.2.2.2.2.2.1 _ rfl
    simp only [List.foldl_cons, List.foldl_nil, Act.put, List.setIfInBounds_toArray, List.set_cons_succ, List.set_cons_zero, e32, e33, e34, e35, e36, e37, e38, e39, e6, e7] at hA
    clear hO hall e32 e33 e34 e35 e36 e37 e38 e39 e6 e7
    subst hA
    --ENDREGION
    have B5 := Lib.hid (bnext B4.out (of_drew hE))
    clear hE CT CD
    by_cases hin : 0 < k ∧ k < len L
    · obtain ⟨k0, k1⟩ := hin
      have k0' : 0 < (k : Int) := by omega
      have k1' : (k : Int) < len L := by omega
      have hnk : ¬ lc = k := by omega
      have E1 := Lib.hid (check_take HO.out HZ.out k0 hk1)
      have E2 := Lib.hid (check_drop HO.out HZ.out k1)
      have Q1 := check_any (some ⟨b, off, none⟩) lc (L.take k)
      have Q2 := check_any (some ⟨b, off + k * 5, none⟩) (lc - k) (L.drop k)
      rw [len_take L k hk1, E1.out] at Q1
      rw [len_drop, E2.out] at Q2
      have Q1H := Lib.hid Q1
      have Q2H := Lib.hid Q2
      clear Q1 Q2
      go_wp2_with fail
      refine (Q1H.out _ (by omega) ((HP.out.below B5.out).take k) (oks (fun p hp => by
        obtain ⟨i, hi, rfl⟩ := List.getElem_of_mem (List.mem_of_mem_take hp)
        have := HO.out i; rwa [pnth_eq L i hi] at this))).mono ?_
      rintro e w6 ⟨rfl, hb6⟩
      have B6 := Lib.hid (bnext B5.out hb6)
      clear hb6
      go_wp2_with fail
      refine (Q2H.out _ (by omega) ((HP.out.below B6.out).drop k) (fun i => by rw [pnth_drop]; exact HO.out _)).mono ?_
      rintro e w7 ⟨rfl, hb7⟩
      have B7 := Lib.hid (bnext B6.out hb7)
      clear hb7
      go_wp2
      go_loop [8, 9] (fun n i => ∃ m : Nat, m ≤ len L ∧ i = .int .i64 m ∧ n = .int .u64 (wsum L m)) (fun _ i => len L - (intOf i).toNat)
      case atStart => exact ⟨0, Nat.zero_le _, rfl, rfl⟩
      case round =>
        obtain ⟨m, hm, rfl, rfl⟩ := hrel
        by_cases hlt : m < len L
        · obtain ⟨b', off', he, ⟨c0, c1, c2, c3, c4⟩⟩ := (HP.out.below B7.out) m hlt
          cases he
          have b0 : (m : Int) < len L := (by omega)
          have w0 := (HO.out m).wt0
          have s0 := (wsum_bd HO.out m).1
          have s1 : wsum L m + (pnth L m).wt < 18446744073709551616 := (by
            have a := wsum_mono HO.out (show m + 1 ≤ len L by omega)
            have b : wsum L (m + 1) = wsum L m + (pnth L m).wt := rfl
            have c := HTH.out
            omega)
          go_wp2
          go_round
          case rel => exact ⟨m + 1, by omega, by go_num, rfl⟩
          case measure => simp [intOf]; omega
        · obtain rfl : m = len L := (by omega)
          rw [← HTH.out]
          go_wp2_with fail
          refine (total_any (some ⟨b, off, none⟩) lc L _ hL (HP.out.below B7.out) HO.out).mono ?_
          rintro e x1 ⟨he, xb1⟩
          rw [HT.out] at he
          subst he
          have Y1 := Lib.hid (bnext B7.out xb1)
          clear xb1
          go_wp2_with fail
          refine (total_any (some ⟨b, off, none⟩) lc L _ hL (HP.out.below Y1.out) HO.out).mono ?_
          rintro e x2 ⟨he, xb2⟩
          rw [HT.out] at he
          subst he
          have Y2 := Lib.hid (bnext Y1.out xb2)
          clear xb2
          go_wp2_with fail
          refine (total_any (some ⟨b, off, none⟩) lc L _ hL (HP.out.below Y2.out) HO.out).mono ?_
          rintro e x3 ⟨he, xb3⟩
          rw [HT.out] at he
          subst he
          have Y3 := Lib.hid (bnext B2.out (bnext Y2.out xb3))
          clear xb3
          go_wp2
          go_ret
          exact ⟨rfl, Y3.out⟩
    · rcases (by omega : k = 0 ∨ (0 < k ∧ k = len L)) with e | ⟨e1, e2⟩
      · have k0' : ¬ 0 < (k : Int) := by omega
        go_wp2
        go_loop [8, 9] (fun n i => ∃ m : Nat, m ≤ len L ∧ i = .int .i64 m ∧ n = .int .u64 (wsum L m)) (fun _ i => len L - (intOf i).toNat)
        case atStart => exact ⟨0, Nat.zero_le _, rfl, rfl⟩
        case round =>
          obtain ⟨m, hm, rfl, rfl⟩ := hrel
          by_cases hlt : m < len L
          · obtain ⟨b', off', he, ⟨c0, c1, c2, c3, c4⟩⟩ := (HP.out.below B5.out) m hlt
            cases he
            have b0 : (m : Int) < len L := (by omega)
            have w0 := (HO.out m).wt0
            have s0 := (wsum_bd HO.out m).1
            have s1 : wsum L m + (pnth L m).wt < 18446744073709551616 := (by
              have a := wsum_mono HO.out (show m + 1 ≤ len L by omega)
              have b : wsum L (m + 1) = wsum L m + (pnth L m).wt := rfl
              have c := HTH.out
              omega)
            go_wp2
            go_round
            case rel => exact ⟨m + 1, by omega, by go_num, rfl⟩
            case measure => simp [intOf]; omega
          · obtain rfl : m = len L := (by omega)
            rw [← HTH.out]
            go_wp2_with fail
            refine (total_any (some ⟨b, off, none⟩) lc L _ hL (HP.out.below B5.out) HO.out).mono ?_
            rintro e x1 ⟨he, xb1⟩
            rw [HT.out] at he
            subst he
            have Y1 := Lib.hid (bnext B5.out xb1)
            clear xb1
            go_wp2_with fail
            refine (total_any (some ⟨b, off, none⟩) lc L _ hL (HP.out.below Y1.out) HO.out).mono ?_
            rintro e x2 ⟨he, xb2⟩
            rw [HT.out] at he
            subst he
            have Y2 := Lib.hid (bnext Y1.out xb2)
            clear xb2
            go_wp2_with fail
            refine (total_any (some ⟨b, off, none⟩) lc L _ hL (HP.out.below Y2.out) HO.out).mono ?_
            rintro e x3 ⟨he, xb3⟩
            rw [HT.out] at he
            subst he
            have Y3 := Lib.hid (bnext B2.out (bnext Y2.out xb3))
            clear xb3
            go_wp2
            go_ret
            exact ⟨rfl, Y3.out⟩
      · have k0' : 0 < (k : Int) := by omega
        have k1' : ¬ (k : Int) < len L := by omega
        clear e2
        go_wp2
        go_loop [8, 9] (fun n i => ∃ m : Nat, m ≤ len L ∧ i = .int .i64 m ∧ n = .int .u64 (wsum L m)) (fun _ i => len L - (intOf i).toNat)
        case atStart => exact ⟨0, Nat.zero_le _, rfl, rfl⟩
        case round =>
          obtain ⟨m, hm, rfl, rfl⟩ := hrel
          by_cases hlt : m < len L
          · obtain ⟨b', off', he, ⟨c0, c1, c2, c3, c4⟩⟩ := (HP.out.below B5.out) m hlt
            cases he
            have b0 : (m : Int) < len L := (by omega)
            have w0 := (HO.out m).wt0
            have s0 := (wsum_bd HO.out m).1
            have s1 : wsum L m + (pnth L m).wt < 18446744073709551616 := (by
              have a := wsum_mono HO.out (show m + 1 ≤ len L by omega)
              have b : wsum L (m + 1) = wsum L m + (pnth L m).wt := rfl
              have c := HTH.out
              omega)
            go_wp2
            go_round
            case rel => exact ⟨m + 1, by omega, by go_num, rfl⟩
            case measure => simp [intOf]; omega
          · obtain rfl : m = len L := (by omega)
            rw [← HTH.out]
            go_wp2_with fail
            refine (total_any (some ⟨b, off, none⟩) lc L _ hL (HP.out.below B5.out) HO.out).mono ?_
            rintro e x1 ⟨he, xb1⟩
            rw [HT.out] at he
            subst he
            have Y1 := Lib.hid (bnext B5.out xb1)
            clear xb1
            go_wp2_with fail
            refine (total_any (some ⟨b, off, none⟩) lc L _ hL (HP.out.below Y1.out) HO.out).mono ?_
            rintro e x2 ⟨he, xb2⟩
            rw [HT.out] at he
            subst he
            have Y2 := Lib.hid (bnext Y1.out xb2)
            clear xb2
            go_wp2_with fail
            refine (total_any (some ⟨b, off, none⟩) lc L _ hL (HP.out.below Y2.out) HO.out).mono ?_
            rintro e x3 ⟨he, xb3⟩
            rw [HT.out] at he
            subst he
            have Y3 := Lib.hid (bnext B2.out (bnext Y2.out xb3))
            clear xb3
            go_wp2
            go_ret
            exact ⟨rfl, Y3.out⟩
  · rw [hz] at he
    subst he
    have E : Hid (totalOf L = 0) := Lib.hid (by unfold totalOf; rw [hz]; rfl)
    clear hz
    go_wp2_with fail
    refine (total_any la lc L _ hL (HP.out.below B3.out) HO.out).mono ?_
    rintro e w4 ⟨he, hb4⟩
    rw [E.out] at he
    subst he
    have B4 := Lib.hid (bnext B2.out (bnext B3.out hb4))
    clear hb4
    go_wp2
    go_ret
    exact ⟨rfl, B4.out⟩
end Go.Proofs.Ytmcmapcijncblaa
