/- The statement UnpackBack: the law. -/
import Derived.Test.YtmcmapcijncblaaDoorBackA
namespace Go.Proofs.YtmcmapcijncblaaDoor
open Go.RowKit
set_option linter.unusedSimpArgs false
set_option linter.unusedVariables false

set_option maxRecDepth 100000 in
set_option maxHeartbeats 6000000 in
theorem back_law (B : Nat) (ca : Option Addr) (cc : Nat) (L : List Thg) (w : World) (hlen : len L ≤ cc) (hcc : cc ≤ 9223372036854775807) (hc : Thgs w ca L) (hok : ∀ i, (gnth L i).Ok) (ht : Tabs B w) (het : ErrType w) (hB : B ≤ w.heap.size) :
    Calls Tryd.prog 4 #[.slice ca (len L) cc] w fun e w' => e = .returned (.bool true) ∧ Below w.heap.size w w' := by
  have HT := Lib.hid ht
  have HET := Lib.hid het
  have HC := Lib.hid hc
  have HOK := Lib.hid hok
  clear ht het hc hok
  go_enter Tryd.func4, Tryd.ntmps4
  go_wp2_with fail
  refine (works06_any B w HT.out HET.out hB).mono ?_
  rintro e w0 ⟨rfl, hb0⟩
  have X0 := Lib.hid hb0
  clear hb0
  obtain ⟨m, hm2, hm3, mm⟩ : ∃ m : Nat, m ≤ 40 ∧ m ≤ len L ∧ (if (40 : Int) < (len L : Int) then (40 : Int) else (len L : Int)) = (m : Int) := ⟨min (len L) 40, by omega, by omega, by split <;> omega⟩
  have mcc : m ≤ cc := by omega
  go_wp2_with fail
  clear mm
  go_loopg [3, 4] m (fun g s i wr => ∃ k : Nat, g + k = m ∧ s = .string (whole L k) ∧ i = .int .i64 k ∧ Hid (Below w.heap.size w wr))
  case atStart => exact ⟨0, rfl, rfl, rfl, X0.out⟩
  case round =>
    obtain ⟨k, hk0, rfl, rfl, HX⟩ := hrel
    by_cases hlt : k < m
    · obtain ⟨cb, co, rfl, a0, a1, a2⟩ := (HC.out.below HX.out) k (by omega)
      obtain ⟨q, hq⟩ : ∃ q : Nat, (gnth L k).so % 5 = q := ⟨((gnth L k).so % 5).toNat, by have := (HOK.out k).s0; omega⟩
      have q5 : q < 5 := by omega
      have iq : IntKind.i64.wrap (q : Int) = q := IntWalk.i64_in _ (by omega)
      have b0 : (k : Int) < m := by omega
      have s0 := (HOK.out k).s0
      have n0 := (HOK.out k).n0
      have n1 := (HOK.out k).n1
      obtain ⟨X, hX⟩ : ∃ X, (gnth L k).tx = X := ⟨_, rfl⟩
      have tz : X.size ≤ 9223372036854775807 := by rw [← hX]; exact (HOK.out k).tz
      rw [hX] at a2
      have HHX := Lib.hid hX
      clear hX
      have i1 : (k : Int) < m := b0
      have i2 : k < m := hlt
      obtain ⟨mn, hmn⟩ : ∃ mn, min X.size 700 = mn := ⟨_, rfl⟩
      have mx : (if (700 : Int) < (X.size : Int) then (700 : Int) else (X.size : Int)) = (mn : Int) := by split <;> omega
      have ml : mn ≤ X.size := by omega
      have cx : X.extract 0 mn = cutT X := by rw [← hmn]; rfl
      clear hmn
      go_upto_region 9 with fail
      --REGION sextant/sextantlaw06.UnpackBack 9 back9
      refine wp_region_all 1000 (none) (phis [fun u _ => u = (.slice (some ⟨cb, co, none⟩) m cc), fun u _ => u = (.int .i64 k), fun u _ => u = (.pointer (some ⟨cb, co + k * 3, none⟩)), fun u _ => u = (.pointer (some ⟨cb, co + k * 3 + 2, none⟩)), fun u _ => u = (.string X), fun u _ => u = (.slice (some ⟨cb, co, none⟩) m cc), fun u _ => u = (.int .i64 k), fun u _ => u = (.pointer (some ⟨cb, co + k * 3, none⟩)), fun u _ => u = (.pointer (some ⟨cb, co + k * 3 + 2, none⟩)), fun u _ => u = (.string X), fun u _ => u = (.int .i64 X.size), fun u _ => u = (.int .i64 mn), fun u _ => u = (.string (cutT X)), fun u _ => u = (.string (cutT X))]) rfl (by kernel_rfl) (mono_of ⟨mono_eq, mono_eq, mono_eq, mono_eq, mono_eq, mono_eq, mono_eq, mono_eq, mono_eq, mono_eq, mono_eq, mono_eq, mono_eq, mono_eq, trivial⟩) (steps_of 14 ⟨?s0, ?s1, ?s2, ?s3, ?s4, ?s5, ?s6, ?s7, ?s8, ?s9, ?s10, ?s11, ?s12, ?s13, trivial⟩) ?_
      case s0 =>
        refine step_val (v := (.slice (some ⟨cb, co, none⟩) m cc)) (fun av wv hE hS hO hD => ?_) (fun _ => rfl)
        have h0 : av.eval (.tmp 0) = (.slice (some ⟨cb, co, none⟩) m cc) := hO.2.2 0 rfl
        have f0 := (ev_form av 0).symm.trans h0
        refine ⟨rfl, ?_⟩
        simp [go_sem, f0, i1, i2, mx, ml, cx]
      case s1 =>
        refine step_val (v := (.int .i64 k)) (fun av wv hE hS hO hD => ?_) (fun _ => rfl)
        have h4 : av.eval (.tmp 4) = (.int .i64 k) := hO.2.2 4 rfl
        have f4 := (ev_form av 4).symm.trans h4
        refine ⟨rfl, ?_⟩
        simp [go_sem, f4, i1, i2, mx, ml, cx]
      case s2 =>
        refine step_val (v := (.pointer (some ⟨cb, co + k * 3, none⟩))) (fun av wv hE hS hO hD => ?_) (fun _ => rfl)
        have d34 : av.eval (.tmp 34) = (.slice (some ⟨cb, co, none⟩) m cc) := hD.1 rfl _ rfl
        have f34 := (ev_form av 34).symm.trans d34
        have d35 : av.eval (.tmp 35) = (.int .i64 k) := hD.2.1 rfl _ rfl
        have f35 := (ev_form av 35).symm.trans d35
        refine ⟨rfl, ?_⟩
        simp [go_sem, f34, f35, i1, i2, mx, ml, cx]
      case s3 =>
        refine step_val (v := (.pointer (some ⟨cb, co + k * 3 + 2, none⟩))) (fun av wv hE hS hO hD => ?_) (fun _ => rfl)
        have d36 : av.eval (.tmp 36) = (.pointer (some ⟨cb, co + k * 3, none⟩)) := hD.1 rfl _ rfl
        have f36 := (ev_form av 36).symm.trans d36
        refine ⟨rfl, ?_⟩
        simp [go_sem, f36, i1, i2, mx, ml, cx]
      case s4 =>
        refine step_val (v := (.string X)) (fun av wv hE hS hO hD => ?_) (fun _ => rfl)
        have d37 : av.eval (.tmp 37) = (.pointer (some ⟨cb, co + k * 3 + 2, none⟩)) := hD.1 rfl _ rfl
        have f37 := (ev_form av 37).symm.trans d37
        have a2 := extB_cell hE (by simp) a2
        refine ⟨rfl, ?_⟩
        simp [go_sem, f37, a2, i1, i2, mx, ml, cx]
      case s5 =>
        refine step_val (v := (.slice (some ⟨cb, co, none⟩) m cc)) (fun av wv hE hS hO hD => ?_) (fun _ => rfl)
        have h0 : av.eval (.tmp 0) = (.slice (some ⟨cb, co, none⟩) m cc) := hO.2.2 0 rfl
        have f0 := (ev_form av 0).symm.trans h0
        refine ⟨rfl, ?_⟩
        simp [go_sem, f0, i1, i2, mx, ml, cx]
      case s6 =>
        refine step_val (v := (.int .i64 k)) (fun av wv hE hS hO hD => ?_) (fun _ => rfl)
        have h4 : av.eval (.tmp 4) = (.int .i64 k) := hO.2.2 4 rfl
        have f4 := (ev_form av 4).symm.trans h4
        refine ⟨rfl, ?_⟩
        simp [go_sem, f4, i1, i2, mx, ml, cx]
      case s7 =>
        refine step_val (v := (.pointer (some ⟨cb, co + k * 3, none⟩))) (fun av wv hE hS hO hD => ?_) (fun _ => rfl)
        have d39 : av.eval (.tmp 39) = (.slice (some ⟨cb, co, none⟩) m cc) := hD.1 rfl _ rfl
        have f39 := (ev_form av 39).symm.trans d39
        have d40 : av.eval (.tmp 40) = (.int .i64 k) := hD.2.1 rfl _ rfl
        have f40 := (ev_form av 40).symm.trans d40
        refine ⟨rfl, ?_⟩
        simp [go_sem, f39, f40, i1, i2, mx, ml, cx]
      case s8 =>
        refine step_val (v := (.pointer (some ⟨cb, co + k * 3 + 2, none⟩))) (fun av wv hE hS hO hD => ?_) (fun _ => rfl)
        have d41 : av.eval (.tmp 41) = (.pointer (some ⟨cb, co + k * 3, none⟩)) := hD.1 rfl _ rfl
        have f41 := (ev_form av 41).symm.trans d41
        refine ⟨rfl, ?_⟩
        simp [go_sem, f41, i1, i2, mx, ml, cx]
      case s9 =>
        refine step_val (v := (.string X)) (fun av wv hE hS hO hD => ?_) (fun _ => rfl)
        have d42 : av.eval (.tmp 42) = (.pointer (some ⟨cb, co + k * 3 + 2, none⟩)) := hD.1 rfl _ rfl
        have f42 := (ev_form av 42).symm.trans d42
        have a2 := extB_cell hE (by simp) a2
        refine ⟨rfl, ?_⟩
        simp [go_sem, f42, a2, i1, i2, mx, ml, cx]
      case s10 =>
        refine step_val (v := (.int .i64 X.size)) (fun av wv hE hS hO hD => ?_) (fun _ => rfl)
        have d43 : av.eval (.tmp 43) = (.string X) := hD.1 rfl _ rfl
        have f43 := (ev_form av 43).symm.trans d43
        refine ⟨rfl, ?_⟩
        simp [go_sem, f43, i1, i2, mx, ml, cx]
      case s11 =>
        refine step_val (v := (.int .i64 mn)) (fun av wv hE hS hO hD => ?_) (fun _ => rfl)
        have d44 : av.eval (.tmp 44) = (.int .i64 X.size) := hD.1 rfl _ rfl
        have f44 := (ev_form av 44).symm.trans d44
        refine ⟨rfl, ?_⟩
        simp [go_sem, f44, i1, i2, mx, ml, cx]
      case s12 =>
        refine step_val (v := (.string (cutT X))) (fun av wv hE hS hO hD => ?_) (fun _ => rfl)
        have d38 : av.eval (.tmp 38) = (.string X) := hD.1 rfl _ rfl
        have f38 := (ev_form av 38).symm.trans d38
        have d45 : av.eval (.tmp 45) = (.int .i64 mn) := hD.2.1 rfl _ rfl
        have f45 := (ev_form av 45).symm.trans d45
        refine ⟨rfl, ?_⟩
        simp [go_sem, f38, f45, i1, i2, mx, ml, cx]
      case s13 =>
        refine step_val (v := (.string (cutT X))) (fun av wv hE hS hO hD => ?_) (fun _ => rfl)
        have d46 : av.eval (.tmp 46) = (.string (cutT X)) := hD.1 rfl _ rfl
        have f46 := (ev_form av 46).symm.trans d46
        refine ⟨rfl, ?_⟩
        simp [go_sem, f46, i1, i2, mx, ml, cx]
      intro a' w' hE hO hall
      have hA := act_of_outer (ds := [34, 35, 36, 37, 38, 39, 40, 41, 42, 43, 44, 45, 46, 6]) rfl hO (by kernel_rfl)
      have e34 : (fun u _ => u = (.slice (some ⟨cb, co, none⟩) m cc)) (a'.eval (.tmp 34)) w' := hall.1 _ rfl
      have e35 : (fun u _ => u = (.int .i64 k)) (a'.eval (.tmp 35)) w' := hall.2.1 _ rfl
      have e36 : (fun u _ => u = (.pointer (some ⟨cb, co + k * 3, none⟩))) (a'.eval (.tmp 36)) w' := hall.2.2.1 _ rfl
      have e37 : (fun u _ => u = (.pointer (some ⟨cb, co + k * 3 + 2, none⟩))) (a'.eval (.tmp 37)) w' := hall.2.2.2.1 _ rfl
      have e38 : (fun u _ => u = (.string X)) (a'.eval (.tmp 38)) w' := hall.2.2.2.2.1 _ rfl
      have e39 : (fun u _ => u = (.slice (some ⟨cb, co, none⟩) m cc)) (a'.eval (.tmp 39)) w' := hall.2.2.2.2.2.1 _ rfl
      have e40 : (fun u _ => u = (.int .i64 k)) (a'.eval (.tmp 40)) w' := hall.2.2.2.2.2.2.1 _ rfl
      have e41 : (fun u _ => u = (.pointer (some ⟨cb, co + k * 3, none⟩))) (a'.eval (.tmp 41)) w' := hall.2.2.2.2.2.2.2.1 _ rfl
      have e42 : (fun u _ => u = (.pointer (some ⟨cb, co + k * 3 + 2, none⟩))) (a'.eval (.tmp 42)) w' := hall.2.2.2.2.2.2.2.2.1 _ rfl
      have e43 : (fun u _ => u = (.string X)) (a'.eval (.tmp 43)) w' := hall.2.2.2.2.2.2.2.2.2.1 _ rfl
      have e44 : (fun u _ => u = (.int .i64 X.size)) (a'.eval (.tmp 44)) w' := hall.2.2.2.2.2.2.2.2.2.2.1 _ rfl
      have e45 : (fun u _ => u = (.int .i64 mn)) (a'.eval (.tmp 45)) w' := hall.2.2.2.2.2.2.2.2.2.2.2.1 _ rfl
      have e46 : (fun u _ => u = (.string (cutT X))) (a'.eval (.tmp 46)) w' := hall.2.2.2.2.2.2.2.2.2.2.2.2.1 _ rfl
      have e6 : (fun u _ => u = (.string (cutT X))) (a'.eval (.tmp 6)) w' := hall.2.2.2.2.2.2.2.2.2.2.2.2.2.1 _ rfl
      simp only [List.foldl_cons, List.foldl_nil, Act.put, List.setIfInBounds_toArray, List.set_cons_succ, List.set_cons_zero, e34, e35, e36, e37, e38, e39, e40, e41, e42, e43, e44, e45, e46, e6] at hA
      clear hO hall e34 e35 e36 e37 e38 e39 e40 e41 e42 e43 e44 e45 e46 e6
      subst hA
      --ENDREGION
      clear mx ml cx
      have HCT := Lib.hid (cutT_size X)
      have X1 := Lib.hid (bnext HX.out (of_drew hE))
      clear a0 a1 a2 hE
      obtain ⟨cb', co', e', a0, a1, a2⟩ := (HC.out.below X1.out) k (by omega)
      cases e'
      rw [HHX.out] at a2
      have HS : Hid ((gnth L k).sort = q) := Lib.hid (by unfold Thg.sort; omega)
      by_cases q0 : q = 0
      ·
        go_wp2_with fail
        refine (laid_any w' 0 (gnth L k).nu ⟨#[]⟩ (by decide) (by omega) (by omega) (by first | omega | decide)).mono ?_
        rintro e w2 ⟨rfl, hb2⟩
        have X2 := Lib.hid (bnext X1.out hb2)
        clear hb2
        have hp : laidOf 0 (gnth L k).nu ⟨#[]⟩ = (gnth L k).piece := by
          unfold Thg.piece Thg.num Thg.txt
          rw [HS.out]
          rw [q0]; rfl
        have pz := Thg.piece_size (gnth L k)
        have wz := whole_size L k
        rw [hp]
        clear hp
        obtain ⟨pc, hpc⟩ : ∃ pc, (gnth L k).piece = pc := ⟨_, rfl⟩
        rw [hpc] at pz ⊢
        have HPC := Lib.hid hpc
        clear hpc
        go_wp2_with fail
        go_roundg (gk - 1)
        case rel => exact ⟨k + 1, by omega, congrArg Value.string (by rw [whole, HPC.out]), by go_num, X2⟩
        case measure => omega
      by_cases q1 : q = 1 ∨ q = 2
      · have iw : IntKind.u64.wrap ((cutT X).size : Int) = (cutT X).size := IntWalk.u64_in _ (by have := HCT.out; omega)
        have ct := HCT.out
        go_wp2_with fail
        all_goals
          refine (laid_any w' q ((cutT X).size : Int) (cutT X) q5 (by omega) (by omega) (by first | omega | decide)).mono ?_
          rintro e w2 ⟨rfl, hb2⟩
          have X2 := Lib.hid (bnext X1.out hb2)
          clear hb2
          have hp : laidOf q ((cutT X).size : Int) (cutT X) = (gnth L k).piece := by
            unfold Thg.piece Thg.num Thg.txt
            rw [HS.out]
            rw [if_neg q0, if_pos q1, if_pos q1, HHX.out]
          have pz := Thg.piece_size (gnth L k)
          have wz := whole_size L k
          rw [hp]
          clear hp
          obtain ⟨pc, hpc⟩ : ∃ pc, (gnth L k).piece = pc := ⟨_, rfl⟩
          rw [hpc] at pz ⊢
          have HPC := Lib.hid hpc
          clear hpc
          go_wp2_with fail
          go_roundg (gk - 1)
          case rel => exact ⟨k + 1, by omega, congrArg Value.string (by rw [whole, HPC.out]), by go_num, X2⟩
          case measure => omega
      ·
        go_wp2_with fail
        refine (laid_any w' q ((gnth L k).nu % 65536) ⟨#[]⟩ q5 (by omega) (by omega) (by first | omega | decide)).mono ?_
        rintro e w2 ⟨rfl, hb2⟩
        have X2 := Lib.hid (bnext X1.out hb2)
        clear hb2
        have hp : laidOf q ((gnth L k).nu % 65536) ⟨#[]⟩ = (gnth L k).piece := by
          unfold Thg.piece Thg.num Thg.txt
          rw [HS.out]
          rw [if_neg q0, if_neg q1, if_neg q1]
        have pz := Thg.piece_size (gnth L k)
        have wz := whole_size L k
        rw [hp]
        clear hp
        obtain ⟨pc, hpc⟩ : ∃ pc, (gnth L k).piece = pc := ⟨_, rfl⟩
        rw [hpc] at pz ⊢
        have HPC := Lib.hid hpc
        clear hpc
        go_wp2_with fail
        go_roundg (gk - 1)
        case rel => exact ⟨k + 1, by omega, congrArg Value.string (by rw [whole, HPC.out]), by go_num, X2⟩
        case measure => omega
    · have hkm : k = m := by omega
      subst k
      have HX1 := HX
      clear HX
      go_wp2_with fail
      obtain ⟨S, hS⟩ : ∃ S, whole L m = S := ⟨_, rfl⟩
      rw [hS]
      have hSz : S.size ≤ 28360 := by rw [← hS]; have := whole_size L m; omega
      have HSS := Lib.hid hS
      clear hS
      have g0 : Hid (w.heap.size ≤ wr.heap.size) := Lib.hid HX1.out.size
      refine (New_any wr S 65535).mono ?_
      rintro e w1 ⟨rfl, hw1⟩
      have X1 : Hid (Below w.heap.size w w1) := Lib.hid (by rw [hw1]; exact balloc HX1.out _)
      have R1 : Hid (RdB w1 wr.heap.size S (0 : Nat) 65535) := Lib.hid (by rw [hw1]; exact heap_alloc_new _ _)
      clear hw1 HX1
      obtain ⟨b, hb⟩ : ∃ b, wr.heap.size = b := ⟨_, rfl⟩
      rw [hb] at R1 g0 ⊢
      clear hb wr
      go_wp2_with fail
      obtain ⟨GK, hGK⟩ : ∃ G, G = gk := ⟨_, rfl⟩
      subst hGK
      go_loopg [8] m (fun g i wr => ∃ k : Nat, g + k = m ∧ i = .int .i64 k ∧ Hid (Below w.heap.size w wr) ∧ Hid (RdB wr b S (whole L k).size 65535))
      case atStart => exact ⟨0, rfl, rfl, X1.out, R1.out⟩
      case round =>
        obtain ⟨k, hk0, rfl, HX, R2⟩ := hrel
        by_cases hlt : k < m
        · obtain ⟨cb, co, rfl, a0, a1, a2⟩ := (HC.out.below HX.out) k (by omega)
          obtain ⟨q, hq⟩ : ∃ q : Nat, (gnth L k).so % 5 = q := ⟨((gnth L k).so % 5).toNat, by have := (HOK.out k).s0; omega⟩
          have q5 : q < 5 := by omega
          have iq : IntKind.i64.wrap (q : Int) = q := IntWalk.i64_in _ (by omega)
          have b0 : (k : Int) < m := by omega
          have s0 := (HOK.out k).s0
          have n0 := (HOK.out k).n0
          have n1 := (HOK.out k).n1
          obtain ⟨X, hX⟩ : ∃ X, (gnth L k).tx = X := ⟨_, rfl⟩
          have tz : X.size ≤ 9223372036854775807 := by rw [← hX]; exact (HOK.out k).tz
          rw [hX] at a2
          have HHX := Lib.hid hX
          clear hX
          have i1 : (k : Int) < m := b0
          have i2 : k < m := hlt
          obtain ⟨mn, hmn⟩ : ∃ mn, min X.size 700 = mn := ⟨_, rfl⟩
          have mx : (if (700 : Int) < (X.size : Int) then (700 : Int) else (X.size : Int)) = (mn : Int) := by split <;> omega
          have ml : mn ≤ X.size := by omega
          have cx : X.extract 0 mn = cutT X := by rw [← hmn]; rfl
          clear hmn
          go_upto_region 24 with fail
          --REGION sextant/sextantlaw06.UnpackBack 24 back24
          refine wp_region_all 1000 (none) (phis [fun u _ => u = (.slice (some ⟨cb, co, none⟩) m cc), fun u _ => u = (.int .i64 k), fun u _ => u = (.pointer (some ⟨cb, co + k * 3, none⟩)), fun u _ => u = (.pointer (some ⟨cb, co + k * 3 + 2, none⟩)), fun u _ => u = (.string X), fun u _ => u = (.slice (some ⟨cb, co, none⟩) m cc), fun u _ => u = (.int .i64 k), fun u _ => u = (.pointer (some ⟨cb, co + k * 3, none⟩)), fun u _ => u = (.pointer (some ⟨cb, co + k * 3 + 2, none⟩)), fun u _ => u = (.string X), fun u _ => u = (.int .i64 X.size), fun u _ => u = (.int .i64 mn), fun u _ => u = (.string (cutT X)), fun u _ => u = (.string (cutT X))]) rfl (by kernel_rfl) (mono_of ⟨mono_eq, mono_eq, mono_eq, mono_eq, mono_eq, mono_eq, mono_eq, mono_eq, mono_eq, mono_eq, mono_eq, mono_eq, mono_eq, mono_eq, trivial⟩) (steps_of 14 ⟨?s0, ?s1, ?s2, ?s3, ?s4, ?s5, ?s6, ?s7, ?s8, ?s9, ?s10, ?s11, ?s12, ?s13, trivial⟩) ?_
          case s0 =>
            refine step_val (v := (.slice (some ⟨cb, co, none⟩) m cc)) (fun av wv hE hS hO hD => ?_) (fun _ => rfl)
            have h0 : av.eval (.tmp 0) = (.slice (some ⟨cb, co, none⟩) m cc) := hO.2.2 0 rfl
            have f0 := (ev_form av 0).symm.trans h0
            refine ⟨rfl, ?_⟩
            simp [go_sem, f0, i1, i2, mx, ml, cx]
          case s1 =>
            refine step_val (v := (.int .i64 k)) (fun av wv hE hS hO hD => ?_) (fun _ => rfl)
            have h8 : av.eval (.tmp 8) = (.int .i64 k) := hO.2.2 8 rfl
            have f8 := (ev_form av 8).symm.trans h8
            refine ⟨rfl, ?_⟩
            simp [go_sem, f8, i1, i2, mx, ml, cx]
          case s2 =>
            refine step_val (v := (.pointer (some ⟨cb, co + k * 3, none⟩))) (fun av wv hE hS hO hD => ?_) (fun _ => rfl)
            have d96 : av.eval (.tmp 96) = (.slice (some ⟨cb, co, none⟩) m cc) := hD.1 rfl _ rfl
            have f96 := (ev_form av 96).symm.trans d96
            have d97 : av.eval (.tmp 97) = (.int .i64 k) := hD.2.1 rfl _ rfl
            have f97 := (ev_form av 97).symm.trans d97
            refine ⟨rfl, ?_⟩
            simp [go_sem, f96, f97, i1, i2, mx, ml, cx]
          case s3 =>
            refine step_val (v := (.pointer (some ⟨cb, co + k * 3 + 2, none⟩))) (fun av wv hE hS hO hD => ?_) (fun _ => rfl)
            have d98 : av.eval (.tmp 98) = (.pointer (some ⟨cb, co + k * 3, none⟩)) := hD.1 rfl _ rfl
            have f98 := (ev_form av 98).symm.trans d98
            refine ⟨rfl, ?_⟩
            simp [go_sem, f98, i1, i2, mx, ml, cx]
          case s4 =>
            refine step_val (v := (.string X)) (fun av wv hE hS hO hD => ?_) (fun _ => rfl)
            have d99 : av.eval (.tmp 99) = (.pointer (some ⟨cb, co + k * 3 + 2, none⟩)) := hD.1 rfl _ rfl
            have f99 := (ev_form av 99).symm.trans d99
            have a2 := extB_cell hE (by simp) a2
            refine ⟨rfl, ?_⟩
            simp [go_sem, f99, a2, i1, i2, mx, ml, cx]
          case s5 =>
            refine step_val (v := (.slice (some ⟨cb, co, none⟩) m cc)) (fun av wv hE hS hO hD => ?_) (fun _ => rfl)
            have h0 : av.eval (.tmp 0) = (.slice (some ⟨cb, co, none⟩) m cc) := hO.2.2 0 rfl
            have f0 := (ev_form av 0).symm.trans h0
            refine ⟨rfl, ?_⟩
            simp [go_sem, f0, i1, i2, mx, ml, cx]
          case s6 =>
            refine step_val (v := (.int .i64 k)) (fun av wv hE hS hO hD => ?_) (fun _ => rfl)
            have h8 : av.eval (.tmp 8) = (.int .i64 k) := hO.2.2 8 rfl
            have f8 := (ev_form av 8).symm.trans h8
            refine ⟨rfl, ?_⟩
            simp [go_sem, f8, i1, i2, mx, ml, cx]
          case s7 =>
            refine step_val (v := (.pointer (some ⟨cb, co + k * 3, none⟩))) (fun av wv hE hS hO hD => ?_) (fun _ => rfl)
            have d101 : av.eval (.tmp 101) = (.slice (some ⟨cb, co, none⟩) m cc) := hD.1 rfl _ rfl
            have f101 := (ev_form av 101).symm.trans d101
            have d102 : av.eval (.tmp 102) = (.int .i64 k) := hD.2.1 rfl _ rfl
            have f102 := (ev_form av 102).symm.trans d102
            refine ⟨rfl, ?_⟩
            simp [go_sem, f101, f102, i1, i2, mx, ml, cx]
          case s8 =>
            refine step_val (v := (.pointer (some ⟨cb, co + k * 3 + 2, none⟩))) (fun av wv hE hS hO hD => ?_) (fun _ => rfl)
            have d103 : av.eval (.tmp 103) = (.pointer (some ⟨cb, co + k * 3, none⟩)) := hD.1 rfl _ rfl
            have f103 := (ev_form av 103).symm.trans d103
            refine ⟨rfl, ?_⟩
            simp [go_sem, f103, i1, i2, mx, ml, cx]
          case s9 =>
            refine step_val (v := (.string X)) (fun av wv hE hS hO hD => ?_) (fun _ => rfl)
            have d104 : av.eval (.tmp 104) = (.pointer (some ⟨cb, co + k * 3 + 2, none⟩)) := hD.1 rfl _ rfl
            have f104 := (ev_form av 104).symm.trans d104
            have a2 := extB_cell hE (by simp) a2
            refine ⟨rfl, ?_⟩
            simp [go_sem, f104, a2, i1, i2, mx, ml, cx]
          case s10 =>
            refine step_val (v := (.int .i64 X.size)) (fun av wv hE hS hO hD => ?_) (fun _ => rfl)
            have d105 : av.eval (.tmp 105) = (.string X) := hD.1 rfl _ rfl
            have f105 := (ev_form av 105).symm.trans d105
            refine ⟨rfl, ?_⟩
            simp [go_sem, f105, i1, i2, mx, ml, cx]
          case s11 =>
            refine step_val (v := (.int .i64 mn)) (fun av wv hE hS hO hD => ?_) (fun _ => rfl)
            have d106 : av.eval (.tmp 106) = (.int .i64 X.size) := hD.1 rfl _ rfl
            have f106 := (ev_form av 106).symm.trans d106
            refine ⟨rfl, ?_⟩
            simp [go_sem, f106, i1, i2, mx, ml, cx]
          case s12 =>
            refine step_val (v := (.string (cutT X))) (fun av wv hE hS hO hD => ?_) (fun _ => rfl)
            have d100 : av.eval (.tmp 100) = (.string X) := hD.1 rfl _ rfl
            have f100 := (ev_form av 100).symm.trans d100
            have d107 : av.eval (.tmp 107) = (.int .i64 mn) := hD.2.1 rfl _ rfl
            have f107 := (ev_form av 107).symm.trans d107
            refine ⟨rfl, ?_⟩
            simp [go_sem, f100, f107, i1, i2, mx, ml, cx]
          case s13 =>
            refine step_val (v := (.string (cutT X))) (fun av wv hE hS hO hD => ?_) (fun _ => rfl)
            have d108 : av.eval (.tmp 108) = (.string (cutT X)) := hD.1 rfl _ rfl
            have f108 := (ev_form av 108).symm.trans d108
            refine ⟨rfl, ?_⟩
            simp [go_sem, f108, i1, i2, mx, ml, cx]
          intro a' w' hE hO hall
          have hA := act_of_outer (ds := [96, 97, 98, 99, 100, 101, 102, 103, 104, 105, 106, 107, 108, 10]) rfl hO (by kernel_rfl)
          have e96 : (fun u _ => u = (.slice (some ⟨cb, co, none⟩) m cc)) (a'.eval (.tmp 96)) w' := hall.1 _ rfl
          have e97 : (fun u _ => u = (.int .i64 k)) (a'.eval (.tmp 97)) w' := hall.2.1 _ rfl
          have e98 : (fun u _ => u = (.pointer (some ⟨cb, co + k * 3, none⟩))) (a'.eval (.tmp 98)) w' := hall.2.2.1 _ rfl
          have e99 : (fun u _ => u = (.pointer (some ⟨cb, co + k * 3 + 2, none⟩))) (a'.eval (.tmp 99)) w' := hall.2.2.2.1 _ rfl
          have e100 : (fun u _ => u = (.string X)) (a'.eval (.tmp 100)) w' := hall.2.2.2.2.1 _ rfl
          have e101 : (fun u _ => u = (.slice (some ⟨cb, co, none⟩) m cc)) (a'.eval (.tmp 101)) w' := hall.2.2.2.2.2.1 _ rfl
          have e102 : (fun u _ => u = (.int .i64 k)) (a'.eval (.tmp 102)) w' := hall.2.2.2.2.2.2.1 _ rfl
          have e103 : (fun u _ => u = (.pointer (some ⟨cb, co + k * 3, none⟩))) (a'.eval (.tmp 103)) w' := hall.2.2.2.2.2.2.2.1 _ rfl
          have e104 : (fun u _ => u = (.pointer (some ⟨cb, co + k * 3 + 2, none⟩))) (a'.eval (.tmp 104)) w' := hall.2.2.2.2.2.2.2.2.1 _ rfl
          have e105 : (fun u _ => u = (.string X)) (a'.eval (.tmp 105)) w' := hall.2.2.2.2.2.2.2.2.2.1 _ rfl
          have e106 : (fun u _ => u = (.int .i64 X.size)) (a'.eval (.tmp 106)) w' := hall.2.2.2.2.2.2.2.2.2.2.1 _ rfl
          have e107 : (fun u _ => u = (.int .i64 mn)) (a'.eval (.tmp 107)) w' := hall.2.2.2.2.2.2.2.2.2.2.2.1 _ rfl
          have e108 : (fun u _ => u = (.string (cutT X))) (a'.eval (.tmp 108)) w' := hall.2.2.2.2.2.2.2.2.2.2.2.2.1 _ rfl
          have e10 : (fun u _ => u = (.string (cutT X))) (a'.eval (.tmp 10)) w' := hall.2.2.2.2.2.2.2.2.2.2.2.2.2.1 _ rfl
          simp only [List.foldl_cons, List.foldl_nil, Act.put, List.setIfInBounds_toArray, List.set_cons_succ, List.set_cons_zero, e96, e97, e98, e99, e100, e101, e102, e103, e104, e105, e106, e107, e108, e10] at hA
          clear hO hall e96 e97 e98 e99 e100 e101 e102 e103 e104 e105 e106 e107 e108 e10
          subst hA
          --ENDREGION
          clear mx ml cx
          have HCT := Lib.hid (cutT_size X)
          have X4 := Lib.hid (bnext HX.out (of_drew hE))
          have R4 : Hid (RdB w' b S (whole L k).size 65535) := Lib.hid (R2.out.below (of_drew hE))
          clear a0 a1 a2 hE
          obtain ⟨cb', co', e', a0, a1, a2⟩ := (HC.out.below X4.out) k (by omega)
          cases e'
          rw [HHX.out] at a2
          have hsq : (gnth L k).sort = q := by unfold Thg.sort; omega
          have htk := whole_take L (m := m) (k := k) hlt (HOK.out k)
          rw [hsq, HSS.out] at htk
          have hle : (whole L k).size ≤ S.size := by
            obtain ⟨R, hR⟩ := whole_app L (m := m) (k := k) (by omega)
            have hs := congrArg List.length hR
            rw [HSS.out, List.length_append, ba_len, ba_len] at hs
            omega
          have HS := Lib.hid hsq
          have HTK := Lib.hid htk
          clear hsq htk
          go_wp2_with fail
          refine (take_any w' B b S (whole L k).size 65535 q (HT.out.below X4.out) R4.out hle (by omega) (by decide) (by decide) q5).mono ?_
          rintro e w5 ⟨hE5, hm5⟩
          have X5 := Lib.hid (grownBy_below X4.out hE5 (fun k hk => by cases hk; exact g0.out))
          rw [HTK.out] at hm5
          obtain ⟨rfl, hRd⟩ := hm5
          have R5 := Lib.hid hRd
          clear hRd hE5 a0 a1 a2
          obtain ⟨cb', co', e', a0, a1, a2⟩ := (HC.out.below X5.out) k (by omega)
          cases e'
          by_cases q0 : q = 0
          · have hn : (gnth L k).num = (gnth L k).nu := by unfold Thg.num; rw [HS.out, if_pos q0]
            rw [hn]
            clear hn
            go_wp2
            go_roundg (gk - 1)
            case rel => exact ⟨k + 1, by omega, by go_num, X5, R5⟩
            case measure => omega
          by_cases q1 : q = 1 ∨ q = 2
          · have hn : (gnth L k).txt = cutT X := by unfold Thg.txt; rw [HS.out, if_pos q1, HHX.out]
            rw [hn]
            clear hn
            go_wp2
            all_goals
              go_roundg (gk - 1)
              case rel => exact ⟨k + 1, by omega, by go_num, X5, R5⟩
              case measure => omega
          · have hn : (gnth L k).num = (gnth L k).nu % 65536 := by unfold Thg.num; rw [HS.out, if_neg q0, if_neg q1]
            rw [hn]
            clear hn
            go_wp2
            go_roundg (gk - 1)
            case rel => exact ⟨k + 1, by omega, by go_num, X5, R5⟩
            case measure => omega
        · have hkm : k = m := by omega
          subst k
          rw [HSS.out] at R2
          go_wp2_with fail
          refine (End_any wr b S S.size 65535 (HET.out.below HX.out) R2.out (Nat.le_refl _) (by omega)).mono ?_
          rintro e w4 ⟨hb4, hm4⟩
          have X4 := Lib.hid (bnext HX.out hb4)
          rw [show leftOf S S.size = none from if_neg (Nat.lt_irrefl _)] at hm4
          subst hm4
          go_wp2_with fail
          go_ret
          exact ⟨rfl, X4.out⟩
end Go.Proofs.YtmcmapcijncblaaDoor
