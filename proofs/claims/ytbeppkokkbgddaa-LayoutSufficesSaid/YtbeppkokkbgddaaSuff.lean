/- The statement LayoutSuffices: the law. -/
import Derived.Test.YtbeppkokkbgddaaComes
import Derived.Test.YtbeppkokkbgddaaRegion
import Derived.Test.YtbeppkokkbgddaaNeedsL
namespace Go.Proofs.Ytbeppkokkbgddaa
open Go.RowKit
set_option linter.unusedSimpArgs false
set_option linter.unusedVariables false

theorem one_cell1 (x : Int) : ∀ u ∈ [Value.int .u64 x], u.oneCell' = true := by
  intro u hu; simp at hu; subst hu; rfl
theorem cnt_bd (rs : List (List Int)) (h : ∀ i, len (rnth rs i) ≤ 100) : ∀ i, cnt rs i ≤ i * 100
  | 0 => Nat.zero_le _
  | i + 1 => by have := cnt_bd rs h i; have := h i; simp only [cnt]; omega

theorem rnth_le (leaves : List Int) (d : Int) (hlen : len leaves ≤ 100) (i : Nat) : len (rnth (needsL leaves d) i) ≤ 100 := by
  have key : ∀ r ∈ needsL leaves d, r.length ≤ 100 := by
    intro r hr
    unfold needsL at hr
    split at hr
    · unfold rowsOf at hr
      obtain ⟨j, hj, rfl⟩ := List.mem_map.1 hr
      unfold rowK
      rw [srt_len]
      refine Nat.le_trans (needK_len _) (Nat.le_trans (insAll_all _).2.2 ?_)
      rw [List.length_map]; exact hlen
    · cases hr
  by_cases hi : i < (needsL leaves d).length
  · rw [rnth_eq _ i hi, len_eq]
    exact key _ (List.getElem_mem hi)
  · have : rnth (needsL leaves d) i = [] := by
      unfold rnth; rw [List.getD_eq_getElem?_getD, List.getElem?_eq_none (by omega)]; rfl
    rw [this]; exact Nat.zero_le _
theorem needsL_none (d : Int) : needsL [] d = [] := by unfold needsL; rw [if_neg (fun h => absurd h.2.2.1 (by decide))]
theorem needsL_all {L : List Int} {d : Nat} (hd : d ≤ 16) (h0 : 0 < len L) (h1 : ∀ y ∈ L, y < 2 ^ d) : needsL L d = rowsOf L d := by
  unfold needsL
  rw [Int.toNat_natCast, if_pos ⟨by omega, by omega, h0, decide_eq_false (fun ⟨k, hk, h2⟩ => by have := h1 k hk; omega)⟩]

set_option maxRecDepth 100000 in
set_option maxHeartbeats 4000000 in
theorem suffices_law (a : Option Addr) (cap : Nat) (l : List Int) (dz wh : Nat) (w : World) (hc : U8s w a l) (hlen : len l ≤ 9223372036854775807) (hu : ∀ i, 0 ≤ nth l i ∧ nth l i ≤ 255) (hdz : dz ≤ 255) (hwh : wh ≤ 255) :
    Calls Try.prog 6 #[.slice a (len l) cap, .int .u8 dz, .int .u8 wh] w fun e w' => e = .returned (.bool true) ∧ Below w.heap.size w w' := by
  have HC := Lib.hid hc
  clear hc
  obtain ⟨i0, hi, hz0, hz1, hz2⟩ := info_parts info_u64
  obtain ⟨d, hd⟩ : ∃ d, dz % 8 = d := ⟨_, rfl⟩
  have hd7 : d ≤ 7 := by omega
  have hdr : (dz : Int) % 8 = (d : Int) := by omega
  obtain ⟨p, hp⟩ : ∃ p : Nat, 2 ^ d = p := ⟨_, rfl⟩
  have hp0 : 0 < p := by rw [← hp]; exact Nat.two_pow_pos d
  have p128 : p ≤ 128 := by rw [← hp]; exact Nat.pow_le_pow_right (n := 2) (by decide) hd7
  have hw : IntKind.u64.wrap ((2 : Int) ^ d) = (p : Int) := by rw [pow_cast, IntKind.wrap_u64, hp]; omega
  have HP : Hid ((2 : Int) ^ d = (p : Int)) := Lib.hid (by rw [pow_cast, hp])
  have HDD := Lib.hid hd
  clear hd hp
  obtain ⟨m, hm⟩ : ∃ m, m = min (len l) 12 := ⟨_, rfl⟩
  go_enter Try.func6, Try.ntmps6
  go_wp2_with fail
  refine (works8_any w).mono ?_
  rintro e w0 ⟨rfl, hb0⟩
  have HB0 := Lib.hid hb0
  clear hb0
  go_wp2
  clear hdr
  go_loopg [8, 9] m (fun g v i wr => ∃ k : Nat, g + k = m ∧ i = .int .i64 k ∧ Below w.heap.size w wr ∧ Hid (wr.ownsRow w.heap.size 22 1 v k (((l.take k).map (· % (p : Int))).map (Value.int .u64))))
  case atStart => exact ⟨0, rfl, rfl, HB0.out, World.ownsRow_nil _ _ _ _⟩
  case round =>
    obtain ⟨k, hk0, rfl, hd, HOWN⟩ := hrel
    by_cases hlt : k < m
    · obtain ⟨b, off, rfl, c0⟩ := (HC.out.below hd) k (by omega)
      have b0 : (k : Int) < len l := (by omega)
      have b1 : (k : Int) < 12 := (by omega)
      have b2 : k < len l := (by omega)
      have b3 : 0 ≤ (k : Int) := (by omega)
      have hsz := hd.size
      obtain ⟨x, hx⟩ := Int.eq_ofNat_of_zero_le (hu k).1
      have x255 : (x : Int) ≤ 255 := by rw [← hx]; exact (hu k).2
      rw [hx] at c0
      have HX := Lib.hid hx
      clear hx
      have b6 : ¬ len l ≤ k := (by omega)
      have iw : IntKind.u64.wrap (x : Int) = x := IntWalk.u64_in _ (by omega)
      have pne : ¬ p = 0 := by omega
      have tm : (x : Int).tmod (p : Int) = (x : Int) % (p : Int) := Int.tmod_eq_emod_of_nonneg (by omega)
      go_upto_region 8 with fail
      have HQ := Lib.hid HOWN.out.lt
      have hne : some b ≠ u8.ownBlock := (by
        obtain ⟨b', off', e, hc'⟩ := HC.out k b2
        cases e
        exact fun e => absurd (HQ.out _ e.symm).1 (by have := lt_of_cell hc'; omega))
      --REGION sextant/sextantlaw08.LayoutSuffices 8 suff8
      refine wp_region_tail 11 10 (u8.ownBlock) (phis [fun u _ => u = (u8), fun u _ => u = (.slice (some ⟨b, off, none⟩) (len l) cap), fun u _ => u = (.int .i64 k), fun u _ => u = (.pointer (some ⟨b, off + k, none⟩)), fun u _ => u = (.int .u8 x), fun u _ => u = (.int .u64 x), fun u _ => u = (.int .i64 d), fun u _ => u = (.int .u64 p), fun u _ => u = (.int .u64 ((x : Int) % (p : Int))), fun u w' => ∃ b, u = .slice (some ⟨b, 0, none⟩) 1 1 ∧ some b ≠ u8.ownBlock ∧ w'.heap[b]? = some (.cells ([.int .u64 ((x : Int) % (p : Int))]).toArray 22 (0, 0)), fun u w' => w'.ownsRow (w.heap.size) 22 1 u (k + 1) (((l.take k).map (· % (p : Int))).map (Value.int .u64) ++ [.int .u64 ((x : Int) % (p : Int))])]) rfl (by kernel_rfl) (by kernel_rfl) (mono_of ⟨mono_eq, mono_eq, mono_eq, mono_eq, mono_eq, mono_eq, mono_eq, mono_eq, mono_eq, ?m9, ?m10, trivial⟩) (steps_of 11 ⟨?s0, ?s1, ?s2, ?s3, ?s4, ?s5, ?s6, ?s7, ?s8, ?s9, ?s10, trivial⟩) ?_
      case m9 =>
        exact ⟨fun u w1 w' h ⟨b, h1, hb, hb'⟩ => ⟨b, h1, hb, ext_block h hb'⟩, fun _ u w1 w' h ⟨b, h1, hb, hb'⟩ => ⟨b, h1, hb, extB_block h hb hb'⟩⟩
      case m10 =>
        exact ⟨fun u w1 w' h hu => own_below hu h, fun hn => absurd rfl hn⟩
      case s0 =>
        refine step_val (v := (u8)) (fun av wv hE hS hO hD => ?_) (fun _ => rfl)
        have h8 : av.eval (.tmp 8) = (u8) := hO.2.2 8 rfl
        have f8 := (ev_form av 8).symm.trans h8
        refine ⟨rfl, ?_⟩
        simp [go_sem, f8, hw, b6, iw, pne, tm]
      case s1 =>
        refine step_val (v := (.slice (some ⟨b, off, none⟩) (len l) cap)) (fun av wv hE hS hO hD => ?_) (fun _ => rfl)
        have h0 : av.eval (.tmp 0) = (.slice (some ⟨b, off, none⟩) (len l) cap) := hO.2.2 0 rfl
        have f0 := (ev_form av 0).symm.trans h0
        refine ⟨rfl, ?_⟩
        simp [go_sem, f0, hw, b6, iw, pne, tm]
      case s2 =>
        refine step_val (v := (.int .i64 k)) (fun av wv hE hS hO hD => ?_) (fun _ => rfl)
        have h9 : av.eval (.tmp 9) = (.int .i64 k) := hO.2.2 9 rfl
        have f9 := (ev_form av 9).symm.trans h9
        refine ⟨rfl, ?_⟩
        simp [go_sem, f9, hw, b6, iw, pne, tm]
      case s3 =>
        refine step_val (v := (.pointer (some ⟨b, off + k, none⟩))) (fun av wv hE hS hO hD => ?_) (fun _ => rfl)
        have d29 : av.eval (.tmp 29) = (.slice (some ⟨b, off, none⟩) (len l) cap) := hD.1 rfl _ rfl
        have f29 := (ev_form av 29).symm.trans d29
        have d30 : av.eval (.tmp 30) = (.int .i64 k) := hD.2.1 rfl _ rfl
        have f30 := (ev_form av 30).symm.trans d30
        refine ⟨rfl, ?_⟩
        simp [go_sem, f29, f30, hw, b6, iw, pne, tm]
      case s4 =>
        refine step_val (v := (.int .u8 x)) (fun av wv hE hS hO hD => ?_) (fun _ => rfl)
        have d31 : av.eval (.tmp 31) = (.pointer (some ⟨b, off + k, none⟩)) := hD.1 rfl _ rfl
        have f31 := (ev_form av 31).symm.trans d31
        have c0 := extB_cell hE hne c0
        refine ⟨rfl, ?_⟩
        simp [go_sem, f31, c0, hw, b6, iw, pne, tm]
      case s5 =>
        refine step_val (v := (.int .u64 x)) (fun av wv hE hS hO hD => ?_) (fun _ => rfl)
        have d32 : av.eval (.tmp 32) = (.int .u8 x) := hD.1 rfl _ rfl
        have f32 := (ev_form av 32).symm.trans d32
        refine ⟨rfl, ?_⟩
        simp [go_sem, f32, hw, b6, iw, pne, tm]
      case s6 =>
        refine step_val (v := (.int .i64 d)) (fun av wv hE hS hO hD => ?_) (fun _ => rfl)
        have h7 : av.eval (.tmp 7) = (.int .i64 d) := hO.2.2 7 rfl
        have f7 := (ev_form av 7).symm.trans h7
        refine ⟨rfl, ?_⟩
        simp [go_sem, f7, hw, b6, iw, pne, tm]
      case s7 =>
        refine step_val (v := (.int .u64 p)) (fun av wv hE hS hO hD => ?_) (fun _ => rfl)
        have d34 : av.eval (.tmp 34) = (.int .i64 d) := hD.1 rfl _ rfl
        have f34 := (ev_form av 34).symm.trans d34
        refine ⟨rfl, ?_⟩
        simp [go_sem, f34, hw, b6, iw, pne, tm]
      case s8 =>
        refine step_val (v := (.int .u64 ((x : Int) % (p : Int)))) (fun av wv hE hS hO hD => ?_) (fun _ => rfl)
        have d33 : av.eval (.tmp 33) = (.int .u64 x) := hD.1 rfl _ rfl
        have f33 := (ev_form av 33).symm.trans d33
        have d35 : av.eval (.tmp 35) = (.int .u64 p) := hD.2.1 rfl _ rfl
        have f35 := (ev_form av 35).symm.trans d35
        refine ⟨rfl, ?_⟩
        simp [go_sem, f33, f35, hw, b6, iw, pne, tm]
      case s9 =>
        refine step_wp (fun av wv hE hS hO hD => ?_)
        have d36 : av.eval (.tmp 36) = (.int .u64 ((x : Int) % (p : Int))) := hD.1 rfl _ rfl
        have f36 := (ev_form av 36).symm.trans d36
        refine ⟨rfl, ?_⟩
        refine wp_of_run (v := .slice (some ⟨wv.heap.size, 0, none⟩) 1 1) (w' := wv.alloc (.cells ([.int .u64 ((x : Int) % (p : Int))]).toArray 22)) (by first | (simp [go_sem, f36, hw, b6, iw, pne, tm]; done) | (simp [go_sem, f36, hw, b6, iw, pne, tm]; rfl)) ⟨_, rfl, es_of_ext (balloc (Ext_refl _) _), wv.heap.size, rfl, ?_, heap_alloc_new _ _⟩
        exact fun e => absurd (HQ.out _ e.symm).2 (by have := hE.size; simp at this; omega)
      case s10 =>
        refine step_wp (fun av wv hE hS hO hD => ?_)
        have d28 : av.eval (.tmp 28) = (u8) := hD.1 rfl _ rfl
        have f28 := (ev_form av 28).symm.trans d28
        have d37 : (fun u w' => ∃ b, u = .slice (some ⟨b, 0, none⟩) 1 1 ∧ some b ≠ u8.ownBlock ∧ w'.heap[b]? = some (.cells ([.int .u64 ((x : Int) % (p : Int))]).toArray 22 (0, 0))) (av.eval (.tmp 37)) wv := hD.2.1 rfl _ rfl
        refine ⟨rfl, ?_⟩
        obtain ⟨bS, hS1, hbS, hcS⟩ := d37
        have hown1 : wv.ownsRow (w.heap.size) 22 1 (u8) (k) (((l.take k).map (· % (p : Int))).map (Value.int .u64)) := own_below (w := World.drew _) (HOWN.out) (hS rfl)
        refine wp_append_lies wv _ _ _ rfl (w.heap.size) 22 i0 (.int .u64 0) 1 8 Try.underlying28 hi hz0 hz1 hz2 rfl (by decide) (u8) (k) _ d28 hown1 ⟨bS, 0, none⟩ 1 1 ([.int .u64 ((x : Int) % (p : Int))]) (by exact hS1) rfl (World.news_of_block hcS) (one_cell1 _) (by decide) (by unfold maxLen; omega) (by omega) (by have := hE.size; simp at this; omega) _ rfl ?_
        intro g cap1 w2 hown2 hgrow hat hlt2
        exact ⟨_, rfl, es_sp hgrow, hown2⟩
      intro a' w' hE hO hall
      have hA := act_of_outer (ds := [28, 29, 30, 31, 32, 33, 34, 35, 36, 37, 38]) rfl hO (by kernel_rfl)
      have e28 : (fun u _ => u = (u8)) (a'.eval (.tmp 28)) w' := hall.1 _ rfl
      have e29 : (fun u _ => u = (.slice (some ⟨b, off, none⟩) (len l) cap)) (a'.eval (.tmp 29)) w' := hall.2.1 _ rfl
      have e30 : (fun u _ => u = (.int .i64 k)) (a'.eval (.tmp 30)) w' := hall.2.2.1 _ rfl
      have e31 : (fun u _ => u = (.pointer (some ⟨b, off + k, none⟩))) (a'.eval (.tmp 31)) w' := hall.2.2.2.1 _ rfl
      have e32 : (fun u _ => u = (.int .u8 x)) (a'.eval (.tmp 32)) w' := hall.2.2.2.2.1 _ rfl
      have e33 : (fun u _ => u = (.int .u64 x)) (a'.eval (.tmp 33)) w' := hall.2.2.2.2.2.1 _ rfl
      have e34 : (fun u _ => u = (.int .i64 d)) (a'.eval (.tmp 34)) w' := hall.2.2.2.2.2.2.1 _ rfl
      have e35 : (fun u _ => u = (.int .u64 p)) (a'.eval (.tmp 35)) w' := hall.2.2.2.2.2.2.2.1 _ rfl
      have e36 : (fun u _ => u = (.int .u64 ((x : Int) % (p : Int)))) (a'.eval (.tmp 36)) w' := hall.2.2.2.2.2.2.2.2.1 _ rfl
      have e37 : (fun u w' => ∃ b, u = .slice (some ⟨b, 0, none⟩) 1 1 ∧ some b ≠ u8.ownBlock ∧ w'.heap[b]? = some (.cells ([.int .u64 ((x : Int) % (p : Int))]).toArray 22 (0, 0))) (a'.eval (.tmp 37)) w' := hall.2.2.2.2.2.2.2.2.2.1 _ rfl
      have e38 : (fun u w' => w'.ownsRow (w.heap.size) 22 1 u (k + 1) (((l.take k).map (· % (p : Int))).map (Value.int .u64) ++ [.int .u64 ((x : Int) % (p : Int))])) (a'.eval (.tmp 38)) w' := hall.2.2.2.2.2.2.2.2.2.2.1 _ rfl
      obtain ⟨v37, hv37⟩ : ∃ v, a'.eval (.tmp 37) = v := ⟨_, rfl⟩
      rw [hv37] at e37
      obtain ⟨v38, hv38⟩ : ∃ v, a'.eval (.tmp 38) = v := ⟨_, rfl⟩
      rw [hv38] at e38
      simp only [List.foldl_cons, List.foldl_nil, Act.put, List.setIfInBounds_toArray, List.set_cons_succ, List.set_cons_zero, e28, e29, e30, e31, e32, e33, e34, e35, e36, hv37, hv38] at hA
      clear hO hall e28 e29 e30 e31 e32 e33 e34 e35 e36 hv37 hv38
      subst hA
      --ENDREGION
      go_wp2
      have HD2 := Lib.hid (grownBy_below (bdrew hd) hE (fun q hq => (HQ.out q hq).1))
      go_roundg (m - (k + 1))
      case rel => exact ⟨k + 1, by omega, by go_num, HD2.out, Lib.hid (by
        have hsn : l.take (k + 1) = l.take k ++ [nth l k] := (by rw [List.take_succ_eq_append_getElem b2, nth_eq l k b2])
        rw [hsn, List.map_append, List.map_append, HX.out]
        simpa using e38)⟩
      case measure => omega
    · have hex : (¬ (k : Int) < len l) ∨ ((k : Int) < len l ∧ ¬ (k : Int) < 12) := by omega
      obtain ⟨L, hLd⟩ : ∃ L, (l.take k).map (· % (p : Int)) = L := ⟨_, rfl⟩
      have hLk : len L = k := by rw [← hLd, len_eq, List.length_map, List.length_take]; have : l.length = len l := rfl; omega
      have hLb : ∀ y ∈ L, 0 ≤ y ∧ y < (p : Int) := by
        intro y hy
        rw [← hLd] at hy
        obtain ⟨z, _, rfl⟩ := List.mem_map.1 hy
        exact ⟨Int.emod_nonneg _ (by omega), Int.emod_lt_of_pos _ (by omega)⟩
      have HLU : Hid (∀ y ∈ L, U64 y) := Lib.hid (fun y hy => by have := hLb y hy; unfold U64; omega)
      have HL0 : Hid (∀ y ∈ L, 0 ≤ y) := Lib.hid (fun y hy => (hLb y hy).1)
      have HL1 : Hid (∀ y ∈ L, y < 2 ^ d) := Lib.hid (fun y hy => by rw [HP.out]; exact (hLb y hy).2)
      have hk12 : len L ≤ 12 := by omega
      have hO := HOWN.out
      rw [hLd] at hO
      obtain ⟨la, lc, e1, hP, _, _⟩ := own_u64 hO
      have HUL := Lib.hid hP
      have HW := Lib.hid hd
      have HLK := Lib.hid hLk
      clear hO hP HOWN hLd hLk hLb hk0 hlt hm
      subst e1
      clear hd
      have WS : ∀ i, len (rnth (needsL L (d : Int)) i) ≤ 100 := fun i => rnth_le L d (by omega) i
      have HWS := Lib.hid WS
      clear WS
      rcases hex with h1 | ⟨h1, h2⟩
      · go_wp2_with fail
        refine (needs_any la lc L d _ HUL.out (by omega) HLU.out).mono ?_
        rintro e w1 ⟨v1, vals1, rfl, q1, q2, q3⟩
        obtain ⟨ra, rc, e1, r1, r2, r3⟩ := rows2_of q1 q2
        subst e1
        have R1 := Lib.hid r1
        have HU1 := Lib.hid (HUL.out.below q3)
        have HW1 : Hid (Below w.heap.size w w1) := Lib.hid (bnext HW.out q3)
        clear q1 q2 q3 r1 r2 r3
        by_cases hL0 : len L = 0
        · obtain rfl : L = [] := List.eq_nil_of_length_eq_zero hL0
          have e0 : len (needsL ([] : List Int) (d : Int)) = 0 := by rw [needsL_none]; rfl
          go_wp2
          go_ret
          exact ⟨rfl, HW1.out⟩
        · have hLp : 0 < len L := by omega
          have hne0 : ((len L : Int) == 0) = false := by simp; omega
          have e0 := needsL_all (by omega) hLp HL1.out
          have ed : len (needsL L (d : Int)) = d := by rw [e0, len_eq]; simp [rowsOf]
          have HRP : Hid (RowP L (needsL L (d : Int)) d) := Lib.hid (by rw [e0]; exact rowP_of L d)
          have HED := Lib.hid ed
          obtain ⟨rs, hrs⟩ : ∃ rs, needsL L (d : Int) = rs := ⟨_, rfl⟩
          rw [hrs] at R1 HRP HED HWS
          rw [hrs]
          have ed2 : ((len rs : Int) != (d : Int)) = false := by have := HED.out; simp; omega
          clear e0 ed hrs hL0
          have HCB : Hid (∀ i, i ≤ d → cnt rs i ≤ 1000) := Lib.hid (fun i hi => by have := cnt_bd rs HWS.out i; omega)
          go_wp2
          go_loopg [11, 12] d (fun g s i wx => ∃ n : Nat, g + n = d ∧ s = .int .i64 (cnt rs n : Nat) ∧ i = .int .i64 n ∧ w1 = wx)
          case atStart => exact ⟨0, rfl, rfl, rfl, rfl⟩
          case round =>
            obtain ⟨n, hn, rfl, rfl, rfl⟩ := hrel
            by_cases hnd : n < d
            · obtain ⟨rb, ro, ai, ci, rfl, z1, z2, z3⟩ := R1.out n (by have := HED.out; omega)
              have i0 : (n : Int) < d := by omega
              have i1 : (n : Int) < len rs := by have := HED.out; omega
              have c1 := HCB.out n (by omega)
              have c2 := HWS.out n
              have HCN : Hid (((cnt rs n : Nat) : Int) + (len (rnth rs n) : Nat) = (cnt rs (n + 1) : Nat)) := Lib.hid (by simp only [cnt]; omega)
              go_wp2
              go_roundg (d - (n + 1))
              case rel => exact ⟨n + 1, by omega, by rw [HCN.out], by go_num, rfl⟩
              case measure => omega
            · obtain rfl : n = d := by omega
              have HC0 := Lib.hid (comes_all HL0.out HL1.out HRP.out hLp)
              go_wp2_with fail
              refine (comes_any la ra lc rc L rs n (-1) w1 HU1.out (by omega) R1.out HED.out (by omega) HWS.out HCB.out).mono ?_
              rintro e w2 ⟨v, rfl, hv, hb⟩
              obtain rfl : v = true := hv.2 HC0.out
              have HB2 : Hid (Below w.heap.size w w2) := Lib.hid (bnext HW1.out hb)
              have HR2 := Lib.hid (R1.out.below hb)
              have HU2 := Lib.hid (HU1.out.below hb)
              have cb := HCB.out n (Nat.le_refl _)
              have HC1 : Hid (∀ b : Nat, b < cnt rs n → ¬ KnP L rs n (b : Int) n 0) := Lib.hid (fun b hb2 => comes_not HL0.out HL1.out HRP.out b hb2)
              clear hv hb
              obtain ⟨al, hal⟩ : ∃ al, cnt rs n = al := ⟨_, rfl⟩
              rw [hal] at HC1 cb
              try rw [hal]
              by_cases ha0 : al = 0
              · have ha1 : ((al : Int) == 0) = true := by simp; omega
                clear hal
                go_wp2
                go_ret
                exact ⟨rfl, HB2.out⟩
              · have ha1 : ((al : Int) == 0) = false := by simp; omega
                have ha2 : ¬ al = 0 := ha0
                obtain ⟨bt, hbt⟩ : ∃ bt, wh % al = bt := ⟨_, rfl⟩
                have hbt1 : (wh : Int) % (al : Int) = (bt : Int) := by rw [← hbt]; simp
                have hbt2 : bt < al := by rw [← hbt]; exact Nat.mod_lt _ (by omega)
                have HNB := Lib.hid (HC1.out bt hbt2)
                clear hal hbt HC1
                go_wp2_with fail
                refine (comes_any la ra lc rc L rs n (bt : Int) w2 HU2.out (by omega) HR2.out HED.out (by omega) HWS.out HCB.out).mono ?_
                rintro e w3 ⟨v, rfl, hv, hb⟩
                obtain rfl : v = false := by cases v; rfl; exact absurd (hv.1 rfl) HNB.out
                have HB3 : Hid (Below w.heap.size w w3) := Lib.hid (bnext HB2.out hb)
                clear hv hb hbt1
                go_wp2
                go_ret
                exact ⟨rfl, HB3.out⟩
      · go_wp2_with fail
        refine (needs_any la lc L d _ HUL.out (by omega) HLU.out).mono ?_
        rintro e w1 ⟨v1, vals1, rfl, q1, q2, q3⟩
        obtain ⟨ra, rc, e1, r1, r2, r3⟩ := rows2_of q1 q2
        subst e1
        have R1 := Lib.hid r1
        have HU1 := Lib.hid (HUL.out.below q3)
        have HW1 : Hid (Below w.heap.size w w1) := Lib.hid (bnext HW.out q3)
        clear q1 q2 q3 r1 r2 r3
        by_cases hL0 : len L = 0
        · obtain rfl : L = [] := List.eq_nil_of_length_eq_zero hL0
          have e0 : len (needsL ([] : List Int) (d : Int)) = 0 := by rw [needsL_none]; rfl
          go_wp2
          go_ret
          exact ⟨rfl, HW1.out⟩
        · have hLp : 0 < len L := by omega
          have hne0 : ((len L : Int) == 0) = false := by simp; omega
          have e0 := needsL_all (by omega) hLp HL1.out
          have ed : len (needsL L (d : Int)) = d := by rw [e0, len_eq]; simp [rowsOf]
          have HRP : Hid (RowP L (needsL L (d : Int)) d) := Lib.hid (by rw [e0]; exact rowP_of L d)
          have HED := Lib.hid ed
          obtain ⟨rs, hrs⟩ : ∃ rs, needsL L (d : Int) = rs := ⟨_, rfl⟩
          rw [hrs] at R1 HRP HED HWS
          rw [hrs]
          have ed2 : ((len rs : Int) != (d : Int)) = false := by have := HED.out; simp; omega
          clear e0 ed hrs hL0
          have HCB : Hid (∀ i, i ≤ d → cnt rs i ≤ 1000) := Lib.hid (fun i hi => by have := cnt_bd rs HWS.out i; omega)
          go_wp2
          go_loopg [11, 12] d (fun g s i wx => ∃ n : Nat, g + n = d ∧ s = .int .i64 (cnt rs n : Nat) ∧ i = .int .i64 n ∧ w1 = wx)
          case atStart => exact ⟨0, rfl, rfl, rfl, rfl⟩
          case round =>
            obtain ⟨n, hn, rfl, rfl, rfl⟩ := hrel
            by_cases hnd : n < d
            · obtain ⟨rb, ro, ai, ci, rfl, z1, z2, z3⟩ := R1.out n (by have := HED.out; omega)
              have i0 : (n : Int) < d := by omega
              have i1 : (n : Int) < len rs := by have := HED.out; omega
              have c1 := HCB.out n (by omega)
              have c2 := HWS.out n
              have HCN : Hid (((cnt rs n : Nat) : Int) + (len (rnth rs n) : Nat) = (cnt rs (n + 1) : Nat)) := Lib.hid (by simp only [cnt]; omega)
              go_wp2
              go_roundg (d - (n + 1))
              case rel => exact ⟨n + 1, by omega, by rw [HCN.out], by go_num, rfl⟩
              case measure => omega
            · obtain rfl : n = d := by omega
              have HC0 := Lib.hid (comes_all HL0.out HL1.out HRP.out hLp)
              go_wp2_with fail
              refine (comes_any la ra lc rc L rs n (-1) w1 HU1.out (by omega) R1.out HED.out (by omega) HWS.out HCB.out).mono ?_
              rintro e w2 ⟨v, rfl, hv, hb⟩
              obtain rfl : v = true := hv.2 HC0.out
              have HB2 : Hid (Below w.heap.size w w2) := Lib.hid (bnext HW1.out hb)
              have HR2 := Lib.hid (R1.out.below hb)
              have HU2 := Lib.hid (HU1.out.below hb)
              have cb := HCB.out n (Nat.le_refl _)
              have HC1 : Hid (∀ b : Nat, b < cnt rs n → ¬ KnP L rs n (b : Int) n 0) := Lib.hid (fun b hb2 => comes_not HL0.out HL1.out HRP.out b hb2)
              clear hv hb
              obtain ⟨al, hal⟩ : ∃ al, cnt rs n = al := ⟨_, rfl⟩
              rw [hal] at HC1 cb
              try rw [hal]
              by_cases ha0 : al = 0
              · have ha1 : ((al : Int) == 0) = true := by simp; omega
                clear hal
                go_wp2
                go_ret
                exact ⟨rfl, HB2.out⟩
              · have ha1 : ((al : Int) == 0) = false := by simp; omega
                have ha2 : ¬ al = 0 := ha0
                obtain ⟨bt, hbt⟩ : ∃ bt, wh % al = bt := ⟨_, rfl⟩
                have hbt1 : (wh : Int) % (al : Int) = (bt : Int) := by rw [← hbt]; simp
                have hbt2 : bt < al := by rw [← hbt]; exact Nat.mod_lt _ (by omega)
                have HNB := Lib.hid (HC1.out bt hbt2)
                clear hal hbt HC1
                go_wp2_with fail
                refine (comes_any la ra lc rc L rs n (bt : Int) w2 HU2.out (by omega) HR2.out HED.out (by omega) HWS.out HCB.out).mono ?_
                rintro e w3 ⟨v, rfl, hv, hb⟩
                obtain rfl : v = false := by cases v; rfl; exact absurd (hv.1 rfl) HNB.out
                have HB3 : Hid (Below w.heap.size w w3) := Lib.hid (bnext HB2.out hb)
                clear hv hb hbt1
                go_wp2
                go_ret
                exact ⟨rfl, HB3.out⟩
end Go.Proofs.Ytbeppkokkbgddaa
