/- The statements of layer 15: full, the list of weights. -/
import Derived.Test.YtmcmapcijncblaaPartB
import Derived.Test.YtmcmapcijncblaaOwn
import Derived.Test.YtmcmapcijncblaaRegion
import Derived.Test.YtmcmapcijncblaaShelf
namespace Go.Proofs.Ytmcmapcijncblaa
open Go.RowKit

/-- Thirty-two times the letter r. -/
def fullR : ByteArray := ⟨(Go.Lib.repeatL [114] 32).toArray⟩
theorem fullR_size : fullR.size = 32 := by decide

theorem full_any (w : World) : Calls Try.prog 14 #[.string ⟨#[114]⟩] w fun e w' => e = .returned (.string fullR) ∧ Below w.heap.size w w' := by
  go_enter Try.func14, Try.ntmps14
  go_wp2_with fail
  refine (Try.strings_Repeat ⟨#[114]⟩ 32 _ (by decide) (by decide)).mono ?_
  rintro e w1 ⟨rfl, hb⟩
  go_wp2
  go_ret
  exact ⟨rfl, hb⟩

def prtOf (x : Int) : Prt := ⟨fullR, x, 0, 0, 0⟩
theorem prtOf_ok {x : Int} (h0 : 0 ≤ x) (h1 : x < 18446744073709551616) : (prtOf x).Ok := ⟨h0, h1, Int.le_refl 0, (by decide : (0 : Int) < 18446744073709551616), Int.le_refl 0, (by decide : (0 : Int) < 18446744073709551616), Int.le_refl 0, (by decide : (0 : Int) < 18446744073709551616)⟩
theorem info_prt : (Try.prog.info? 49).map (fun i => (i.zero, i.size, i.bytes)) = some (some Prt.zero.val, 5, 48) := by kernel_rfl

set_option maxRecDepth 100000 in
set_option maxHeartbeats 1000000 in
theorem weights_law (a : Option Addr) (cap : Nat) (l : List Int) (w : World) (hlen : len l ≤ 9223372036854775807) (hc : U64s w a l) (hr : ∀ i, 0 ≤ nth l i ∧ nth l i < 18446744073709551616)
    (hworks : ∀ w, Calls Try.prog 19 #[] w fun e w' => e = .returned (.bool true) ∧ Below w.heap.size w w') :
    Calls Try.prog 6 #[.slice a (len l) cap] w fun e w' => e = .returned (.bool true) ∧ Below w.heap.size w w' := by
  have HC := Lib.hid hc
  have HR := Lib.hid hr
  have HWK := Lib.hid hworks
  clear hc hr hworks
  obtain ⟨i0, hi, hz0, hz1, hz2⟩ := info_parts info_prt
  obtain ⟨m, hm⟩ : ∃ m, m = min (len l) 100 := ⟨_, rfl⟩
  go_enter Try.func6, Try.ntmps6
  go_wp2
  go_loopg [3, 4] m (fun g v i wr => ∃ k : Nat, g + k = m ∧ i = .int .i64 k ∧ Below w.heap.size w wr ∧ Hid (wr.ownsRow w.heap.size 49 5 v k (((l.take k).map prtOf).flatMap Prt.cells)))
  case atStart => exact ⟨0, rfl, rfl, Below.refl _ _, World.ownsRow_nil _ _ _ _⟩
  case round =>
    obtain ⟨k, hk0, rfl, hd, HOWN⟩ := hrel
    by_cases hlt : k < m
    · obtain ⟨b, off, rfl, c0⟩ := HC.out.below hd k (by omega)
      have b0 : (k : Int) < len l := (by omega)
      have b1 : (k : Int) < 100 := (by omega)
      have b2 : k < len l := (by omega)
      have b3 : 0 ≤ (k : Int) := (by omega)
      have b6 : ¬ len l ≤ k := (by omega)
      have hsz := hd.size
      go_wp2
      have HQ := Lib.hid HOWN.out.lt
      have hne : some b ≠ u3.ownBlock := (by
        obtain ⟨b', off', e, hc'⟩ := HC.out k b2
        cases e
        exact fun e => absurd (HQ.out _ e.symm).1 (by have := lt_of_cell hc'; omega))
      --REGION sextant/sextantlaw15.PartWeights 5 pweights5
      refine wp_region_tail 9 8 (u3.ownBlock) (phis [fun u _ => u = (u3), fun u _ => u = (.string fullR), fun u _ => u = (.slice (some ⟨b, off, none⟩) (len l) cap), fun u _ => u = (.int .i64 k), fun u _ => u = (.pointer (some ⟨b, off + k, none⟩)), fun u _ => u = (.int .u64 (nth l k)), fun u _ => u = ((prtOf (nth l k)).val), fun u w' => ∃ b, u = .slice (some ⟨b, 0, none⟩) 1 1 ∧ some b ≠ u3.ownBlock ∧ w'.heap[b]? = some (.cells ((prtOf (nth l k)).cells).toArray 49 (0, 0)), fun u w' => w'.ownsRow (w.heap.size) 49 5 u (k + 1) (((l.take k).map prtOf).flatMap Prt.cells ++ (prtOf (nth l k)).cells)]) rfl (by kernel_rfl) (by kernel_rfl) (mono_of ⟨mono_eq, mono_eq, mono_eq, mono_eq, mono_eq, mono_eq, mono_eq, ?m7, ?m8, trivial⟩) (steps_of 9 ⟨?s0, ?s1, ?s2, ?s3, ?s4, ?s5, ?s6, ?s7, ?s8, trivial⟩) ?_
      case m7 =>
        exact ⟨fun u w1 w' h ⟨b, h1, hb, hb'⟩ => ⟨b, h1, hb, ext_block h hb'⟩, fun _ u w1 w' h ⟨b, h1, hb, hb'⟩ => ⟨b, h1, hb, extB_block h hb hb'⟩⟩
      case m8 =>
        exact ⟨fun u w1 w' h hu => own_below hu h, fun hn => absurd rfl hn⟩
      case s0 =>
        refine step_val (v := (u3)) (fun av wv hE hS hO hD => ?_) (fun _ => rfl)
        have h3 : av.eval (.tmp 3) = (u3) := hO.2.2 3 rfl
        have f3 := (ev_form av 3).symm.trans h3
        refine ⟨rfl, ?_⟩
        simp [go_sem, f3, b6]
      case s1 =>
        refine step_wp (fun av wv hE hS hO hD => ?_)
        refine ⟨rfl, ?_⟩
        refine wp_of_call (v := (.string fullR)) (by simp [go_sem, b6]) (full_any wv) (fun w2 hb => ⟨_, rfl, es_of_ext hb, rfl⟩)
      case s2 =>
        refine step_val (v := (.slice (some ⟨b, off, none⟩) (len l) cap)) (fun av wv hE hS hO hD => ?_) (fun _ => rfl)
        have h0 : av.eval (.tmp 0) = (.slice (some ⟨b, off, none⟩) (len l) cap) := hO.2.2 0 rfl
        have f0 := (ev_form av 0).symm.trans h0
        refine ⟨rfl, ?_⟩
        simp [go_sem, f0, b6]
      case s3 =>
        refine step_val (v := (.int .i64 k)) (fun av wv hE hS hO hD => ?_) (fun _ => rfl)
        have h4 : av.eval (.tmp 4) = (.int .i64 k) := hO.2.2 4 rfl
        have f4 := (ev_form av 4).symm.trans h4
        refine ⟨rfl, ?_⟩
        simp [go_sem, f4, b6]
      case s4 =>
        refine step_val (v := (.pointer (some ⟨b, off + k, none⟩))) (fun av wv hE hS hO hD => ?_) (fun _ => rfl)
        have d17 : av.eval (.tmp 17) = (.slice (some ⟨b, off, none⟩) (len l) cap) := hD.1 rfl _ rfl
        have f17 := (ev_form av 17).symm.trans d17
        have d18 : av.eval (.tmp 18) = (.int .i64 k) := hD.2.1 rfl _ rfl
        have f18 := (ev_form av 18).symm.trans d18
        refine ⟨rfl, ?_⟩
        simp [go_sem, f17, f18, b6]
      case s5 =>
        refine step_val (v := (.int .u64 (nth l k))) (fun av wv hE hS hO hD => ?_) (fun _ => rfl)
        have d19 : av.eval (.tmp 19) = (.pointer (some ⟨b, off + k, none⟩)) := hD.1 rfl _ rfl
        have f19 := (ev_form av 19).symm.trans d19
        have c0 := extB_cell hE hne c0
        refine ⟨rfl, ?_⟩
        simp [go_sem, f19, c0, b6]
      case s6 =>
        refine step_val (v := ((prtOf (nth l k)).val)) (fun av wv hE hS hO hD => ?_) (fun _ => rfl)
        have d16 : av.eval (.tmp 16) = (.string fullR) := hD.1 rfl _ rfl
        have f16 := (ev_form av 16).symm.trans d16
        have d20 : av.eval (.tmp 20) = (.int .u64 (nth l k)) := hD.2.1 rfl _ rfl
        have f20 := (ev_form av 20).symm.trans d20
        refine ⟨rfl, ?_⟩
        simp [go_sem, f16, f20, prtOf]
      case s7 =>
        refine step_wp (fun av wv hE hS hO hD => ?_)
        have d21 : av.eval (.tmp 21) = ((prtOf (nth l k)).val) := hD.1 rfl _ rfl
        have f21 := (ev_form av 21).symm.trans d21
        refine ⟨rfl, ?_⟩
        refine wp_of_run (v := .slice (some ⟨wv.heap.size, 0, none⟩) 1 1) (w' := wv.alloc (.cells ((prtOf (nth l k)).cells).toArray 49)) (by first | (simp [go_sem, f21, b6]; done) | (simp [go_sem, f21, b6]; rfl)) ⟨_, rfl, es_of_ext (balloc (Ext_refl _) _), wv.heap.size, rfl, ?_, heap_alloc_new _ _⟩
        exact fun e => absurd (HQ.out _ e.symm).2 (by have := hE.size; simp at this; omega)
      case s8 =>
        refine step_wp (fun av wv hE hS hO hD => ?_)
        have d15 : av.eval (.tmp 15) = (u3) := hD.1 rfl _ rfl
        have f15 := (ev_form av 15).symm.trans d15
        have d22 : (fun u w' => ∃ b, u = .slice (some ⟨b, 0, none⟩) 1 1 ∧ some b ≠ u3.ownBlock ∧ w'.heap[b]? = some (.cells ((prtOf (nth l k)).cells).toArray 49 (0, 0))) (av.eval (.tmp 22)) wv := hD.2.1 rfl _ rfl
        refine ⟨rfl, ?_⟩
        obtain ⟨bS, hS1, hbS, hcS⟩ := d22
        have hown1 : wv.ownsRow (w.heap.size) 49 5 (u3) (k) (((l.take k).map prtOf).flatMap Prt.cells) := own_below (w := World.drew _) (HOWN.out) (hS rfl)
        refine wp_append_lies wv _ _ _ rfl (w.heap.size) 49 i0 (Prt.zero.val) 5 48 Try.underlying46 hi hz0 hz1 hz2 rfl (by decide) (u3) (k) _ d15 hown1 ⟨bS, 0, none⟩ 1 1 ((prtOf (nth l k)).cells) (by exact hS1) rfl (World.news_of_block hcS) (Prt.cells_one _) (by decide) (by unfold maxLen; omega) (by omega) (by have := hE.size; simp at this; omega) _ rfl ?_
        intro g cap1 w2 hown2 hgrow hat hlt2
        exact ⟨_, rfl, es_sp hgrow, hown2⟩
      intro a' w' hE hO hall
      have hA := act_of_outer (ds := [15, 16, 17, 18, 19, 20, 21, 22, 23]) rfl hO (by kernel_rfl)
      have e15 : (fun u _ => u = (u3)) (a'.eval (.tmp 15)) w' := hall.1 _ rfl
      have e16 : (fun u _ => u = (.string fullR)) (a'.eval (.tmp 16)) w' := hall.2.1 _ rfl
      have e17 : (fun u _ => u = (.slice (some ⟨b, off, none⟩) (len l) cap)) (a'.eval (.tmp 17)) w' := hall.2.2.1 _ rfl
      have e18 : (fun u _ => u = (.int .i64 k)) (a'.eval (.tmp 18)) w' := hall.2.2.2.1 _ rfl
      have e19 : (fun u _ => u = (.pointer (some ⟨b, off + k, none⟩))) (a'.eval (.tmp 19)) w' := hall.2.2.2.2.1 _ rfl
      have e20 : (fun u _ => u = (.int .u64 (nth l k))) (a'.eval (.tmp 20)) w' := hall.2.2.2.2.2.1 _ rfl
      have e21 : (fun u _ => u = ((prtOf (nth l k)).val)) (a'.eval (.tmp 21)) w' := hall.2.2.2.2.2.2.1 _ rfl
      have e22 : (fun u w' => ∃ b, u = .slice (some ⟨b, 0, none⟩) 1 1 ∧ some b ≠ u3.ownBlock ∧ w'.heap[b]? = some (.cells ((prtOf (nth l k)).cells).toArray 49 (0, 0))) (a'.eval (.tmp 22)) w' := hall.2.2.2.2.2.2.2.1 _ rfl
      have e23 : (fun u w' => w'.ownsRow (w.heap.size) 49 5 u (k + 1) (((l.take k).map prtOf).flatMap Prt.cells ++ (prtOf (nth l k)).cells)) (a'.eval (.tmp 23)) w' := hall.2.2.2.2.2.2.2.2.1 _ rfl
      obtain ⟨v22, hv22⟩ : ∃ v, a'.eval (.tmp 22) = v := ⟨_, rfl⟩
      rw [hv22] at e22
      obtain ⟨v23, hv23⟩ : ∃ v, a'.eval (.tmp 23) = v := ⟨_, rfl⟩
      rw [hv23] at e23
      simp only [List.foldl_cons, List.foldl_nil, Act.put, List.setIfInBounds_toArray, List.set_cons_succ, List.set_cons_zero, e15, e16, e17, e18, e19, e20, e21, hv22, hv23] at hA
      clear hO hall e15 e16 e17 e18 e19 e20 e21 hv22 hv23
      subst hA
      --ENDREGION
      go_wp2
      have HD2 := Lib.hid (grownBy_below (bdrew hd) hE (fun q hq => (HQ.out q hq).1))
      go_roundg (gk - 1)
      case rel => exact ⟨k + 1, by omega, by go_num, HD2.out, Lib.hid (by
        have hsn : l.take (k + 1) = l.take k ++ [nth l k] := (by rw [List.take_succ_eq_append_getElem b2, nth_eq l k b2])
        rw [hsn, List.map_append, List.flatMap_append]
        simpa using e23)⟩
      case measure => omega
    · have hex : (¬ (k : Int) < len l) ∨ ((k : Int) < len l ∧ ¬ (k : Int) < 100) := by omega
      have hL : len ((l.take k).map prtOf) = k := by simp [len]; rw [len_eq] at hm; omega
      obtain ⟨L, hLd⟩ : ∃ L, L = (l.take k).map prtOf := ⟨_, rfl⟩
      rw [← hLd] at hL HOWN
      have HOK : Hid (∀ i, (pnth L i).Ok) := Lib.hid (fun i => by
        rcases Nat.lt_or_ge i L.length with hi | hi
        · rw [pnth_eq L i hi]
          have hx : L[i] = prtOf (nth l i) := by
            subst hLd
            rw [List.getElem_map, List.getElem_take, nth_eq]
          rw [hx]; exact prtOf_ok (HR.out i).1 (HR.out i).2
        · have : pnth L i = Prt.zero := by unfold pnth; rw [List.getD_eq_getElem?_getD, List.getElem?_eq_none hi]; rfl
          rw [this]; exact Prt.zero_ok)
      have hO := HOWN.out
      obtain ⟨la, lc, rfl, hP, hlc⟩ := Prts.own hO
      have HP := Lib.hid hP
      have hlen2 : len L ≤ 9223372036854775807 := by omega
      clear hO hP HOWN hLd hm hlt hlc
      have HL := Lib.hid hL
      clear hL
      rcases hex with h1 | ⟨h1, h2⟩
      all_goals
        go_wp2_with fail
        refine (check_any la lc L _ hlen2 HP.out HOK.out).mono ?_
        rintro e w1 ⟨rfl, hb1⟩
        have B1 := Lib.hid hb1
        clear hb1
        go_wp2_with fail
        refine (refCheck_any la lc L _ hlen2 (HP.out.below B1.out) HOK.out).mono ?_
        rintro e w2 ⟨rfl, rfl⟩
        go_wp2_with fail
        refine (total_any la lc L _ hlen2 (HP.out.below B1.out) HOK.out).mono ?_
        rintro e w3 ⟨rfl, hb3⟩
        have B3 := Lib.hid (bnext B1.out hb3)
        clear hb3
        go_wp2_with fail
        refine (refTotal_any la lc L _ hlen2 (HP.out.below B3.out) HOK.out).mono ?_
        rintro e w4 ⟨rfl, rfl⟩
        go_wp2_with fail
        refine (HWK.out _).mono ?_
        rintro e w5 ⟨rfl, hb5⟩
        have B5 := Lib.hid (bnext hd (bnext B3.out hb5))
        clear hb5
        go_wp2
        go_ret
        exact ⟨rfl, B5.out⟩
end Go.Proofs.Ytmcmapcijncblaa
