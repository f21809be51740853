/- Package wire: lay, laid. -/
import Derived.Test.YtihiaopilnjonaaGreatDoorWireC
namespace Go.Proofs.YtihiaopilnjonaaGreatDoor
open Go.RowKit
set_option linter.unusedSimpArgs false
set_option linter.unusedVariables false

theorem spth_snoc {l : List FSpec} {v : FSpec} {t : Nat} (h : t < len l) : spth (l ++ [v]) t = spth l t := by
  have h' : t < l.length := h
  rw [spth_eq _ t (by simp; omega), spth_eq l t h', List.getElem_append_left h']
theorem spth_last (l : List FSpec) (v : FSpec) : spth (l ++ [v]) (len l) = v := by
  rw [len_eq, spth_eq _ l.length (by simp)]; simp
theorem kept_sems {B : Nat} {W0 : World} {l : List FVal} {fs : List FSpec} (h : FSems B W0 l fs) (hm : allMay fs = true) : ∀ m, m ≤ len l → len (keptF (fs.take m)) = len (keptV (fun i => (spth fs i).empty) l m) ∧ ∀ t, t < len (keptF (fs.take m)) → FSem B W0 (fth (keptV (fun i => (spth fs i).empty) l m) t) (spth (keptF (fs.take m)) t) ∧ (spth (keptF (fs.take m)) t).empty = false ∧ (spth (keptF (fs.take m)) t).may = true
  | 0, _ => ⟨by simp [keptF, keptV, len], fun t ht => by simp [keptF, len] at ht⟩
  | m + 1, hm1 => by
    obtain ⟨ih1, ih2⟩ := kept_sems h hm m (by omega)
    have hfl : m < fs.length := by have := h.1; rw [len_eq] at this; omega
    have e1 : fs.take (m + 1) = fs.take m ++ [spth fs m] := by rw [List.take_succ_eq_append_getElem hfl, spth_eq fs m hfl]
    have hmay : (spth fs m).may = true := by
      unfold allMay at hm
      rw [List.all_eq_true] at hm
      rw [spth_eq fs m hfl]; exact hm _ (List.getElem_mem _)
    cases he : (spth fs m).empty with
    | true =>
      have e2 : keptF (fs.take (m + 1)) = keptF (fs.take m) := by
        rw [e1]; unfold keptF; rw [List.filter_append, List.filter_cons_of_neg (by simp [he])]; simp
      have e3 : keptV (fun i => (spth fs i).empty) l (m + 1) = keptV (fun i => (spth fs i).empty) l m := by rw [keptV, if_pos he]
      rw [e2, e3]; exact ⟨ih1, ih2⟩
    | false =>
      have e2 : keptF (fs.take (m + 1)) = keptF (fs.take m) ++ [spth fs m] := by
        rw [e1]; unfold keptF; rw [List.filter_append, List.filter_cons_of_pos (by simp [he])]; simp
      have e3 : keptV (fun i => (spth fs i).empty) l (m + 1) = keptV (fun i => (spth fs i).empty) l m ++ [fth l m] := by rw [keptV, if_neg (by simp [he])]
      rw [e2, e3]
      have hl2 : len (keptF (fs.take m) ++ [spth fs m]) = len (keptF (fs.take m)) + 1 := by simp [len]
      refine ⟨by rw [hl2, ih1]; simp [len], fun t ht => ?_⟩
      rw [hl2] at ht
      by_cases et : t < len (keptF (fs.take m))
      · rw [fth_snoc (by rw [← ih1]; exact et), spth_snoc et]; exact ih2 t et
      · obtain rfl : t = len (keptF (fs.take m)) := by omega
        rw [spth_last]
        refine ⟨?_, he, hmay⟩
        rw [ih1, fth_last]
        exact h.2 m (by omega)
theorem catB_size : ∀ L : List ByteArray, (catB L).size = (L.map (·.size)).sum
  | [] => rfl
  | x :: r => by rw [catB, ByteArray.size_append, catB_size r]; simp
theorem catB_take {L : List ByteArray} {t : Nat} (h : t < L.length) : (catB (L.take t)).size + L[t].size ≤ (catB L).size := by
  have e : catB L = catB (L.take t) ++ (L[t] ++ catB (L.drop (t + 1))) := by
    conv => lhs; rw [← List.take_append_drop t L, List.drop_eq_getElem_cons h]
    rw [catB_app, catB]
  rw [e, ByteArray.size_append, ByteArray.size_append]; omega
theorem flds_keep {w w' : World} {g : Nat} {l : List FVal} (h : Flds w (some ⟨g, 0, none⟩) l) (hk : w'.heap[g]? = w.heap[g]?) : Flds w' (some ⟨g, 0, none⟩) l := fun i hi => by
  obtain ⟨b, off, e, c0, c1, c2, c3, c4, c5⟩ := h i hi
  cases e
  have e2 : ∀ o, w'.cell? ⟨g, o, none⟩ = w.cell? ⟨g, o, none⟩ := fun o => by unfold World.cell?; rw [hk]
  exact ⟨g, 0, rfl, (e2 _).trans c0, (e2 _).trans c1, (e2 _).trans c2, (e2 _).trans c3, (e2 _).trans c4, (e2 _).trans c5⟩

def LayOut (s' : ByteArray) (b base : Nat) (w : World) (e : Ending) (w' : World) : Prop := e = .returned (.tuple #[]) ∧ WrB w' b base s' ∧ WK base b w w'
set_option maxRecDepth 100000 in
set_option maxHeartbeats 4000000 in
theorem lay_any (B b base b1 off c : Nat) (W0 : World) (l : List FVal) (fs : List FSpec) (s : ByteArray) (w : World) (hl : Flds w (some ⟨b1, off, none⟩) l) (hn : len l ≤ 1000) (h0 : 0 < len l) (hS : FSems B W0 l fs) (hm : allMay fs = true) (hk : Keep8 B W0 w) (hb0 : W0.heap.size ≤ b)
    (ht : PTab B w) (hB : B ≤ base) (hW : WrB w b base s) (hs : s.size + (layP fs).size ≤ 60000000000000) :
    Calls Tryz.prog 105 #[.pointer (some ⟨b, 0, none⟩), .slice (some ⟨b1, off, none⟩) (len l) c] w (LayOut (s ++ layP fs) b base w) := by
  have HL := Lib.hid hl
  have HS := Lib.hid hS
  have HK := Lib.hid hk
  have hsz := hk.s1
  have HT := Lib.hid ht
  have HWR := Lib.hid hW
  have HBS : Hid (base ≤ w.heap.size) := Lib.hid (by have := hW.1; have := hW.lt; omega)
  have HKS := Lib.hid (kept_sems hS hm (len l) (Nat.le_refl _))
  have e0 : fs.take (len l) = fs := List.take_of_length_le (by have := hS.1; rw [len_eq] at this; omega)
  rw [e0] at HKS
  have eg := (says_lay hS hk).1
  clear hl hS hk ht hW e0
  go_enter Tryz.func105, Tryz.ntmps105
  go_wp2_with fail
  refine (clone_any b1 off c l w HL.out hn).mono ?_
  rintro e w1 ⟨v, rfl, hown, hb1⟩
  have HO := Lib.hid hown
  have HB1 := Lib.hid hb1
  clear hown hb1
  go_wp2_with fail
  refine (delf_any w.heap.size v l 174 #[] (fun i => (spth fs i).empty) w1 HO.out hn h0 HB1.out.size eg (fun i hi w' hb => ((says_lay HS.out ((HK.out.base HB1.out hsz).base hb hsz)).2 i hi w' (Below.refl _ _)))).mono ?_
  rintro e w2 ⟨g, cap, rfl, hfl, hb2, hg, cur, hcur⟩
  have HFL := Lib.hid hfl
  have HB2 : Hid (Below w.heap.size w w2) := Lib.hid (HB1.out.trans hb2)
  have HCUR := Lib.hid hcur
  clear hfl hb2 hcur HO HB1 HL
  obtain ⟨K, hK⟩ : ∃ K, len (keptV (fun i => (spth fs i).empty) l (len l)) = K := ⟨_, rfl⟩
  obtain ⟨kl, hkl⟩ : ∃ kl, keptV (fun i => (spth fs i).empty) l (len l) = kl := ⟨_, rfl⟩
  obtain ⟨ks, hks⟩ : ∃ ks, keptF fs = ks := ⟨_, rfl⟩
  have hK1000 : K ≤ 1000 := by rw [← hK]; exact Nat.le_trans (keptV_len _ _ _) hn
  have HLP : Hid (layP fs = mapP K ++ catB (ks.map fieldP)) := Lib.hid (by
    unfold layP; rw [hks]
    have := HKS.out.1
    rw [hks, hK, len_eq] at this
    rw [this])
  rw [hK]
  rw [hkl] at HFL hK HKS
  rw [hks] at HKS
  have HKK : Hid (len ks = K ∧ len kl = K) := Lib.hid ⟨by rw [HKS.out.1, hK], hK⟩
  clear hK hkl hks
  have HS2 : Hid (s.size + (mapP K).size + (catB (ks.map fieldP)).size ≤ 60000000000000) := Lib.hid (by rw [HLP.out, ByteArray.size_append] at hs; omega)
  have hs0 : s.size ≤ 60000000000000 := by omega
  have hbw : b < w.heap.size := HWR.out.lt
  have hgb : g ≠ b := by omega
  have n8 : Not8 (.cells cur 172 (0, 0)) := not8_cells (by decide)
  clear hs
  go_wp2_with fail
  refine (Map_w B b base K s w2 (HT.out.keep HB2.out (by have := HBS.out; omega)) hB (HWR.out.below HB2.out) (by omega) (by omega)).mono ?_
  rintro e w3 ⟨rfl, hw3, hk3⟩
  have HW3 : Hid (WrB w3 b base (s ++ mapP K ++ catB ((ks.map fieldP).take 0))) := Lib.hid (by
    have e : s ++ mapP K ++ catB ((ks.map fieldP).take 0) = s ++ mapP K := ba_ext (by simp [catB])
    rw [e]; exact hw3)
  have HK3 : Hid (WK base b w2 w3) := Lib.hid hk3
  clear hw3 hk3
  go_wp2
  go_loopg [15] K (fun gg i wr => ∃ m : Nat, gg + m = K ∧ i = .int .i64 m ∧ Hid (WrB wr b base (s ++ mapP K ++ catB ((ks.map fieldP).take m))) ∧ Hid (WK base b w2 wr))
  case atStart => exact ⟨0, rfl, rfl, HW3.out, HK3.out⟩
  case round =>
    clear HW3 HK3
    obtain ⟨m, hm2, rfl, HWW, HWK⟩ := hrel
    by_cases hlt : m < K
    · have i1 : (m : Int) < K := by omega
      obtain ⟨b', off', hbe, c0, c1, c2, c3, c4, c5⟩ := flds_keep HFL.out ((HWK.out.keep g _ HCUR.out hgb n8).trans HCUR.out.symm) m (by rw [HKK.out.2]; exact hlt)
      cases hbe
      rw [Nat.zero_add] at c0 c1 c2 c3 c4 c5
      obtain ⟨hsem, hemp, hmay⟩ := HKS.out.2 m (by rw [HKK.out.1]; exact hlt)
      have hsn : (ks.map fieldP).take (m + 1) = (ks.map fieldP).take m ++ [fieldP (spth ks m)] := by
        have hml : m < ks.length := by have := HKK.out.1; rw [len_eq] at this; omega
        rw [List.take_succ_eq_append_getElem (by simpa using hml), List.getElem_map, spth_eq ks m hml]
      have hct := catB_take (L := ks.map fieldP) (t := m) (by have := HKK.out.1; rw [len_eq] at this; simp; omega)
      have hfm : (ks.map fieldP)[m]'(by have := HKK.out.1; rw [len_eq] at this; simp; omega) = fieldP (spth ks m) := by
        rw [List.getElem_map, spth_eq ks m (by have := HKK.out.1; rw [len_eq] at this; omega)]
      rw [hfm] at hct
      obtain ⟨v, hv⟩ : ∃ v, fth kl m = v := ⟨_, rfl⟩
      obtain ⟨f, hf⟩ : ∃ f, spth ks m = f := ⟨_, rfl⟩
      rw [hv] at c0 c1 c2 c3 c4 c5 hsem
      rw [hf] at hsem hemp hmay hsn hct
      have hkey := hsem.key
      have hksz := hsem.ksz
      have ep := hsem.ep
      have hput := hsem.put hmay hemp
      obtain ⟨s1, hs1⟩ : ∃ s1, s ++ mapP K ++ catB ((ks.map fieldP).take m) = s1 := ⟨_, rfl⟩
      rw [hs1] at HWW
      have hfsz : (fieldP f).size = (strP f.key).size + f.bytes.size := by unfold fieldP; rw [ByteArray.size_append]
      have hs1s : s1.size + (strP f.key).size + f.bytes.size ≤ 60000000000000 := by
        rw [← hs1, ByteArray.size_append, ByteArray.size_append]
        have := HS2.out
        omega
      have HSN : Hid (s ++ mapP K ++ catB ((ks.map fieldP).take (m + 1)) = s1 ++ strP f.key ++ f.bytes) := Lib.hid (by
        rw [hsn, catB_snoc, ← hs1]; unfold fieldP; simp only [ByteArray.append_assoc])
      have HPUT := Lib.hid hput
      have hbw2 : base ≤ w2.heap.size := by have := HBS.out; have := HB2.out.size; omega
      have HBW2 := Lib.hid hbw2
      have HK8 : Hid (Keep8 B W0 wr) := Lib.hid ((HK.out.base HB2.out hsz).wk HWK.out hb0 hB)
      have HTR : Hid (PTab B wr) := Lib.hid ((HT.out.keep HB2.out (by have := HBS.out; omega)).keep HWK.out.bel hB)
      rw [← hkey] at HSN hs1s hksz
      have HKEY := Lib.hid hkey
      clear hsem hemp hmay hsn hct hfm hs1 hfsz hput hv hf hbw2 hkey
      go_wp2_with fail
      refine (Str_w B b base v.key s1 _ (HTR.out.keep (balloc (Below.refl _ _) _) (by have := HTR.out.size; omega)) hB (HWW.out.below (balloc (Below.refl _ _) _)) hksz (by omega)).mono ?_
      rintro e w4 ⟨rfl, hw4, hk4⟩
      have HW4 := Lib.hid hw4
      have hbx : w4.heap[wr.heap.size]? = some (.cells #[.string v.key, .bool v.must, .func (.func v.ef) #[] v.ec, .func (.func v.mf) #[] v.mc, .func (.func v.pf) #[] v.pc, .func (.func v.gf) #[] v.gc] 172 (0, 0)) :=
        hk4.keep _ _ (heap_alloc_new _ _) (by have := HWW.out.lt; omega) (not8_cells (by decide))
      have HKA : Hid (WK base b wr w4) := Lib.hid ((WK.of_below (balloc (Below.refl _ _) _) (by have := HWK.out.bel.size; have := HBW2.out; omega)).trans hk4)
      have bx4 := block_cell hbx 4
      simp only [List.getElem?_toArray, List.getElem?_cons_zero, List.getElem?_cons_succ] at bx4
      have lbx := lt_of_block hbx
      clear hw4 hk4 hbx c0 c1 c2 c3 c4 c5
      go_wp2_with fail
      refine (HPUT.out w4 b base _ (HK8.out.wk HKA.out hb0 hB) hb0 (HTR.out.keep HKA.out.bel hB) hB HW4.out (by rw [ByteArray.size_append]; omega)).mono ?_
      rintro e w5 ⟨rfl, hw5, hk5⟩
      have HW5 : Hid (WrB w5 b base (s ++ mapP K ++ catB ((ks.map fieldP).take (m + 1)))) := Lib.hid (by rw [HSN.out]; exact hw5)
      have HK5 : Hid (WK base b w2 w5) := Lib.hid ((HWK.out.trans HKA.out).trans hk5)
      clear hw5 hk5 HW4 HKA HWW HWK bx4 lbx
      go_wp2
      go_roundg (K - (m + 1))
      case rel => exact ⟨m + 1, by omega, by go_num, HW5.out, HK5.out⟩
      case measure => omega
    · obtain rfl : m = K := by omega
      have i1 : ¬ (m : Int) < m := by omega
      go_wp2
      go_end0
      refine ⟨rfl, ?_, (WK.of_below HB2.out HBS.out).trans HWK.out⟩
      have h := HWW.out
      rw [List.take_of_length_le (by have := HKK.out.1; rw [len_eq] at this; simp; omega), ByteArray.append_assoc, ← HLP.out] at h
      exact h
end Go.Proofs.YtihiaopilnjonaaGreatDoor
