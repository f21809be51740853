/- Package layout: what the function that levels gives back hands over. -/
import Derived.Test.YtbeppkokkbgddaaLevels
namespace Go.Proofs.Ytbeppkokkbgddaa
open Go.RowKit Go.ChangeMaps
set_option linter.unusedSimpArgs false
set_option linter.unusedVariables false
attribute [local go_sem] Oper.semAt_some

theorem levels_any (a : Option Addr) (cap : Nat) (l : List Int) (d : Int) (w : World) : Calls Try.prog 44 #[.slice a (len l) cap, .int .i64 d] w fun e w' =>
    e = .returned (.func (.func 63) #[] #[.pointer (some ⟨w.heap.size, 0, none⟩), .pointer (some ⟨w.heap.size + 1, 0, none⟩)]) ∧ w' = (w.alloc (.cells #[.slice a (len l) cap] 28)).alloc (.cells #[.int .i64 d] 3) := by
  go_enter Try.func44, Try.ntmps44
  go_wp2
  go_ret
  exact ⟨rfl, rfl⟩

set_option maxRecDepth 100000 in
set_option maxHeartbeats 4000000 in
theorem levels_seq (n : Nat) (hn1 : 1 ≤ n) (B1 B2 : Nat) (a : Option Addr) (cap : Nat) (leaves : List Int) (d : Nat) (w : World)
    (hc1 : w.cell? ⟨B1, 0, none⟩ = some (.slice a (len leaves) cap)) (hc2 : w.cell? ⟨B2, 0, none⟩ = some (.int .i64 d)) (hl : U64s w a leaves) (hlen : len leaves ≤ 1000000) (hd : d ≤ 64) (hu : ∀ k ∈ leaves, U64 k) :
    SeqP Fence.wide n Try.prog 63 #[.pointer (some ⟨B1, 0, none⟩), .pointer (some ⟨B2, 0, none⟩)] (fun x : Lev => #[.map (some x.1)]) (LevIs (len leaves)) (LevsOf leaves d) d w := by
  intro l J W hW hJ hY h0
  have HC1 : Hid (W.cell? ⟨B1, 0, none⟩ = some (.slice a (len leaves) cap)) := Lib.hid (by rw [hW.cell (p := ⟨B1, 0, none⟩) (lt_of_cell hc1)]; exact hc1)
  have HC2 : Hid (W.cell? ⟨B2, 0, none⟩ = some (.int .i64 d)) := Lib.hid (by rw [hW.cell (p := ⟨B2, 0, none⟩) (lt_of_cell hc2)]; exact hc2)
  have HL := Lib.hid (hl.below hW)
  have H0 := Lib.hid h0
  have HJ := Lib.hid hJ
  have HY := Lib.hid hY
  have HU := Lib.hid hu
  have L2 := lt_of_cell HC2.out
  clear hc1 hc2 hW h0 hJ hY hl hu
  refine callsIn_of_wp Try.func63 rfl trivial ?_ rfl
  simp only [Try.ntmps63, List.size_toArray, List.length_cons, List.length_nil, Nat.reduceAdd, Nat.reduceSub, Array.replicate_succ, Array.replicate_zero, List.push_toArray, List.append_toArray, List.nil_append, List.cons_append]
  have hmm := @run_makeMap Try.prog
  gi_upto_region 1 with (fail)
  obtain ⟨V, hV⟩ : ∃ V, (W.alloc (.map #[] 0)).alloc (.map #[] 0) = V := ⟨_, rfl⟩
  have VB : Hid (Below W.heap.size W V) := Lib.hid (by rw [← hV]; (repeat (first | exact Below.refl _ _ | assumption | (refine bdrew ?_) | (refine bdrewN ?_ _) | (refine balloc ?_ _) | (refine bset ?_ (by first | omega | (simp; done) | (simp; omega)) _) | (refine bnext ?_ (by assumption)))))
  have VM : Hid (V.heap[W.heap.size]? = some (mObj .u64 0 (kv []))) := Lib.hid (by rw [← hV]; exact block_alloc (heap_alloc_new _ _) _)
  have VX : Hid (V.heap[W.heap.size + 1]? = some (mObj .u64 0 (kv []))) := Lib.hid (by rw [← hV]; exact alloc_new_at _ (by simp))
  have VJ : Hid (J [] V) := Lib.hid (by rw [← hV]; exact abides_alloc HJ.out _ (abides_alloc HJ.out _ H0.out))
  have hcc : V.cell? ⟨B1, 0, none⟩ = some (.slice a (len leaves) cap) := by rw [VB.out.cell (p := ⟨B1, 0, none⟩) (lt_of_cell HC1.out)]; exact HC1.out
  rw [hV]
  clear hV hmm H0
  gi_wp2
  clear hcc
  gi_loopw [13] (fun i wr => ∃ m : Nat, m ≤ len leaves ∧ i = .int .i64 m ∧ Hid (Below W.heap.size W wr) ∧ Hid (wr.heap[W.heap.size]? = some (mObj .u64 0 (kv (insAll (leaves.take m))))) ∧ Hid (wr.heap[W.heap.size + 1]? = some (mObj .u64 0 (kv []))) ∧ Hid (J [] wr)) (fun i _ => len leaves - (intOf i).toNat)
  case atStart => exact ⟨0, Nat.zero_le _, rfl, VB.out, VM.out, VX.out, VJ.out⟩
  case round =>
    obtain ⟨m, hm, rfl, HB, HM, HX, HJ1⟩ := hrel
    by_cases hlt : m < len leaves
    · obtain ⟨b, off, rfl, hcell⟩ := HL.out.below HB.out m hlt
      have b0 : (m : Int) < len leaves := by omega
      gi_wp2_with (gi_at_mapUpdate; refine wpListIn_mapUpdate_m rfl _ _ _ 71 22 4 .u64 rfl Try.underlying71 Try.underlying22 W.heap.size 0 _ rfl HM.out _ _ rfl rfl ?_)
      go_roundw
      case rel => exact ⟨m + 1, by omega, by go_num, setBlock_below HB.out (Nat.le_refl _), (by
        have e : leaves.take (m + 1) = leaves.take m ++ [nth leaves m] := by rw [List.take_succ_eq_append_getElem hlt, nth_eq leaves m hlt]
        rw [e, insAll_snoc, ← kv_put]
        exact setBlock_same HM.out), (setBlock_other (by omega)).trans HX.out, abides_set HJ.out HJ1.out (Nat.le_refl _) HM.out rfl⟩
      case measure => simp [intOf]; omega
    · obtain rfl : m = len leaves := by omega
      have HM1 : Hid (wr.heap[W.heap.size]? = some (mObj .u64 0 (kv (insAll leaves)))) := Lib.hid (by have := HM.out; rw [take_len] at this; exact this)
      have HC := Lib.hid (HB.out.cell (p := ⟨B2, 0, none⟩) L2 ▸ HC2.out)
      have hcc : wr.cell? ⟨B2, 0, none⟩ = some (.int .i64 d) := HC.out
      have hz := HB.out.size
      obtain ⟨wo, hwo⟩ : ∃ wo : World, wo = wr := ⟨_, rfl⟩
      subst hwo
      clear HM HC HC1 HC2 HB
      gi_wp2
      clear hcc
      gi_loopw [4, 5, 21] (fun p q c wr => ∃ (pre : List Lev) (kb nb xb xn i : Nat) (ks xs : List Int), p = .map (some kb) ∧ q = .map (some xb) ∧ c = .int .i64 i ∧ i ≤ d ∧ kb ≠ xb ∧ W.heap.size ≤ kb ∧ W.heap.size ≤ xb ∧ W.heap.size ≤ wr.heap.size ∧
        Hid (LevIs (len leaves) (kb, nb, ks) wr) ∧ Hid (wr.heap[xb]? = some (mObj .u64 xn (kv xs))) ∧ Hid (LevOf leaves i ks) ∧ Hid (LevsOf leaves i pre) ∧ Hid (J pre wr)) (fun _ _ c _ => d - (intOf c).toNat)
      case atStart =>
        have hh := insAll_all leaves
        exact ⟨[], _, 0, _, 0, 0, insAll leaves, [], rfl, rfl, rfl, Nat.zero_le _, by omega, Nat.le_refl _, by omega, hz, ⟨HM1.out, hh.1, hh.2.2, fun k hk => HU.out k ((hh.2.1 k).1 hk)⟩, HX.out,
          fun k => by rw [hh.2.1]; simp, ⟨rfl, fun i hi => by simp at hi⟩, HJ1.out⟩
      case round =>
        clear HM1 HX HJ1
        obtain ⟨pre, kb, nb, xb, xn, i, ks, xs, rfl, rfl, rfl, hid, hne, hkb, hxb, hwz, HK, HX, HO, HP, HJ1⟩ := hrel
        by_cases hlt : i < d
        · have b0 : (i : Int) < d := by omega
          obtain ⟨fn, tmps, assign, body, hy, hR⟩ := HY.out pre (kb, nb, ks) wr HJ1.out HK.out (by rw [HP.out.1]; exact hlt)
          have HR := Lib.hid hR
          dsimp only at hy
          clear hR
          gi_wp2
          refine HR.out.mono ?_
          rintro e W3 ⟨rfl, hJ3, hk3⟩
          have J3 := Lib.hid hJ3
          have HK3 : Hid (W3.heap[kb]? = some (mObj .u64 nb (kv ks))) := Lib.hid (hk3.same _ _ HK.out.1 rfl)
          have HX3 : Hid (W3.heap[xb]? = some (mObj .u64 xn (kv xs))) := Lib.hid (hk3.same _ _ HX.out rfl)
          have hz3 : W.heap.size ≤ W3.heap.size := Nat.le_trans hwz hk3.size
          clear hJ3 hk3 hy HR HX hwz
          gi_upto_region 10 with ((with_reducible refine wpListIn_clear_m rfl _ 71 22 4 .u64 rfl Try.underlying71 xb xn _ rfl HX3.out ?_))
          obtain ⟨V, hV⟩ : ∃ V, setBlock W3 xb (mObj .u64 (xn + (kv xs).length) []) = V := ⟨_, rfl⟩
          have HK4 : Hid (V.heap[kb]? = some (mObj .u64 nb (kv ks))) := Lib.hid (by rw [← hV]; exact (setBlock_other hne).trans HK3.out)
          have HX4 : Hid (V.heap[xb]? = some (mObj .u64 (xn + (kv xs).length) (kv []))) := Lib.hid (by rw [← hV]; exact setBlock_same HX3.out)
          have J4 : Hid (J (pre ++ [(kb, nb, ks)]) V) := Lib.hid (by rw [← hV]; exact abides_set HJ.out J3.out hxb HX3.out rfl)
          have hz4 : W.heap.size ≤ V.heap.size := by rw [← hV, setBlock_size]; exact hz3
          rw [hV]
          clear hV HX3 HK3 J3 hz3
          gi_wp2_with (gi_at_range; refine wpListIn_range_m rfl _ 71 22 4 .u64 rfl Try.underlying71 kb nb _ rfl HK4.out ?_; intro hrg)
          try go_frame
          obtain ⟨y, hyy⟩ : ∃ y, xn + (kv xs).length = y := ⟨_, rfl⟩
          rw [hyy] at HX4
          obtain ⟨r, hr⟩ : ∃ r, V.heap.size = r := ⟨_, rfl⟩
          obtain ⟨Z, hZ⟩ : ∃ Z, V.alloc (.mapIter (some kb) (nb + (kv ks).length) #[] (nb + (kv ks).length)) = Z := ⟨_, rfl⟩
          have HR5 : Hid (Ranging Z kb r .u64 nb (kv ks) #[]) := Lib.hid (by rw [← hZ, ← hr]; exact hrg)
          have HX5 : Hid (Z.heap[xb]? = some (mObj .u64 y (kv []))) := Lib.hid (by rw [← hZ]; exact block_alloc HX4.out _)
          have J5 : Hid (J (pre ++ [(kb, nb, ks)]) Z) := Lib.hid (by rw [← hZ]; exact abides_alloc HJ.out _ J4.out)
          have hz5 : W.heap.size ≤ Z.heap.size := by rw [← hZ]; simp; omega
          have hrr : W.heap.size ≤ r := by omega
          have hxr : xb ≠ r := by have := lt_of_block HX4.out; omega
          rw [hr, hZ]
          clear hr hZ hrg HK4 HX4 J4 hyy hz4
          gi_loopw [8] (fun _ wr => ∃ (seen : Array Nat) (nx : List Int), Hid (Ranging wr kb r .u64 nb (kv ks) seen) ∧ Hid (wr.heap[xb]? = some (mObj .u64 y (kv nx))) ∧ Hid (J (pre ++ [(kb, nb, ks)]) wr) ∧ Hid (Halved ks nb seen nx) ∧ W.heap.size ≤ wr.heap.size) (fun _ wr => rLeft wr r (nb + (kv ks).length))
          case atStart => exact ⟨#[], [], HR5.out, HX5.out, J5.out, Halved.start ks nb, hz5⟩
          case round =>
            obtain ⟨seen, nx, hr, hx, hj, hh, hzz⟩ := hrel
            clear HR5 HX5 J5 hz5
            gi_wp2_with (gi_at_next; refine wpListIn_next_m rfl _ rfl kb r .u64 nb _ seen rfl hr.out ?_ ?_)
            · intro hall
              have HALL := Lib.hid hall
              clear hall
              gi_wp2
              go_roundw
              case rel =>
                have hd := hh.out.done HALL.out
                exact ⟨pre ++ [(kb, nb, ks)], xb, y, kb, nb, i + 1, nx, ks, rfl, rfl, by go_num, hlt, Ne.symm hne, hxb, hkb, hzz,
                  ⟨hx.out, hh.out.1, Nat.le_trans (halved_len hh.out.1 hd) HK.out.2.2.1, halved_u64 HK.out.2.2.2 hd⟩, hr.out.map, HO.out.next hd, HP.out.snoc HO.out, hj.out⟩
              case measure => simp [intOf]; omega
            · intro j hj' w1 hns hr1 hltj hb1 hsz hoth hen
              have hi' : j < ks.length := by rw [← kv_len]; exact hj'
              have hkk : (kv ks)[j].1 = ks[j] := (kv_get ks j hj').1
              have hvv : (kv ks)[j].2 = .bool true := (kv_get ks j hj').2
              rw [hkk, hvv] at hen ⊢
              have J6 : Hid (J (pre ++ [(kb, nb, ks)]) w1) := Lib.hid (HJ.out _ _ _ (some r) hj.out (grown_of hb1 hoth) (fun r' e => by cases e; exact ⟨hrr, _, hr.out.iter, rfl⟩))
              have HX6 : Hid (w1.heap[xb]? = some (mObj .u64 y (kv nx))) := Lib.hid ((hoth xb hxr).trans hx.out)
              have HR6 := Lib.hid hr1
              have HLT := Lib.hid hltj
              have HH6 := Lib.hid (hh.out.step (nb := nb) hi')
              have hz6 : W.heap.size ≤ w1.heap.size := by rw [hsz]; exact hzz
              have hku := HK.out.2.2.2 ks[j] (List.getElem_mem hi')
              obtain ⟨k, hkd⟩ : ∃ k, ks[j] = k := ⟨_, rfl⟩
              rw [hkd] at hen HH6 hku ⊢
              unfold U64 at hku
              have hk0 := hku.1
              have hk1 := hku.2
              clear hkk hvv hns hr1 hltj hb1 hsz hoth hj hr hx hh hkd hku
              have HR7 : Hid (Ranging (setBlock w1 xb (mObj .u64 y (mPut (kv nx) (k / 2) (.bool true)))) kb r .u64 nb (kv ks) (seen.push (nb + j))) := Lib.hid ⟨(setBlock_other hne).trans HR6.out.map, (setBlock_other (Ne.symm hxr)).trans HR6.out.iter⟩
              have HL7 : Hid (rLeft (setBlock w1 xb (mObj .u64 y (mPut (kv nx) (k / 2) (.bool true)))) r (nb + (kv ks).length) < rLeft wr r (nb + (kv ks).length)) := Lib.hid (by have := HLT.out; rw [HR6.out.left] at this; rw [HR7.out.left]; exact this)
              gi_wp2_with fail
              refine ⟨trivial, (callsIn_wide.2 (parent_any k w1 hk0 hk1)).mono ?_⟩
              rintro e w' ⟨rfl, rfl⟩
              gi_wp2_with (gi_at_mapUpdate; refine wpListIn_mapUpdate_m rfl _ _ _ 71 22 4 .u64 rfl Try.underlying71 Try.underlying22 xb y _ rfl HX6.out _ _ rfl rfl ?_)
              go_roundw
              case rel =>
                (repeat apply Exists.intro)
                exact ⟨⟨seen.push (nb + j), insK nx (k / 2), HR7.out, (by rw [← kv_put]; exact setBlock_same HX6.out), abides_set HJ.out J6.out hxb HX6.out rfl, HH6.out, by rw [setBlock_size]; exact hz6⟩, rfl⟩
              case measure => exact HL7.out
        · obtain rfl : i = d := by omega
          gi_wp2
          go_end0
          exact ⟨⟨_, rfl⟩, pre, HP.out, HJ1.out⟩
end Go.Proofs.Ytbeppkokkbgddaa
