/- The reference of layer 7: things laid. -/
import Derived.Test.YtihiaopilnjonaaGreatDoorRefR
import Derived.Test.YtihiaopilnjonaaGreatDoorWireL
namespace Go.Proofs.YtihiaopilnjonaaGreatDoor
open Go.RowKit
set_option linter.unusedSimpArgs false
set_option linter.unusedVariables false

def dgsR (l : List ByteArray) : ByteArray := if len l = 0 then ⟨#[]⟩ else dgsP l
theorem catB_tk (f : ByteArray → ByteArray) (l : List ByteArray) (m : Nat) (h : m < len l) : catB ((l.take (m + 1)).map f) = catB ((l.take m).map f) ++ f (sth l m) := by
  rw [sth_eq l m h, List.take_succ_eq_append_getElem h, List.map_append, catB_app]
  simp [catB]
theorem catB_le (f : ByteArray → ByteArray) (M : Nat) : ∀ l : List ByteArray, (∀ x ∈ l, (f x).size ≤ M) → (catB (l.map f)).size ≤ l.length * M
  | [], _ => by simp [catB]
  | x :: r, h => by
    have ih := catB_le f M r (fun y hy => h y (List.mem_cons_of_mem _ hy))
    have h0 := h x List.mem_cons_self
    rw [List.map_cons, catB, ByteArray.size_append, List.length_cons, Nat.succ_mul]
    omega
theorem dgsP_len (l : List ByteArray) (h : ∀ i, i < len l → (sth l i).size < 65536) : (dgsP l).size ≤ 9 + len l * 65544 := by
  unfold dgsP
  have h1 : (listP (len l)).size ≤ 9 := laidP_len 3 _ ByteArray.empty
  have h2 := catB_le binP 65544 l (fun x hx => by
    obtain ⟨i, hi, rfl⟩ := List.getElem_of_mem hx
    have := h i hi
    rw [sth_eq l i hi] at this
    have h3 : (binP l[i]).size ≤ 9 + l[i].size := laidP_len 1 _ _
    omega)
  rw [ByteArray.size_append]
  have : l.length = len l := rfl
  omega
theorem dgsR_len (l : List ByteArray) (h : ∀ i, i < len l → (sth l i).size < 65536) (hn : len l ≤ 60000) : (dgsR l).size ≤ 4000000000 := by
  unfold dgsR
  split
  · decide
  · have := dgsP_len l h
    omega
set_option maxRecDepth 100000 in
set_option maxHeartbeats 2000000 in
theorem rdigests_any (B : Nat) (a : Option Addr) (c : Nat) (l : List ByteArray) (w : World) (hl : Strs B w a l) (hn : len l ≤ 60000) (hz : ∀ i, i < len l → (sth l i).size < 65536) :
    Calls Tryz.prog 95 #[.slice a (len l) c] w fun e w' => e = .returned (.string (dgsR l)) ∧ Below w.heap.size w w' := by
  have HL := Lib.hid hl
  have HZ := Lib.hid hz
  by_cases h0 : len l = 0
  · have HE : Hid (dgsR l = ⟨#[]⟩) := Lib.hid (by unfold dgsR; rw [if_pos h0])
    rw [h0]
    clear hl hz hn h0
    go_enter Tryz.func95, Tryz.ntmps95
    go_wp2
    go_ret
    exact ⟨by rw [HE.out]; rfl, by (repeat (first | exact Below.refl _ _ | assumption | (refine bdrew ?_) | (refine bdrewN ?_ _) | (refine balloc ?_ _) | (refine bset ?_ (by first | omega | (simp; done) | (simp; omega)) _) | (refine bnext ?_ (by assumption))))⟩
  have HE : Hid (dgsR l = listP (len l) ++ catB (l.map binP)) := Lib.hid (by unfold dgsR; rw [if_neg h0]; rfl)
  have HLP := Lib.hid (rlist_any (len l) w (by omega))
  obtain ⟨K, hK⟩ : ∃ K, listP (len l) = K := ⟨_, rfl⟩
  have hKs : K.size ≤ 9 := by rw [← hK]; exact laidP_len 3 _ ByteArray.empty
  rw [hK] at HLP HE
  have h0' : (len l == 0) = false := by simp [h0]
  have hd0 : decide (len l = 0) = false := decide_eq_false h0
  have HN := Lib.hid hn
  clear hl hz hK h0
  go_enter Tryz.func95, Tryz.ntmps95
  go_wp2_with fail
  refine HLP.out.mono ?_
  rintro e w1 ⟨rfl, hb⟩
  have HB := Lib.hid hb
  clear hb h0' hd0
  go_wp2
  go_loopg [3, 4] (len l) (fun g s i wr => ∃ m : Nat, ∃ t : ByteArray, g + m = len l ∧ s = .string t ∧ i = .int .i64 m ∧ Hid (t = K ++ catB ((l.take m).map binP) ∧ t.size ≤ 9 + m * 65544) ∧ Hid (Below w.heap.size w wr))
  case atStart => exact ⟨0, K, rfl, rfl, rfl, ⟨by simp [catB], by omega⟩, HB.out⟩
  case round =>
    obtain ⟨m, t, hg, rfl, rfl, HT, HW⟩ := hrel
    by_cases hlt : m < len l
    · obtain ⟨b, off, rfl, hc⟩ := (HL.out.below HW.out) m hlt
      have c0 := hc.cell
      have i1 : (m : Int) < len l := by omega
      have hzm := HZ.out m hlt
      have HD := Lib.hid (rbin_any (sth l m) wr hzm)
      have hts := HT.out.2
      have hbs : (binP (sth l m)).size ≤ 9 + (sth l m).size := laidP_len 1 _ _
      have HT2 : Hid (t ++ binP (sth l m) = K ++ catB ((l.take (m + 1)).map binP)) := Lib.hid (by
        rw [catB_tk _ _ _ hlt, ← ByteArray.append_assoc, ← HT.out.1])
      obtain ⟨z, hzz⟩ : ∃ z, binP (sth l m) = z := ⟨_, rfl⟩
      rw [hzz] at HD HT2 hbs
      have hbz : z.size ≤ 65544 := by omega
      have hmN : m ≤ 60000 := by have := HN.out; omega
      have hti : (t.size : Int) ≤ 5000000000 := by omega
      have hzi : (z.size : Int) ≤ 65544 := by omega
      generalize sth l m = v at c0 HD
      clear hc hzz hzm hbs
      go_wp2_with fail
      refine HD.out.mono ?_
      rintro e w2 ⟨rfl, hb⟩
      have HB1 : Hid (Below w.heap.size w w2) := Lib.hid (bnext HW.out hb)
      clear hb c0
      go_wp2
      go_roundg (len l - (m + 1))
      case rel => exact ⟨m + 1, t ++ z, by omega, rfl, by go_num, ⟨HT2.out, by rw [ByteArray.size_append]; omega⟩, HB1.out⟩
      case measure => omega
    · obtain rfl : m = len l := by omega
      have i1 : ¬ ((len l : Nat) : Int) < (len l : Nat) := by omega
      have HT2 : Hid (t = K ++ catB (l.map binP)) := Lib.hid (by rw [HT.out.1, show l.take (len l) = l from List.take_length])
      clear HT
      go_wp2
      go_ret
      exact ⟨by rw [HE.out, ← HT2.out]; rfl, HW.out⟩
theorem catK_le (ps : BPs) (k v : ByteArray) : (catK (ps ++ [(k, v)])).size ≤ (catK ps).size + k.size + 9 + v.size := by
  by_cases h : v.size = 0
  · unfold catK; rw [rkept_none _ _ _ h]; omega
  · rw [catK_some _ _ _ h, ByteArray.size_append, ByteArray.size_append]
    have : (strP k).size ≤ 9 + k.size := laidP_len 2 _ _
    omega
theorem putZ {j : Nat} {ps : BPs} {k v : ByteArray} (h : Hid ((catK ps).size ≤ j * 25000000000)) (hk : k.size = 1) (hv : v.size ≤ 24900000000) : Hid ((catK (ps ++ [(k, v)])).size ≤ (j + 1) * 25000000000) := Lib.hid (by
  have h1 := h.out
  have h2 := catK_le ps k v
  omega)
theorem numR_len (n : Int) : (numR n).size ≤ 9 := by
  unfold numR
  split
  · decide
  · exact laidP_len 0 n ByteArray.empty
theorem binP_len (s : ByteArray) : (binP s).size ≤ 9 + s.size := laidP_len 1 _ _
def partPs (root : ByteArray) (weight first life keys : Int) : BPs := [(⟨#[102]⟩, numR first), (⟨#[107]⟩, numR keys), (⟨#[108]⟩, numR life), (⟨#[114]⟩, binP root), (⟨#[119]⟩, numR weight)]
def sigPs (idx : Int) (wots path : List ByteArray) : BPs := [(⟨#[105]⟩, numR idx), (⟨#[112]⟩, dgsR path), (⟨#[118]⟩, dgsR wots)]
def slotPs (L : Int) (q : Bool) (idx : Int) (wots path : List ByteArray) : BPs := [(⟨#[103]⟩, smallR (rlayP (sigPs idx wots path))), (⟨#[108]⟩, numR L), (⟨#[115]⟩, if q then numP 1 else ⟨#[]⟩)]
set_option maxRecDepth 100000 in
set_option maxHeartbeats 4000000 in
theorem rlaypart_any (root : ByteArray) (weight first life keys : Int) (w : World) (hr : root.size < 65536) (hw : U64i weight) (hf : U64i first) (hl : U64i life) (hk : U64i keys) :
    Calls Tryz.prog 65 #[.agg #[.string root, .int .u64 weight, .int .u64 first, .int .u64 life, .int .u64 keys]] w fun e w' => e = .returned (.string (rlayP (partPs root weight first life keys))) ∧ Below w.heap.size w w' := by
  have HR := Lib.hid hr
  clear hr
  go_enter Tryz.func65, Tryz.ntmps65
  go_upto_region 2 with fail
  obtain ⟨V, hV⟩ : ∃ V, (w.alloc (.cells #[.string root, .int .u64 weight, .int .u64 first, .int .u64 life, .int .u64 keys] 46)).alloc (.cells #[.int .u64 0, .string ⟨#[]⟩] 141) = V := ⟨_, rfl⟩
  have HB : Hid (Below w.heap.size w V) := Lib.hid (by rw [← hV]; (repeat (first | exact Below.refl _ _ | assumption | (refine bdrew ?_) | (refine bdrewN ?_ _) | (refine balloc ?_ _) | (refine bset ?_ (by first | omega | (simp; done) | (simp; omega)) _) | (refine bnext ?_ (by assumption)))))
  have HP : Hid (V.heap[w.heap.size]? = some (.cells #[.string root, .int .u64 weight, .int .u64 first, .int .u64 life, .int .u64 keys] 46 (0, 0))) := Lib.hid (by rw [← hV]; exact block_alloc (heap_alloc_new _ _) _)
  have HY : Hid (LyB V (w.heap.size + 1) []) := Lib.hid (by rw [← hV]; exact alloc_new_at _ (by simp))
  have cP : ∀ o, V.cell? ⟨w.heap.size, o, none⟩ = _ := block_cell HP.out
  rw [hV]
  clear hV
  have HZ : Hid ((catK []).size ≤ 0 * 25000000000) := Lib.hid (by decide)
  go_wp2_with fail
  refine (rnum_any first V hf.1 hf.2).mono ?_
  rintro e w1 ⟨rfl, hb⟩
  have HP := Lib.hid ((hb.block _ (lt_of_block HP.out)).trans HP.out)
  have HY := Lib.hid (HY.out.below hb)
  have HB := Lib.hid (bnext HB.out hb)
  clear hb
  try clear cP
  go_wp2_with fail
  refine (put_any _ _ ⟨#[102]⟩ (numR first) w1 HY.out (by decide) (by simp) (by have := HZ.out; omega) (by have := numR_len first; omega)).mono ?_
  rintro e w2 ⟨rfl, hx, hl⟩
  have HZ := putZ (k := ⟨#[102]⟩) (v := numR first) HZ rfl (by have := numR_len first; omega)
  have HP := Lib.hid (extB_block hx (by simp) HP.out)
  have HY := Lib.hid hl
  have HB := Lib.hid (HB.out.trans (extB_to hx (by omega) HB.out.size))
  have cP : ∀ o, World.cell? w2 ⟨w.heap.size, o, none⟩ = _ := block_cell HP.out
  clear hx hl
  go_wp2_with fail
  refine (rnum_any keys w2 hk.1 hk.2).mono ?_
  rintro e w3 ⟨rfl, hb⟩
  have HP := Lib.hid ((hb.block _ (lt_of_block HP.out)).trans HP.out)
  have HY := Lib.hid (HY.out.below hb)
  have HB := Lib.hid (bnext HB.out hb)
  clear hb
  try clear cP
  go_wp2_with fail
  refine (put_any _ _ ⟨#[107]⟩ (numR keys) w3 HY.out (by decide) (by simp) (by have := HZ.out; omega) (by have := numR_len keys; omega)).mono ?_
  rintro e w4 ⟨rfl, hx, hl⟩
  have HZ := putZ (k := ⟨#[107]⟩) (v := numR keys) HZ rfl (by have := numR_len keys; omega)
  have HP := Lib.hid (extB_block hx (by simp) HP.out)
  have HY := Lib.hid hl
  have HB := Lib.hid (HB.out.trans (extB_to hx (by omega) HB.out.size))
  have cP : ∀ o, World.cell? w4 ⟨w.heap.size, o, none⟩ = _ := block_cell HP.out
  clear hx hl
  go_wp2_with fail
  refine (rnum_any life w4 hl.1 hl.2).mono ?_
  rintro e w5 ⟨rfl, hb⟩
  have HP := Lib.hid ((hb.block _ (lt_of_block HP.out)).trans HP.out)
  have HY := Lib.hid (HY.out.below hb)
  have HB := Lib.hid (bnext HB.out hb)
  clear hb
  try clear cP
  go_wp2_with fail
  refine (put_any _ _ ⟨#[108]⟩ (numR life) w5 HY.out (by decide) (by simp) (by have := HZ.out; omega) (by have := numR_len life; omega)).mono ?_
  rintro e w6 ⟨rfl, hx, hl⟩
  have HZ := putZ (k := ⟨#[108]⟩) (v := numR life) HZ rfl (by have := numR_len life; omega)
  have HP := Lib.hid (extB_block hx (by simp) HP.out)
  have HY := Lib.hid hl
  have HB := Lib.hid (HB.out.trans (extB_to hx (by omega) HB.out.size))
  have cP : ∀ o, World.cell? w6 ⟨w.heap.size, o, none⟩ = _ := block_cell HP.out
  clear hx hl
  go_wp2_with fail
  refine (rbin_any root w6 HR.out).mono ?_
  rintro e w7 ⟨rfl, hb⟩
  have HP := Lib.hid ((hb.block _ (lt_of_block HP.out)).trans HP.out)
  have HY := Lib.hid (HY.out.below hb)
  have HB := Lib.hid (bnext HB.out hb)
  clear hb
  try clear cP
  go_wp2_with fail
  have hbl : (binP root).size ≤ 65545 := by have := binP_len root; have := HR.out; omega
  refine (put_any _ _ ⟨#[114]⟩ (binP root) w7 HY.out (by decide) (by simp) (by have := HZ.out; omega) (by have := hbl; omega)).mono ?_
  rintro e w8 ⟨rfl, hx, hl⟩
  have HZ := putZ (k := ⟨#[114]⟩) (v := binP root) HZ rfl (by have := hbl; omega)
  have HP := Lib.hid (extB_block hx (by simp) HP.out)
  have HY := Lib.hid hl
  have HB := Lib.hid (HB.out.trans (extB_to hx (by omega) HB.out.size))
  have cP : ∀ o, World.cell? w8 ⟨w.heap.size, o, none⟩ = _ := block_cell HP.out
  clear hx hl
  go_wp2_with fail
  refine (rnum_any weight w8 hw.1 hw.2).mono ?_
  rintro e w9 ⟨rfl, hb⟩
  have HP := Lib.hid ((hb.block _ (lt_of_block HP.out)).trans HP.out)
  have HY := Lib.hid (HY.out.below hb)
  have HB := Lib.hid (bnext HB.out hb)
  clear hb
  try clear cP
  go_wp2_with fail
  refine (put_any _ _ ⟨#[119]⟩ (numR weight) w9 HY.out (by decide) (by simp) (by have := HZ.out; omega) (by have := numR_len weight; omega)).mono ?_
  rintro e w10 ⟨rfl, hx, hl⟩
  have HZ := putZ (k := ⟨#[119]⟩) (v := numR weight) HZ rfl (by have := numR_len weight; omega)
  have HP := Lib.hid (extB_block hx (by simp) HP.out)
  have HY := Lib.hid hl
  have HB := Lib.hid (HB.out.trans (extB_to hx (by omega) HB.out.size))
  have cP : ∀ o, World.cell? w10 ⟨w.heap.size, o, none⟩ = _ := block_cell HP.out
  clear hx hl
  go_wp2_with fail
  refine (rwhole_any _ _ w10 HY.out (by simp) (by have := HZ.out; omega)).mono ?_
  rintro e w11 ⟨rfl, hb⟩
  have HB := Lib.hid (bnext HB.out hb)
  clear hb cP
  go_wp2
  go_ret
  exact ⟨rfl, HB.out⟩
end Go.Proofs.YtihiaopilnjonaaGreatDoor
