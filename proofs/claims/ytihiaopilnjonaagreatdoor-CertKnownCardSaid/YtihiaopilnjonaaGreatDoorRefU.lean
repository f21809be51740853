/- The reference of layer 7 lays what the program lays. -/
import Derived.Test.YtihiaopilnjonaaGreatDoorRefT
namespace Go.Proofs.YtihiaopilnjonaaGreatDoor
open Go.RowKit
set_option linter.unusedSimpArgs false
set_option linter.unusedVariables false

/-- Fields and pairs that lay the same. -/
def FPs : List FSpec → BPs → Prop
  | [], [] => True
  | f :: l, p :: r => (f.key = p.1 ∧ (f.empty = true ↔ p.2.size = 0) ∧ (f.empty = false → f.bytes = p.2)) ∧ FPs l r
  | _, _ => False
theorem fps_len : ∀ (l : List FSpec) (r : BPs), FPs l r → l.length = r.length ∧ ∀ i (h : i < l.length) (h' : i < r.length), l[i].key = r[i].1 ∧ (l[i].empty = true ↔ r[i].2.size = 0) ∧ (l[i].empty = false → l[i].bytes = r[i].2)
  | [], [], _ => ⟨rfl, fun i h => absurd h (by simp)⟩
  | [], _ :: _, h => h.elim
  | _ :: _, [], h => h.elim
  | f :: l, p :: r, h => by
    obtain ⟨h1, h2⟩ := h
    obtain ⟨h3, h4⟩ := fps_len l r h2
    refine ⟨by simp [h3], fun i hi hi' => ?_⟩
    cases i with
    | zero => exact h1
    | succ j => exact h4 j (by simpa using hi) (by simpa using hi')
theorem fps_lay {l : List FSpec} {r : BPs} (h : FPs l r) : layP l = rlayP r := layP_eq (fps_len l r h).1 (fps_len l r h).2
theorem fps_kept {l : List FSpec} {r : BPs} (h : FPs l r) : (keptF l).length = (rkept r).length := (lay_same l r (fps_len l r h).1 (fps_len l r h).2).1
theorem head_pos (sort : Nat) (n : Int) (h : sort < 5) (h1 : sort ≠ 0 → n < 65536) : 0 < (headP sort n).length := by
  have hs : sort = 0 ∨ sort = 1 ∨ sort = 2 ∨ sort = 3 ∨ sort = 4 := by omega
  rcases hs with rfl | rfl | rfl | rfl | rfl
  · rw [headP0]; repeat (first | split | simp)
  · rw [headP1 (h1 (by decide))]; repeat (first | split | simp)
  · rw [headP2 (h1 (by decide))]; repeat (first | split | simp)
  · rw [headP3 (h1 (by decide))]; repeat (first | split | simp)
  · rw [headP4 (h1 (by decide))]; repeat (first | split | simp)
theorem laid_pos (sort : Nat) (n : Int) (t : ByteArray) (h : sort < 5) (h1 : sort ≠ 0 → n < 65536) : 0 < (laidP sort n t).size := by
  unfold laidP
  rw [ByteArray.size_append, baL_size]
  have := head_pos sort n h h1
  omega
theorem rlay_small (ps : BPs) (hn : ps.length ≤ 1000) (hk : ∀ p ∈ ps, p.1.size < 65536) : rlayP ps = ⟨#[128]⟩ ↔ (rkept ps).length = 0 := by
  constructor
  · intro h
    have hz : (rlayP ps).size = 1 := by rw [h]; rfl
    cases hr : rkept ps with
    | nil => rfl
    | cons p r =>
      exfalso
      unfold rlayP at hz
      rw [hr, List.map_cons, catB] at hz
      rw [ByteArray.size_append, ByteArray.size_append, ByteArray.size_append] at hz
      have h1 : 0 < (mapP (p :: r).length).size := laid_pos 4 _ _ (by decide) (fun _ => by
        have : (rkept ps).length ≤ ps.length := List.length_filter_le _ _
        rw [hr] at this; omega)
      have hp : p ∈ ps := (List.mem_filter.1 (show p ∈ rkept ps by rw [hr]; exact List.mem_cons_self)).1
      have h2 : 0 < (strP p.1).size := laid_pos 2 _ _ (by decide) (fun _ => by have := hk p hp; omega)
      omega
  · intro h
    have hr : rkept ps = [] := List.eq_nil_of_length_eq_zero h
    unfold rlayP
    rw [hr]
    rfl
theorem all_empty (l : List FSpec) : (l.all fun f => f.empty) = true ↔ (keptF l).length = 0 := by
  unfold keptF
  rw [List.length_eq_zero_iff, List.filter_eq_nil_iff, List.all_eq_true]
  constructor
  · intro h f hf; rw [h f hf]; decide
  · intro h f hf
    have := h f hf
    cases he : f.empty with
    | true => rfl
    | false => rw [he] at this; exact absurd rfl this
/-- A map as a field. -/
theorem obj_ok {l : List FSpec} {r : BPs} (h : FPs l r) (hn : r.length ≤ 1000) (hk : ∀ p ∈ r, p.1.size < 65536) :
    ((l.all fun f => f.empty) = true ↔ (smallR (rlayP r)).size = 0) ∧ ((l.all fun f => f.empty) = false → layP l = smallR (rlayP r)) := by
  have h1 := all_empty l
  have h2 := fps_kept h
  have h3 := rlay_small r hn hk
  have hp : 0 < (rlayP r).size := by
    unfold rlayP
    rw [ByteArray.size_append]
    have : 0 < (mapP (rkept r).length).size := laid_pos 4 _ _ (by decide) (fun _ => by
      have : (rkept r).length ≤ r.length := List.length_filter_le _ _
      omega)
    omega
  by_cases hc : rlayP r = ⟨#[128]⟩
  · have e : smallR (rlayP r) = ⟨#[]⟩ := by unfold smallR; rw [if_pos hc]
    have ha : (l.all fun f => f.empty) = true := h1.2 (by rw [h2]; exact h3.1 hc)
    rw [ha, e]
    exact ⟨⟨fun _ => rfl, fun _ => rfl⟩, fun h => absurd h (by decide)⟩
  · have e : smallR (rlayP r) = rlayP r := by unfold smallR; rw [if_neg hc]
    have ha : (l.all fun f => f.empty) = false := by
      cases hx : (l.all fun f => f.empty) with
      | false => rfl
      | true => exact absurd (h3.2 (by rw [← h2]; exact h1.1 hx)) hc
    rw [ha, e]
    exact ⟨⟨fun h => absurd h (by decide), fun h => by omega⟩, fun _ => fps_lay h⟩
theorem num_ok (key : ByteArray) (n : Int) : ((n == 0) = true ↔ (numR n).size = 0) ∧ ((n == 0) = false → numP n = numR n) := by
  unfold numR
  by_cases h : n = 0
  · rw [if_pos h, h]
    exact ⟨⟨fun _ => rfl, fun _ => rfl⟩, fun h => absurd h (by decide)⟩
  · rw [if_neg h]
    have e : (n == 0) = false := by simp [h]
    rw [e]
    have h1 : 0 < (numP n).size := laid_pos 0 n ByteArray.empty (by decide) (fun h => absurd rfl h)
    exact ⟨⟨fun h => absurd h (by decide), fun h => by omega⟩, fun _ => rfl⟩
theorem dgs_ok (l : List ByteArray) (hn : len l < 65536) : (decide (len l = 0) = true ↔ (dgsR l).size = 0) ∧ (decide (len l = 0) = false → dgsP l = dgsR l) := by
  unfold dgsR
  by_cases h : len l = 0
  · rw [if_pos h, decide_eq_true h]
    exact ⟨⟨fun _ => rfl, fun _ => rfl⟩, fun h => absurd h (by decide)⟩
  · rw [if_neg h, decide_eq_false h]
    have h1 : 0 < (dgsP l).size := by
      unfold dgsP
      rw [ByteArray.size_append]
      have : 0 < (listP (len l)).size := laid_pos 3 _ ByteArray.empty (by decide) (fun _ => by omega)
      omega
    exact ⟨⟨fun h => absurd h (by decide), fun h => by omega⟩, fun _ => rfl⟩
theorem bin_ok (s : ByteArray) (hs : s.size < 65536) : (false = true ↔ (binP s).size = 0) ∧ (false = false → binP s = binP s) := by
  have : 0 < (binP s).size := laid_pos 1 _ _ (by decide) (fun _ => by omega)
  exact ⟨⟨fun h => absurd h (by decide), fun h => by omega⟩, fun _ => rfl⟩
theorem part_same (root : ByteArray) (weight first life keys : Int) (hr : root.size < 65536) : layP (partSpecs root weight first life keys) = rlayP (partPs root weight first life keys) :=
  fps_lay ⟨⟨rfl, num_ok ⟨#[]⟩ first⟩, ⟨rfl, num_ok ⟨#[]⟩ keys⟩, ⟨rfl, num_ok ⟨#[]⟩ life⟩, ⟨rfl, bin_ok root hr⟩, ⟨rfl, num_ok ⟨#[]⟩ weight⟩, trivial⟩
theorem sig_same (idx : Int) (wots path : List ByteArray) (hw : len wots < 65536) (hp : len path < 65536) : FPs (sigSpecs idx wots path) (sigPs idx wots path) :=
  ⟨⟨rfl, num_ok ⟨#[]⟩ idx⟩, ⟨rfl, dgs_ok path hp⟩, ⟨rfl, dgs_ok wots hw⟩, trivial⟩
theorem one_ok (q : Bool) : ((!q) = true ↔ (if q then numP 1 else (⟨#[]⟩ : ByteArray)).size = 0) ∧ ((!q) = false → numP 1 = if q then numP 1 else (⟨#[]⟩ : ByteArray)) := by
  cases q with
  | true => exact ⟨⟨fun h => absurd h (by decide), fun h => absurd h (by decide)⟩, fun _ => rfl⟩
  | false => exact ⟨⟨fun _ => rfl, fun _ => rfl⟩, fun h => absurd h (by decide)⟩
theorem slot_same (L : Int) (q : Bool) (idx : Int) (wots path : List ByteArray) (hw : len wots < 65536) (hp : len path < 65536) : layP (slotSpecs L q idx wots path) = rlayP (slotPs L q idx wots path) :=
  fps_lay ⟨⟨rfl, obj_ok (sig_same idx wots path hw hp) (by simp [sigPs]) (fun p hp => by
    simp only [sigPs, List.mem_cons, List.not_mem_nil, or_false] at hp
    rcases hp with rfl | rfl | rfl <;> (show (1 : Nat) < 65536; decide))⟩, ⟨rfl, num_ok ⟨#[]⟩ L⟩, ⟨rfl, one_ok q⟩, trivial⟩
theorem may_slot (L : Int) (q : Bool) (idx : Int) (wots path : List ByteArray) : allMay (slotSpecs L q idx wots path) = (mayB path 16 && mayB wots 67) := by
  show (allMay (sigSpecs idx wots path) && (true && (true && true))) = _
  show ((true && (mayB path 16 && (mayB wots 67 && true))) && (true && (true && true))) = _
  cases mayB path 16 <;> cases mayB wots 67 <;> rfl
theorem may_part (root : ByteArray) (weight first life keys : Int) : allMay (partSpecs root weight first life keys) = decide (root.size = 32) := by
  show (true && (true && (true && (decide (root.size = 32) && (true && true))))) = _
  cases decide (root.size = 32) <;> rfl
theorem short_of {l : List ByteArray} {n : Nat} (h : mayB l n = true) (hn : n ≤ 60000) : Short l := ⟨by have := (size32 h).1; omega, fun i hi => by rw [(size32 h).2 i hi]; decide⟩
set_option maxRecDepth 100000 in
theorem rpart_any (root : ByteArray) (weight first life keys : Int) (w : World) (hr : root.size ≤ 9223372036854775807) (hw : U64i weight) (hf : U64i first) (hl : U64i life) (hk : U64i keys) :
    Calls Tryz.prog 27 #[.agg #[.string root, .int .u64 weight, .int .u64 first, .int .u64 life, .int .u64 keys]] w (LaidIs (partSpecs root weight first life keys) w) := by
  have HM := Lib.hid (may_part root weight first life keys)
  go_enter Tryz.func27, Tryz.ntmps27
  go_wp2_with fail
  obtain ⟨V, hV⟩ : ∃ V, w.alloc (.cells #[.string root, .int .u64 weight, .int .u64 first, .int .u64 life, .int .u64 keys] 46) = V := ⟨_, rfl⟩
  have HB : Hid (Below w.heap.size w V) := Lib.hid (by rw [← hV]; (repeat (first | exact Below.refl _ _ | assumption | (refine bdrew ?_) | (refine bdrewN ?_ _) | (refine balloc ?_ _) | (refine bset ?_ (by first | omega | (simp; done) | (simp; omega)) _) | (refine bnext ?_ (by assumption)))))
  have HP : Hid (V.heap[w.heap.size]? = some (.cells #[.string root, .int .u64 weight, .int .u64 first, .int .u64 life, .int .u64 keys] 46 (0, 0))) := Lib.hid (by rw [← hV]; exact heap_alloc_new _ _)
  try rw [hV]
  clear hV
  refine (rdigest_any root V hr).mono ?_
  rintro e w1 ⟨rfl, hb⟩
  have HP := Lib.hid ((hb.block _ (lt_of_block HP.out)).trans HP.out)
  have HB := Lib.hid (bnext HB.out hb)
  have cP : ∀ o, w1.cell? ⟨w.heap.size, o, none⟩ = _ := block_cell HP.out
  clear hb
  by_cases h32 : root.size = 32
  · have HM : Hid (allMay (partSpecs root weight first life keys) = true) := Lib.hid (by rw [HM.out, decide_eq_true h32])
    have HS := Lib.hid (part_same root weight first life keys (by rw [h32]; decide))
    have HR : Hid (root.size < 65536) := Lib.hid (by rw [h32]; decide)
    rw [decide_eq_true h32]
    clear h32 hr
    go_wp2_with fail
    refine (rlaypart_any root weight first life keys w1 HR.out hw hf hl hk).mono ?_
    rintro e w2 ⟨rfl, hb⟩
    have HB := Lib.hid (bnext HB.out hb)
    clear hb cP
    go_wp2
    go_ret2
    exact ⟨by rw [HM.out, HS.out]; rfl, HB.out⟩
  · have HM : Hid (allMay (partSpecs root weight first life keys) = false) := Lib.hid (by rw [HM.out, decide_eq_false h32])
    rw [decide_eq_false h32]
    clear h32 hr
    go_wp2
    go_ret2
    exact ⟨by rw [HM.out]; rfl, HB.out⟩
set_option maxRecDepth 100000 in
theorem rslot_any (B : Nat) (L : Int) (q : Bool) (idx : Int) (a1 a2 : Option Addr) (k1 k2 : Nat) (wots path : List ByteArray) (w : World) (hi : U64i idx) (hL : U64i L) (hs1 : Strs B w a1 wots) (hs2 : Strs B w a2 path) (hw : len wots ≤ 100000) (hp : len path ≤ 100000) (hz1 : ∀ i, i < len wots → (sth wots i).size ≤ 9223372036854775807) (hz2 : ∀ i, i < len path → (sth path i).size ≤ 9223372036854775807) :
    Calls Tryz.prog 34 #[.agg #[.int .u64 L, .bool q, .int .u64 idx, .slice a1 (len wots) k1, .slice a2 (len path) k2]] w (LaidIs (slotSpecs L q idx wots path) w) := by
  have HM := Lib.hid (may_slot L q idx wots path)
  have HS1 := Lib.hid hs1
  have HS2 := Lib.hid hs2
  have HZ1 := Lib.hid hz1
  have HZ2 := Lib.hid hz2
  clear hs1 hs2 hz1 hz2
  go_enter Tryz.func34, Tryz.ntmps34
  go_wp2_with fail
  obtain ⟨V, hV⟩ : ∃ V, w.alloc (.cells #[.int .u64 L, .bool q, .int .u64 idx, .slice a1 (len wots) k1, .slice a2 (len path) k2] 44) = V := ⟨_, rfl⟩
  have HB : Hid (Below w.heap.size w V) := Lib.hid (by rw [← hV]; (repeat (first | exact Below.refl _ _ | assumption | (refine bdrew ?_) | (refine bdrewN ?_ _) | (refine balloc ?_ _) | (refine bset ?_ (by first | omega | (simp; done) | (simp; omega)) _) | (refine bnext ?_ (by assumption)))))
  have HP : Hid (V.heap[w.heap.size]? = some (.cells #[.int .u64 L, .bool q, .int .u64 idx, .slice a1 (len wots) k1, .slice a2 (len path) k2] 44 (0, 0))) := Lib.hid (by rw [← hV]; exact heap_alloc_new _ _)
  try rw [hV]
  clear hV
  refine (rmaysig_any B idx a1 a2 k1 k2 wots path V (HS1.out.below HB.out) (HS2.out.below HB.out) hw hp HZ1.out HZ2.out).mono ?_
  rintro e w1 ⟨rfl, hb⟩
  have HP := Lib.hid ((hb.block _ (lt_of_block HP.out)).trans HP.out)
  have HB := Lib.hid (bnext HB.out hb)
  have cP : ∀ o, w1.cell? ⟨w.heap.size, o, none⟩ = _ := block_cell HP.out
  clear hb
  cases hm : (mayB path 16 && mayB wots 67) with
  | true =>
    have HMT : Hid (allMay (slotSpecs L q idx wots path) = true) := Lib.hid (by rw [HM.out, hm])
    have h1 := (Bool.and_eq_true _ _ ▸ hm : mayB path 16 = true ∧ mayB wots 67 = true)
    have hsp := short_of h1.1 (by decide)
    have hsw := short_of h1.2 (by decide)
    have HS := Lib.hid (slot_same L q idx wots path (by have := hsw.1; omega) (by have := hsp.1; omega))
    have HSP := Lib.hid hsp
    have HSW := Lib.hid hsw
    clear hm h1 hsp hsw
    go_wp2_with fail
    refine (rlayslot_any B L q idx a1 a2 k1 k2 wots path w1 hi hL (HS1.out.below HB.out) (HS2.out.below HB.out) HSW.out HSP.out).mono ?_
    rintro e w2 ⟨rfl, hb⟩
    have HB := Lib.hid (bnext HB.out hb)
    clear hb cP
    go_wp2
    go_ret2
    exact ⟨by rw [HMT.out, HS.out]; rfl, HB.out⟩
  | false =>
    have HMF : Hid (allMay (slotSpecs L q idx wots path) = false) := Lib.hid (by rw [HM.out, hm])
    clear hm
    go_wp2
    go_ret2
    exact ⟨by rw [HMF.out]; rfl, HB.out⟩
end Go.Proofs.YtihiaopilnjonaaGreatDoor
