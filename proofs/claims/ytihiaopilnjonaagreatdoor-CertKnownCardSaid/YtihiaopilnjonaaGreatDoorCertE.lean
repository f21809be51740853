/- Contracts: set, inside. -/
import Derived.Test.YtihiaopilnjonaaGreatDoorCertD
import Derived.Test.YtihiaopilnjonaaGreatDoorMap
import Derived.Deep.LoopGhost
namespace Go.Proofs.YtihiaopilnjonaaGreatDoor
open Go.RowKit Go.ChangeMaps

/-- The set of some numbers, as a map. -/
def mapOf (l : List Int) : List (Int × Value) := l.foldl (fun m k => mPut m k (.bool true)) []

theorem mapOf_snoc (l : List Int) (k : Int) : mapOf (l ++ [k]) = mPut (mapOf l) k (.bool true) := by simp [mapOf, List.foldl_append]

theorem mGet_cons (p : Int × Value) (l : List (Int × Value)) (k : Int) : mGet (p :: l) k = if p.1 = k then some p.2 else mGet l k := by
  unfold mGet
  rw [List.find?_cons]
  by_cases h : p.1 = k
  · simp [h]
  · have h' : (p.1 == k) = false := by simpa using h
    simp [h, h']

theorem mGet_mPut (l : List (Int × Value)) (k j : Int) (v : Value) : mGet (mPut l k v) j = if k = j then some v else mGet l j := by
  induction l with
  | nil => unfold mPut; rw [mGet_cons]
  | cons p r ih =>
    unfold mPut
    by_cases h : p.1 = k
    · rw [if_pos h, mGet_cons, mGet_cons]
      by_cases h2 : k = j
      · simp [h2]
      · simp [h2, h]
    · rw [if_neg h, mGet_cons, mGet_cons, ih]
      by_cases h2 : p.1 = j
      · have : ¬ k = j := fun e => h (h2.trans e.symm)
        simp [h2, this]
      · simp [h2]

theorem mGet_mapOf (l : List Int) (k : Int) : mGet (mapOf l) k = if k ∈ l then some (.bool true) else none := by
  have gen : ∀ (l : List Int) (m : List (Int × Value)), mGet (l.foldl (fun m k => mPut m k (.bool true)) m) k = if k ∈ l then some (.bool true) else mGet m k := by
    intro l
    induction l with
    | nil => intro m; simp
    | cons x r ih =>
      intro m
      rw [List.foldl_cons, ih, mGet_mPut]
      by_cases h1 : k ∈ r
      · simp [h1]
      · by_cases h2 : x = k
        · simp [h2]
        · have : ¬ k = x := fun e => h2 e.symm
          simp [h1, h2, this]
  exact gen l []

theorem mPut_mem (l : List (Int × Value)) (k : Int) (v : Value) (p : Int × Value) (h : p ∈ mPut l k v) : p ∈ l ∨ p = (k, v) := by
  induction l with
  | nil => simpa [mPut] using h
  | cons x r ih =>
    unfold mPut at h
    split at h
    · rcases List.mem_cons.1 h with rfl | h
      · exact .inr rfl
      · exact .inl (List.mem_cons_of_mem _ h)
    · rcases List.mem_cons.1 h with rfl | h
      · exact .inl (List.mem_cons_self ..)
      · rcases ih h with h | h
        · exact .inl (List.mem_cons_of_mem _ h)
        · exact .inr h

theorem mapOf_mem (l : List Int) (p : Int × Value) (h : p ∈ mapOf l) : p.1 ∈ l ∧ p.2 = .bool true := by
  have gen : ∀ (l : List Int) (m : List (Int × Value)) (S : List Int), (∀ p ∈ m, p.1 ∈ S ∧ p.2 = .bool true) → ∀ p ∈ l.foldl (fun m k => mPut m k (.bool true)) m, p.1 ∈ S ++ l ∧ p.2 = .bool true := by
    intro l
    induction l with
    | nil => intro m S hm p hp; simpa using hm p hp
    | cons x r ih =>
      intro m S hm p hp
      have := ih (mPut m x (.bool true)) (S ++ [x]) (fun p hp => by
        rcases mPut_mem m x _ p hp with h | rfl
        · have := hm p h; exact ⟨by simp [this.1], this.2⟩
        · simp) p hp
      simpa using this
  simpa using gen l [] [] (by simp) p h

theorem mapOf_key (l : List Int) (k : Int) (h : k ∈ l) : ∃ i, ∃ h : i < (mapOf l).length, (mapOf l)[i].1 = k := by
  have h1 := mGet_mapOf l k
  rw [if_pos h] at h1
  unfold mGet at h1
  cases h2 : (mapOf l).find? (fun p => p.1 == k) with
  | none => rw [h2] at h1; cases h1
  | some p =>
    have h3 := List.mem_of_find?_eq_some h2
    have h4 := List.find?_some h2
    obtain ⟨i, hi, rfl⟩ := List.getElem_of_mem h3
    exact ⟨i, hi, by simpa using h4⟩

theorem setBlock_own {w wr : World} {b : Nat} {o : Obj} (h : Below w.heap.size w wr) (hb : w.heap.size ≤ b) : Below w.heap.size w (setBlock wr b o) :=
  h.trans ⟨rfl, rfl, rfl, by simp [setBlock], fun k hk => by show (wr.heap.setIfInBounds b o)[k]? = _; rw [Array.getElem?_setIfInBounds_ne (by omega)]⟩
theorem setBlock_at {w : World} {b : Nat} {o o' : Obj} (h : w.heap[b]? = some o') : (setBlock w b o).heap[b]? = some o := by
  have := lt_of_block h
  show (w.heap.setIfInBounds b o)[b]? = _
  simp [this]

set_option maxHeartbeats 400000 in
theorem set_any (a : Option Addr) (cap : Nat) (l : List Int) (w : World) (hlen : len l ≤ 9223372036854775807) (hc : U64s w a l) :
    Calls Tryz.prog 112 #[.slice a (len l) cap] w fun e w' => e = .returned (.map (some w.heap.size)) ∧ w'.heap[w.heap.size]? = some (mObj .u64 (mapOf l)) ∧ Below w.heap.size w w' := by
  have HC := Lib.hid hc
  clear hc
  have hmm := @run_makeMap Tryz.prog
  go_enter Tryz.func112, Tryz.ntmps112
  go_wp2
  go_loopw [9] (fun i wr => ∃ m : Nat, m ≤ len l ∧ i = .int .i64 m ∧ Below w.heap.size w wr ∧ Hid (wr.heap[w.heap.size]? = some (mObj .u64 (mapOf (l.take m))))) (fun i _ => len l - (intOf i).toNat)
  case atStart => exact ⟨0, Nat.zero_le _, rfl, (by (repeat (first | exact Below.refl _ _ | assumption | (refine bdrew ?_) | (refine bdrewN ?_ _) | (refine balloc ?_ _) | (refine bset ?_ (by first | omega | (simp; done) | (simp; omega)) _) | (refine bnext ?_ (by assumption))))), heap_alloc_new w _⟩
  case round =>
    obtain ⟨m, hm, rfl, hd, hk⟩ := hrel
    by_cases hlt : m < len l
    · obtain ⟨b, off, rfl, hcell⟩ := HC.out.below hd m hlt
      go_wp2_with (at_mapUpdate; refine wpList_mapUpdate_m rfl _ _ _ 182 23 4 .u64 rfl Tryz.underlying182 Tryz.underlying23 w.heap.size _ rfl hk.out _ _ rfl rfl ?_)
      go_roundw
      case rel => exact ⟨m + 1, by omega, by go_num, setBlock_own hd (Nat.le_refl _), (by
        have e : l.take (m + 1) = l.take m ++ [nth l m] := by rw [List.take_succ_eq_append_getElem hlt, nth_eq l m hlt]
        rw [e, mapOf_snoc]
        exact setBlock_at hk.out)⟩
      case measure => simp [intOf]; omega
    · go_wp2
      go_ret
      obtain rfl : m = len l := by omega
      have h := hk.out
      rw [take_len] at h
      exact ⟨rfl, h, hd⟩

/-- All of the one are of the other. -/
def subB (a b : List Int) : Bool := decide (∀ x ∈ a, x ∈ b)

set_option maxHeartbeats 400000 in
theorem inside_any (ra rb : Nat) (la lb : List Int) (w : World) (ha : w.heap[ra]? = some (mObj .u64 (mapOf la))) (hb : w.heap[rb]? = some (mObj .u64 (mapOf lb))) :
    Calls Tryz.prog 113 #[.map (some ra), .map (some rb)] w fun e w' => e = .returned (.bool (subB la lb)) ∧ Below w.heap.size w w' := by
  have HA := Lib.hid ha
  have HB := Lib.hid hb
  have LA := lt_of_block ha
  have LB := lt_of_block hb
  clear ha hb
  go_enter Tryz.func113, Tryz.ntmps113
  go_wp2_with (at_range; refine wpList_range_m rfl _ 182 23 4 .u64 rfl Tryz.underlying182 ra _ rfl HA.out ?_; intro hrg)
  go_frame
  have HR := Lib.hid hrg
  clear hrg
  go_loopw [5] (fun _ wr => ∃ seen, Hid (Ranging wr ra w.heap.size .u64 (mapOf la) seen) ∧ Below w.heap.size w wr ∧ Hid (∀ i, i ∈ seen → ∀ h : i < (mapOf la).length, (mapOf la)[i].1 ∈ lb)) (fun _ wr => rLeft wr w.heap.size (mapOf la).length)
  case atStart => exact ⟨#[], HR.out, (by (repeat (first | exact Below.refl _ _ | assumption | (refine bdrew ?_) | (refine bdrewN ?_ _) | (refine balloc ?_ _) | (refine bset ?_ (by first | omega | (simp; done) | (simp; omega)) _) | (refine bnext ?_ (by assumption))))), fun i hi => by simp at hi⟩
  case round =>
    obtain ⟨seen, hr, hd, hk⟩ := hrel
    go_wp2_with (at_next; refine wpList_next_m rfl _ rfl ra w.heap.size .u64 _ seen rfl hr.out ?_ ?_)
    · intro hall
      have HALL := Lib.hid hall
      clear hall
      go_wp2
      go_ret
      refine ⟨ret_bool (Eq.symm ?_), hd⟩
      unfold subB
      simp only [decide_eq_true_eq]
      intro x hx
      obtain ⟨i, hi, e⟩ := mapOf_key la x hx
      rw [← e]
      exact hk.out i (HALL.out i hi) hi
    · intro i hi w1 hns hr1 hlt hb1 hsz hoth hen
      have HR1 := Lib.hid hr1
      have HK1 : Hid (∀ j, j ∈ seen → ∀ h : j < (mapOf la).length, (mapOf la)[j].1 ∈ lb) := hk
      have HB1 := hb1 w.heap.size (Nat.le_refl _)
      have HBB : Hid (w1.heap[rb]? = some (mObj .u64 (mapOf lb))) := (by
        show w1.heap[rb]? = _
        rw [(hd.trans HB1).block rb LB]; exact HB.out)
      have hmem := (mapOf_mem la _ (List.getElem_mem hi)).1
      obtain ⟨k, hkk⟩ : ∃ k, (mapOf la)[i].1 = k := ⟨_, rfl⟩
      obtain ⟨v, hvv⟩ : ∃ v, (mapOf la)[i].2 = v := ⟨_, rfl⟩
      rw [hkk] at hmem hen ⊢
      rw [hvv] at hen ⊢
      have HKK := Lib.hid hkk
      have HMEM := Lib.hid hmem
      have HLT := Lib.hid hlt
      clear hkk hvv hmem hr1 hns hb1 hoth hlt hsz hr hk
      have hg := mGet_mapOf lb k
      by_cases hin : k ∈ lb
      · have hg2 : (mGet (mapOf lb) k).getD (.bool false) = .bool true := by rw [hg, if_pos hin]; rfl
        have HG := Lib.hid hg2
        have HIN := Lib.hid hin
        clear hg hg2 hin
        go_wp2_with (at_lookup; refine wpList_lookup_m rfl _ _ 182 23 4 .u64 rfl Tryz.underlying182 Tryz.underlying23 (.bool false) (Tryz.zeroValue4 _) rb _ rfl HBB.out _ rfl ?_; rw [HG.out])
        go_roundw
        case rel => exact ⟨seen.push i, HR1.out, hd.trans HB1, fun j hj hjl => by
          rcases Array.mem_push.1 hj with hj | rfl
          · exact HK1.out j hj hjl
          · rw [HKK.out]; exact HIN.out⟩
        case measure => exact HLT.out
      · have hg2 : (mGet (mapOf lb) k).getD (.bool false) = .bool false := by rw [hg, if_neg hin]; rfl
        have HG := Lib.hid hg2
        have HIN := Lib.hid hin
        clear hg hg2 hin
        go_wp2_with (at_lookup; refine wpList_lookup_m rfl _ _ 182 23 4 .u64 rfl Tryz.underlying182 Tryz.underlying23 (.bool false) (Tryz.zeroValue4 _) rb _ rfl HBB.out _ rfl ?_; rw [HG.out])
        go_ret
        refine ⟨ret_bool (Eq.symm ?_), hd.trans HB1⟩
        unfold subB
        simp only [decide_eq_false_iff_not]
        intro H
        exact HIN.out (H k HMEM.out)
end Go.Proofs.YtihiaopilnjonaaGreatDoor
