/- The keys of a set of numbers, handed over one by one. -/
import Derived.Test.YtbeppkokkbgddaaRf
import Derived.Test.YtbeppkokkbgddaaOwn
import Derived.OwnWalkIn
import Derived.TacticsInMore
import Derived.LoopNIn
import Derived.LoopIn
import Derived.Sort.LoopGhostIn
import Derived.Sort.CutIn
import Derived.Shelf.Abstract
namespace Go.Proofs.Ytbeppkokkbgddaa
open Go.RowKit Go.ChangeMaps
set_option linter.unusedSimpArgs false
set_option linter.unusedVariables false
attribute [local go_sem] Oper.semAt_some

/-- A set as a map. -/
def kv (ks : List Int) : List (Int × Value) := ks.map fun k => (k, .bool true)
/-- A number is put into a set. -/
def insK (ks : List Int) (k : Int) : List Int := if k ∈ ks then ks else ks ++ [k]

theorem kv_len (ks : List Int) : (kv ks).length = ks.length := by simp [kv]
theorem kv_get (ks : List Int) (i : Nat) (h : i < (kv ks).length) : (kv ks)[i].1 = ks[i]'(by simpa [kv] using h) ∧ (kv ks)[i].2 = .bool true := by simp [kv]
theorem kv_put (ks : List Int) (k : Int) : mPut (kv ks) k (.bool true) = kv (insK ks k) := by
  induction ks with
  | nil => rfl
  | cons x r ih =>
    have e : kv (x :: r) = (x, .bool true) :: kv r := rfl
    rw [e, mPut]
    by_cases h : x = k
    · subst h; rw [if_pos rfl]; unfold insK; rw [if_pos (List.mem_cons_self ..)]; rfl
    · rw [if_neg h, ih]
      have h' : ¬ k = x := fun e => h e.symm
      by_cases h2 : k ∈ r
      · unfold insK; rw [if_pos h2, if_pos (List.mem_cons_of_mem _ h2)]; rfl
      · unfold insK; rw [if_neg h2, if_neg (by simp [h', h2])]; simp [kv]
theorem kv_look (ks : List Int) (k : Int) : (mGet (kv ks) k).getD (.bool false) = .bool (decide (k ∈ ks)) := by
  induction ks with
  | nil => simp [kv, mGet]
  | cons x r ih =>
    have e : kv (x :: r) = (x, .bool true) :: kv r := rfl
    rw [e]
    unfold mGet
    rw [List.find?_cons]
    by_cases h : x = k
    · subst h; simp
    · have h1 : (x == k) = false := by simpa using h
      have h' : ¬ k = x := fun e => h e.symm
      simp only [h1]
      unfold mGet at ih
      rw [ih]
      simp [h']
theorem insK_mem (ks : List Int) (k j : Int) : j ∈ insK ks k ↔ j ∈ ks ∨ j = k := by
  unfold insK
  split
  · constructor
    · exact .inl
    · rintro (h | rfl)
      · exact h
      · assumption
  · simp
theorem insK_nodup {ks : List Int} (h : ks.Nodup) (k : Int) : (insK ks k).Nodup := by
  unfold insK
  split
  · exact h
  · rename_i hk
    rw [List.nodup_append]
    exact ⟨h, by simp, fun a ha b hb e => by rw [List.mem_singleton] at hb; subst hb; subst e; exact hk ha⟩
theorem insK_len (ks : List Int) (k : Int) : (insK ks k).length ≤ ks.length + 1 := by unfold insK; split <;> simp
theorem nodup_len : ∀ (xs ys : List Int), xs.Nodup → (∀ x ∈ xs, x ∈ ys) → xs.length ≤ ys.length
  | [], _, _, _ => Nat.zero_le _
  | x :: xs, ys, hn, hs => by
    have hx := hs x (List.mem_cons_self ..)
    rw [List.nodup_cons] at hn
    have := nodup_len xs (ys.erase x) hn.2 (fun y hy => by
      have hne : y ≠ x := fun e => hn.1 (e ▸ hy)
      exact (List.mem_erase_of_ne hne).2 (hs y (List.mem_cons_of_mem _ hy)))
    rw [List.length_erase_of_mem hx] at this
    have h1 : 0 < ys.length := List.length_pos_of_mem hx
    simp only [List.length_cons]; omega

theorem nodup_inj {l : List Int} (h : l.Nodup) {i j : Nat} {hi : i < l.length} {hj : j < l.length} (e : l[i] = l[j]) : i = j := by
  have hp := List.pairwise_iff_getElem.1 h
  rcases Nat.lt_trichotomy i j with hl | hl | hl
  · exact absurd e (hp i j hi hj hl)
  · exact hl
  · exact absurd e.symm (hp j i hj hi hl)

/-- Which keys have come. -/
def Come (ks : List Int) (nb : Nat) (seen : Array Nat) (pre : List Int) : Prop :=
  pre.Nodup ∧ ∀ k, k ∈ pre ↔ ∃ i, ∃ h : i < ks.length, nb + i ∈ seen ∧ ks[i] = k
theorem Come.start (ks : List Int) (nb : Nat) : Come ks nb #[] [] := ⟨List.nodup_nil, fun k => by simp⟩
theorem Come.next {ks : List Int} {nb : Nat} {seen : Array Nat} {pre : List Int} (h : Come ks nb seen pre) (hn : ks.Nodup) {i : Nat} (hi : i < ks.length) (hs : ¬ nb + i ∈ seen) : ks[i] ∉ pre ∧ Come ks nb (seen.push (nb + i)) (pre ++ [ks[i]]) := by
  have h1 : ks[i] ∉ pre := fun hm => by
    obtain ⟨j, hj, hsj, e⟩ := (h.2 _).1 hm
    have := nodup_inj hn e
    subst this; exact hs hsj
  refine ⟨h1, ?_, fun k => ?_⟩
  · rw [List.nodup_append]
    exact ⟨h.1, by simp, fun a ha b hb e => by rw [List.mem_singleton] at hb; subst hb; subst e; exact h1 ha⟩
  · rw [List.mem_append, List.mem_singleton, h.2]
    constructor
    · rintro (⟨j, hj, hsj, e⟩ | rfl)
      · exact ⟨j, hj, Array.mem_push.2 (.inl hsj), e⟩
      · exact ⟨i, hi, Array.mem_push.2 (.inr rfl), rfl⟩
    · rintro ⟨j, hj, hsj, e⟩
      rcases Array.mem_push.1 hsj with hsj | he
      · exact .inl ⟨j, hj, hsj, e⟩
      · have : j = i := by omega
        subst this; exact .inr e.symm
theorem Come.lt {ks : List Int} {nb : Nat} {seen : Array Nat} {pre : List Int} (h : Come ks nb seen pre) (hn : ks.Nodup) {i : Nat} (hi : i < ks.length) (hs : ¬ nb + i ∈ seen) : pre.length < ks.length := by
  have h2 := (h.next hn hi hs).2
  have := nodup_len (pre ++ [ks[i]]) ks h2.1 (fun x hx => by
    obtain ⟨j, hj, _, e⟩ := (h2.2 x).1 hx
    exact e ▸ List.getElem_mem hj)
  simp at this; omega
theorem Come.done {ks : List Int} {nb : Nat} {seen : Array Nat} {pre : List Int} (h : Come ks nb seen pre) (ha : ∀ i, i < (kv ks).length → nb + i ∈ seen) : pre.Nodup ∧ ∀ k, k ∈ pre ↔ k ∈ ks :=
  ⟨h.1, fun k => by
    rw [h.2]
    constructor
    · rintro ⟨i, hi, _, e⟩; exact e ▸ List.getElem_mem hi
    · intro hk
      obtain ⟨i, hi, e⟩ := List.getElem_of_mem hk
      exact ⟨i, hi, ha i (by rw [kv_len]; exact hi), e⟩⟩

theorem Ranging.walks {w w' : World} {b r n : Nat} {q : IntKind} {l : List (Int × Value)} {seen : Array Nat} (h : Ranging w b r q n l seen) (hk : KeepsWalks w w') : Ranging w' b r q n l seen :=
  ⟨hk.same _ _ h.map rfl, hk.same _ _ h.iter rfl⟩
theorem grown_of {w w1 : World} {r : Nat} (hb : ∀ B, B ≤ r → Below B w w1) (ho : ∀ k, k ≠ r → w1.heap[k]? = w.heap[k]?) : w.grownBy w1 (some r) :=
  ⟨(hb 0 (Nat.zero_le _)).os, (hb 0 (Nat.zero_le _)).tape, (hb 0 (Nat.zero_le _)).output, (hb 0 (Nat.zero_le _)).size, fun i _ hn => ho i (fun e => hn (by rw [e]))⟩

set_option maxRecDepth 100000 in
set_option maxHeartbeats 1000000 in
theorem keys1_seq (F : Fence) (n : Nat) (hf : F.fn 65) (hro : F.round = none) (hn1 : 1 ≤ n) (Bn b nb : Nat) (ks : List Int) (w : World) (hc : w.cell? ⟨Bn, 0, none⟩ = some (.map (some b)))
    (hb : w.heap[b]? = some (mObj .u64 nb (kv ks))) (hnd : ks.Nodup) :
    SeqP F n Try.prog 65 #[.pointer (some ⟨Bn, 0, none⟩)] (fun k : Int => #[.int .u64 k]) (fun k _ => k ∈ ks) (fun xs => xs.Nodup ∧ ∀ k, k ∈ xs ↔ k ∈ ks) ks.length w := by
  intro l J W hW hJ hY h0
  have HC : Hid (W.cell? ⟨Bn, 0, none⟩ = some (.map (some b))) := Lib.hid (by rw [hW.cell (p := ⟨Bn, 0, none⟩) (lt_of_cell hc)]; exact hc)
  have HM : Hid (W.heap[b]? = some (mObj .u64 nb (kv ks))) := Lib.hid ((hW.block _ (lt_of_block hb)).trans hb)
  have H0 := Lib.hid h0
  have HJ := Lib.hid hJ
  have HY := Lib.hid hY
  have HN := Lib.hid hnd
  clear hc hb hW h0 hJ hY hnd
  refine callsIn_of_wp Try.func65 rfl hf ?_ hro

  simp only [Try.ntmps65, List.size_toArray, List.length_cons, List.length_nil, Nat.reduceAdd, Nat.reduceSub, Array.replicate_succ, Array.replicate_zero, List.push_toArray, List.append_toArray, List.nil_append, List.cons_append]
  have hcc := HC.out
  gi_wp2_with (gi_at_range; refine wpListIn_range_m rfl _ 71 22 4 .u64 rfl Try.underlying71 b nb _ rfl HM.out ?_; intro hrg)
  try go_frame
  have HR := Lib.hid hrg
  have J0 : Hid (J [] (W.alloc (.mapIter (some b) (nb + (kv ks).length) #[] (nb + (kv ks).length)))) := Lib.hid (HJ.out _ _ _ none H0.out (World.grownBy_alloc _ _ _) (fun r e => by cases e))
  have HB0 : W.heap.size ≤ W.heap.size := Nat.le_refl _
  clear hrg H0 HC hcc
  gi_loopw [3] (fun _ wr => ∃ pre seen, Hid (J pre wr) ∧ Hid (Ranging wr b W.heap.size .u64 nb (kv ks) seen) ∧ Hid (Come ks nb seen pre)) (fun _ wr => rLeft wr W.heap.size (nb + (kv ks).length))
  case atStart => exact ⟨[], #[], J0.out, HR.out, Come.start ks nb⟩
  case round =>
    obtain ⟨pre, seen, hj, hr, hk⟩ := hrel
    gi_wp2_with (gi_at_next; refine wpListIn_next_m rfl _ rfl b W.heap.size .u64 nb _ seen rfl hr.out ?_ ?_)
    · intro hall
      have HALL := Lib.hid hall
      clear hall
      gi_wp2
      go_end0
      exact ⟨⟨_, rfl⟩, pre, hk.out.done HALL.out, hj.out⟩
    · intro i hi w1 hns hr1 hlt hb1 hsz hoth hen
      have hi' : i < ks.length := by rw [← kv_len]; exact hi
      have hkk : (kv ks)[i].1 = ks[i] := (kv_get ks i hi).1
      have hvv : (kv ks)[i].2 = .bool true := (kv_get ks i hi).2
      rw [hkk, hvv] at hen ⊢
      obtain ⟨o, ho, how⟩ : ∃ o : Obj, wr.heap[W.heap.size]? = some o ∧ o.isWalk = true := ⟨_, hr.out.iter, rfl⟩
      have J1 : J pre w1 := HJ.out _ _ _ (some W.heap.size) hj.out (grown_of hb1 hoth) (fun r e => by cases e; exact ⟨Nat.le_refl _, o, ho, how⟩)
      have hmem : ks[i] ∈ ks := List.getElem_mem hi'
      have HK2 := Lib.hid (hk.out.next HN.out hi' hns).2
      obtain ⟨fn, tmps, assign, body, hy, hR⟩ := HY.out pre ks[i] w1 J1 hmem (hk.out.lt HN.out hi' hns)
      have HLT := Lib.hid hlt
      have HR1 := Lib.hid hr1
      have HR2 := Lib.hid hR
      obtain ⟨k, hkd⟩ : ∃ k, ks[i] = k := ⟨_, rfl⟩
      rw [hkd] at hen hy HK2 HR2 ⊢
      clear hkk hvv J1 hmem hns hr1 hlt hb1 hsz hoth hR hj hr hk ho how hkd
      gi_wp2
      refine HR2.out.mono ?_
      rintro e W3 ⟨rfl, hJ3, hk3⟩
      have J3 := Lib.hid hJ3
      have HR3 := Lib.hid (HR1.out.walks hk3)
      have HL3 : Hid (rLeft W3 W.heap.size (nb + (kv ks).length) < rLeft wr W.heap.size (nb + (kv ks).length)) := Lib.hid (by have := HLT.out; rw [HR1.out.left] at this; rw [HR3.out.left]; exact this)
      clear hJ3 hk3 hy hen
      gi_wp2
      go_roundw
      case rel => exact ⟨pre ++ [k], _, J3, HR3, HK2⟩
      case measure => exact HL3.out
end Go.Proofs.Ytbeppkokkbgddaa
