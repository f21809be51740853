/- Package reveal: keys. -/
import Derived.Test.YtbeppkokkbgddaaCollect
import Derived.Test.YtbeppkokkbgddaaLevels
namespace Go.Proofs.Ytbeppkokkbgddaa
open Go.RowKit Go.ChangeMaps
set_option linter.unusedSimpArgs false
set_option linter.unusedVariables false
attribute [local go_sem] Oper.semAt_some

theorem rkeys_any (m : Value) (w : World) (hm : ∃ p, m = .map p) : Calls Try.prog 55 #[m] w fun e w' => e = .returned (.func (.func 68) #[] #[.pointer (some ⟨w.heap.size, 0, none⟩)]) ∧ w' = w.alloc (.cells #[m] 71) := by
  obtain ⟨p, rfl⟩ := hm
  go_enter Try.func55, Try.ntmps55
  go_wp2
  go_ret
  exact ⟨rfl, rfl⟩

set_option maxRecDepth 100000 in
set_option maxHeartbeats 1000000 in
theorem rkeys1_seq (F : Fence) (n : Nat) (hf : F.fn 68) (hro : F.round = none) (hn1 : 1 ≤ n) (Bn b nb : Nat) (ks : List Int) (w : World) (hc : w.cell? ⟨Bn, 0, none⟩ = some (.map (some b)))
    (hb : w.heap[b]? = some (mObj .u64 nb (kv ks))) (hnd : ks.Nodup) :
    SeqP F n Try.prog 68 #[.pointer (some ⟨Bn, 0, none⟩)] (fun k : Int => #[.int .u64 k]) (fun k _ => k ∈ ks) (fun xs => xs.Nodup ∧ ∀ k, k ∈ xs ↔ k ∈ ks) ks.length w := by
  intro l J W hW hJ hY h0
  have HC : Hid (W.cell? ⟨Bn, 0, none⟩ = some (.map (some b))) := Lib.hid (by rw [hW.cell (p := ⟨Bn, 0, none⟩) (lt_of_cell hc)]; exact hc)
  have HM : Hid (W.heap[b]? = some (mObj .u64 nb (kv ks))) := Lib.hid ((hW.block _ (lt_of_block hb)).trans hb)
  have H0 := Lib.hid h0
  have HJ := Lib.hid hJ
  have HY := Lib.hid hY
  have HN := Lib.hid hnd
  clear hc hb hW h0 hJ hY hnd
  refine callsIn_of_wp Try.func68 rfl hf ?_ hro

  simp only [Try.ntmps68, List.size_toArray, List.length_cons, List.length_nil, Nat.reduceAdd, Nat.reduceSub, Array.replicate_succ, Array.replicate_zero, List.push_toArray, List.append_toArray, List.nil_append, List.cons_append]
  have hcc := HC.out
  gi_wp2_with (gi_at_range; refine wpListIn_range_m rfl _ 71 22 4 .u64 rfl Try.underlying71 b nb _ rfl HM.out ?_; intro hrg)
  try go_frame
  have HR := Lib.hid hrg
  have J0 : Hid (J [] (W.alloc (.mapIter (some b) (nb + (kv ks).length) #[] (nb + (kv ks).length)))) := Lib.hid (HJ.out _ _ _ none H0.out (World.grownBy_alloc _ _ _) (fun r e => by cases e))
  have HB0 : W.heap.size ≤ W.heap.size := Nat.le_refl _
  clear hrg H0 HC hcc
  gi_loopw [3] (fun _ wr => ∃ pre seen, Hid (J pre wr) ∧ Hid (Ranging wr b W.heap.size .u64 nb (kv ks) seen) ∧ Hid (Come ks nb seen pre)) (fun _ wr => rLeft wr W.heap.size (nb + (kv ks).length))
  case atStart => exact ⟨[], #[], J0.out, HR.out, Come.start ks nb⟩
  case round =>
    obtain ⟨pre, seen, hj, hr, hk⟩ := hrel
    gi_wp2_with (gi_at_next; refine wpListIn_next_m rfl _ rfl b W.heap.size .u64 nb _ seen rfl hr.out ?_ ?_)
    · intro hall
      have HALL := Lib.hid hall
      clear hall
      gi_wp2
      go_end0
      exact ⟨⟨_, rfl⟩, pre, hk.out.done HALL.out, hj.out⟩
    · intro i hi w1 hns hr1 hlt hb1 hsz hoth hen
      have hi' : i < ks.length := by rw [← kv_len]; exact hi
      have hkk : (kv ks)[i].1 = ks[i] := (kv_get ks i hi).1
      have hvv : (kv ks)[i].2 = .bool true := (kv_get ks i hi).2
      rw [hkk, hvv] at hen ⊢
      obtain ⟨o, ho, how⟩ : ∃ o : Obj, wr.heap[W.heap.size]? = some o ∧ o.isWalk = true := ⟨_, hr.out.iter, rfl⟩
      have J1 : J pre w1 := HJ.out _ _ _ (some W.heap.size) hj.out (grown_of hb1 hoth) (fun r e => by cases e; exact ⟨Nat.le_refl _, o, ho, how⟩)
      have hmem : ks[i] ∈ ks := List.getElem_mem hi'
      have HK2 := Lib.hid (hk.out.next HN.out hi' hns).2
      obtain ⟨fn, tmps, assign, body, hy, hR⟩ := HY.out pre ks[i] w1 J1 hmem (hk.out.lt HN.out hi' hns)
      have HLT := Lib.hid hlt
      have HR1 := Lib.hid hr1
      have HR2 := Lib.hid hR
      obtain ⟨k, hkd⟩ : ∃ k, ks[i] = k := ⟨_, rfl⟩
      rw [hkd] at hen hy HK2 HR2 ⊢
      clear hkk hvv J1 hmem hns hr1 hlt hb1 hsz hoth hR hj hr hk ho how hkd
      gi_wp2
      refine HR2.out.mono ?_
      rintro e W3 ⟨rfl, hJ3, hk3⟩
      have J3 := Lib.hid hJ3
      have HR3 := Lib.hid (HR1.out.walks hk3)
      have HL3 : Hid (rLeft W3 W.heap.size (nb + (kv ks).length) < rLeft wr W.heap.size (nb + (kv ks).length)) := Lib.hid (by have := HLT.out; rw [HR1.out.left] at this; rw [HR3.out.left]; exact this)
      clear hJ3 hk3 hy hen
      gi_wp2
      go_roundw
      case rel => exact ⟨pre ++ [k], _, J3, HR3, HK2⟩
      case measure => exact HL3.out
end Go.Proofs.Ytbeppkokkbgddaa
