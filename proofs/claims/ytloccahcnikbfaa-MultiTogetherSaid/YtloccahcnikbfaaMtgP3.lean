/- Parts of the proof, one behind the other. -/
import Derived.Test.YtloccahcnikbfaaMtgP2
import Derived.Laws.EntriesVeiled
import Derived.BigQuiet
import Derived.ProofKit
import Derived.OpenShut
import Derived.ShutString
import Derived.ChangeOld
import Derived.Deep.Slices
import Derived.Deep.Fields
import Derived.ChangeMaps5
namespace Go.Proofs.Ytloccahcnikbfaa
open Go.RowKit
set_option linter.unusedSimpArgs false
set_option linter.unusedVariables false
def zero8 : List W32 := List.replicate 8 0
set_option maxRecDepth 100000 in
set_option maxHeartbeats 4000000 in
theorem first_any (w : World) : Calls Try.prog 97 #[] w fun e w' => e = .returned (.agg (wsC (stL st0))) ∧ Below w.heap.size w w' := by
  go_enter Try.func97, Try.ntmps97
  go_upto_region 1 with fail
  obtain ⟨b, hb⟩ : ∃ b, w.heap.size = b := ⟨_, rfl⟩
  show Code.wp _ _ _ _ (w.alloc (.cells (wsC zero8) 135))
  obtain ⟨V, hV⟩ : ∃ V, w.alloc (.cells (wsC zero8) 135) = V := ⟨_, rfl⟩
  have HV : Hid (V.heap[b]? = some (.cells (wsC zero8) 135 (0, 0))) := Lib.hid (by rw [← hV, ← hb]; exact heap_alloc_new _ _)
  have HS : Hid (Below w.heap.size w V) := Lib.hid (by rw [← hV]; exact balloc (Below.refl _ _) _)
  have HBW : Hid (w.heap.size ≤ b) := Lib.hid (Nat.le_of_eq hb)
  rw [hV, hb]
  clear hV hb
  apply wp_region_lit
  refine wpList_build rfl 135 _ rfl (by as_aux_lemma => kernel_rfl) ?_
  refine wpList_store_row rfl 135 _ _ rfl b (wsC (stL st0)) rfl (by as_aux_lemma => kernel_rfl) 135 (wsC zero8) HV.out (by as_aux_lemma => kernel_rfl) (by as_aux_lemma => kernel_rfl) (by as_aux_lemma => kernel_rfl) ?_
  apply wpList_nil
  obtain ⟨U, hU⟩ : ∃ U, V.setRow b (wsC (stL st0)) = U := ⟨_, rfl⟩
  have HU : Hid (U.heap[b]? = some (.cells (wsC (stL st0)) 135 (0, 0))) := Lib.hid (by rw [← hU]; exact setRow_heap V b _ _ _ _ HV.out)
  have HUB : Hid (Below w.heap.size w U) := Lib.hid (by
    rw [← hU]
    exact ⟨HS.out.os, HS.out.tape, HS.out.output, by rw [setRow_size]; exact HS.out.size, fun i hi => by rw [setRow_other _ _ _ _ (show i ≠ b by have := HBW.out; omega)]; exact HS.out.block i hi⟩)
  rw [hU]
  rename_i Q' K hK
  refine hK _ _ ?_
  apply wp_ret
  refine bodyPost_ret (v := .agg (wsC (stL st0))) ?_ rfl ?_
  · exact results_cell_row rfl _ _ b 135 (wsC (stL st0)) (0, 0) _ rfl HU.out rfl rfl (by as_aux_lemma => kernel_rfl)
  · exact ⟨rfl, HUB.out⟩
def zero64 : List UInt8 := List.replicate 64 0
set_option maxRecDepth 100000 in
theorem built_hsh : Try.prog.built 139 [(0, .agg (wsC (stL st0)))] = some (hshC st0 zero64 ((0 : Nat) : Int)) := by kernel_rfl
def NewIsH (w : World) (e : Ending) (w' : World) : Prop := ∃ b, e = .returned (.pointer (some ⟨b, 0, none⟩)) ∧ w.heap.size ≤ b ∧ HshIs b [] w' ∧ Below w.heap.size w w'
theorem zero64_len : zero64.length = 64 := by unfold zero64; rw [List.length_replicate]
set_option maxRecDepth 100000 in
set_option maxHeartbeats 4000000 in
theorem hnew_any (w : World) : Calls Try.prog 79 #[] w (NewIsH w) := by
  have HB := Lib.hid built_hsh
  have HF := Lib.hid first_any
  go_enter Try.func79, Try.ntmps79
  go_upto_region 1 with fail
  go_wp2_with fail
  refine (HF.out _).mono ?_
  rintro e w2 ⟨rfl, hb2⟩
  have HB2 := Lib.hid hb2
  clear hb2
  have hA : wsC (stL st0) = #[.int .u32 1779033703, .int .u32 3144134277, .int .u32 1013904242, .int .u32 2773480762, .int .u32 1359893119, .int .u32 2600822924, .int .u32 528734635, .int .u32 1541459225] := by kernel_rfl
  rw [hA]
  clear hA
  go_wp2
  go_ret
  refine ⟨w2.heap.size, rfl, HB2.out.size, ⟨st0, zero64, HoldsT.start _ zero64_len, (heap_alloc_new _ _).trans ?_⟩, balloc HB2.out _⟩
  kernel_rfl
theorem info_b8 : (Try.prog.info? 5).map (fun i => (i.zero, i.size, i.bytes)) = some (some (.int .u8 0), 1, 1) := by kernel_rfl
theorem index_8 (v : St8) (t : Nat) (h : t < 8) (w : World) : (Instr.index 135 (.agg (wsC (stL v))) (.int .i64 (t : Int))).run Try.prog w = .ok (.int .u32 (wI (wth (stL v) t))) w := by
  have hk : (wsC (stL v))[t]? = some (wV (wth (stL v) t)) := wsC_at (stL v) t h
  have hs : (wsC (stL v)).size = 8 := rfl
  generalize wsC (stL v) = KC at hk hs
  have b : ¬ (8 : Int) ≤ (t : Int) := by omega
  have b2 : ¬ (t : Int) < 0 := by omega
  unfold Instr.index
  simp [go_sem, hk, hs, b, b2]
  intro h9
  omega
theorem HshIs.count {b : Nat} {L : List UInt8} {w : World} (h : HshIs b L w) {n : Nat} (hn : len L = n) : w.cell? ⟨b, 72, none⟩ = some (.int .u64 (n : Nat)) := by
  obtain ⟨v, r, h1, h2⟩ := h
  rw [block_cell h2, hshC_n _ _ _ h1.rest, hn]
theorem below_own {B : Nat} {row : Nat} {w V w2 : World} (h1 : Below B w V) (hr : B ≤ row) (hB : B ≤ V.heap.size) (h2 : ExtB (some row) V w2) : Below B w w2 :=
  ⟨h2.os.trans h1.os, h2.tape.trans h1.tape, h2.output.trans h1.output, Nat.le_trans h1.size h2.size, fun i hi => (h2.block i (by omega) (by simp; omega)).trans (h1.block i hi)⟩
theorem hshC_one (v : St8) (r : List UInt8) (n : Int) : (hshC v r n).all (·.oneCell') = true := by
  unfold hshC
  rw [Array.all_eq_true]
  intro i hi
  have : ∀ x ∈ (stL v).map wV ++ r.map bV ++ [Value.int .u64 n], x.oneCell' = true := by
    intro x hx
    simp only [List.mem_append, List.mem_map, List.mem_singleton] at hx
    rcases hx with (⟨a, _, rfl⟩ | ⟨a, _, rfl⟩) | rfl <;> rfl
  exact this _ (by simp)
set_option maxRecDepth 100000 in
set_option maxHeartbeats 4000000 in
theorem hsum_any (hb : Nat) (L : List UInt8) (w : World) (h : HshIs hb L w) (hl : len L ≤ 1152921504606846976) :
    Calls Try.prog 81 #[.pointer (some ⟨hb, 0, none⟩)] w fun e w' => e = .returned (.string ⟨(shaL L).toArray⟩) ∧ Below w.heap.size w w' := by
  obtain ⟨v, r, hT, hc⟩ := h
  obtain ⟨n, hn⟩ : ∃ n, len L = n := ⟨_, rfl⟩
  rw [hn] at hc hl
  obtain ⟨Cc, hCc⟩ : ∃ Cc, hshC v r (n : Nat) = Cc := ⟨_, rfl⟩
  have HCC := Lib.hid hCc
  have HSZ : Hid (Cc.size = 73) := Lib.hid (by rw [← hCc, hshC_size _ _ _ hT.rest])
  have HON : Hid (Cc.all (·.oneCell') = true) := Lib.hid (by rw [← hCc]; exact hshC_one _ _ _)
  rw [hCc] at hc
  have HC := Lib.hid hc
  have HT := Lib.hid hT
  have HN := Lib.hid hn
  have HL := Lib.hid hl
  have HI : Hid ((Try.prog.info? 139).map (·.size) = some Cc.size) := Lib.hid (by rw [HSZ.out]; kernel_rfl)
  clear hc hT hn hl hCc
  go_enter Try.func81, Try.ntmps81
  go_upto_region 3 with fail
  go_upto_region 4 with (first | (refine wpList_load_row (o := ⟨some 14, _, _, _, _, _⟩) ?_ 139 (.tmp 13) ?_ hb ?_ 139 Cc (0, 0) _ HC.out Try.underlying139 ?_ HI.out ?_; rfl; rfl; rfl; rfl; skip) | (refine wpList_store_row ?_ 139 (.tmp 3) (.tmp 14) ?_ w.heap.size Cc ?_ ?_ 139 _ (heap_alloc_new _ _) HI.out ?_ HON.out ?_; rfl; rfl; rfl; rfl; (rw [HSZ.out]; kernel_rfl); skip))
  obtain ⟨cb, hcb⟩ : ∃ cb, w.heap.size = cb := ⟨_, rfl⟩
  rw [hcb]
  obtain ⟨V, hV⟩ : ∃ V, (w.alloc (.cells Try.zeroCells139 139)).setRow cb Cc = V := ⟨_, rfl⟩
  rw [hV]
  have HVB : Hid (V.heap[cb]? = some (.cells (hshC v r (n : Nat)) 139 (0, 0))) := Lib.hid (by rw [HCC.out, ← hV, ← hcb]; exact setRow_heap _ _ _ _ _ _ (heap_alloc_new _ _))
  have HVW : Hid (Below w.heap.size w V) := Lib.hid (by
    rw [← hV]
    have h1 : Below w.heap.size w (w.alloc (.cells Try.zeroCells139 139)) := balloc (Below.refl _ _) _
    exact ⟨h1.os, h1.tape, h1.output, by rw [setRow_size]; exact h1.size, fun i hi => by rw [setRow_other _ _ _ _ (show i ≠ cb by omega)]; exact h1.block i hi⟩)
  have HCB : Hid (w.heap.size ≤ cb) := Lib.hid (Nat.le_of_eq hcb)
  have HH : Hid (HshIs cb L V) := Lib.hid (HshIs.intro HT.out (by rw [HN.out]) HVB.out)
  have c72 : V.cell? ⟨cb, 72, none⟩ = some (.int .u64 n) := by rw [block_cell HVB.out, hshC_n _ _ _ HT.out.rest]
  have w8 : IntKind.u64.wrap ((n : Int) * 8) = (n : Int) * 8 := IntWalk.u64_in _ (by have := HL.out; omega)
  clear hV hcb HVB HC HI HON HSZ HCC
  go_upto_region 5 with fail
  clear c72 w8
  have cv : (convert 39 9 (.slice (some ⟨V.heap.size, 0, none⟩) 1 1)).run Try.prog (V.alloc (.cells #[.int .u8 128] 5)) = .ok (.string ⟨#[128]⟩) (V.alloc (.cells #[.int .u8 128] 5)) := conv_new V 5 1 1 [128] rfl
  go_wp2_with fail
  have HV1 := Lib.hid (write_any cb L ⟨#[128]⟩ (V.alloc (.cells #[.int .u8 128] 5)) (HH.out.keep (balloc (Below.refl _ _) _)) (by have h1 := HL.out; have h2 := HN.out; rw [h2]; show n + 1 ≤ _; omega))
  refine HV1.out.mono ?_
  rintro e w2 ⟨rfl, hE, hH⟩
  have HH := Lib.hid hH
  have HVW : Hid (Below w.heap.size w w2) := Lib.hid (below_own HVW.out HCB.out HVW.out.size (ExtB_trans _ _ _ _ (extB_alloc _ _ _) hE))
  have HH : Hid (HshIs cb (L ++ [128] ++ List.replicate 0 0) w2) := Lib.hid (by rw [List.replicate_zero, List.append_nil]; exact HH.out)
  clear hE hH HV1 cv
  go_upto_region 6 with fail
  go_loopg [21] (zerosW n) (fun g _ wr => ∃ m : Nat, g + m = zerosW n ∧ Hid (HshIs cb (L ++ [128] ++ List.replicate m 0) wr) ∧ Hid (Below w.heap.size w wr))
  case atStart => exact ⟨0, rfl, HH, HVW⟩
  case round =>
    clear HH HVW
    obtain ⟨m, hm, HH, HVW⟩ := hrel
    have hz := zerosW_le n
    have HLEN : Hid (len (L ++ [128] ++ List.replicate m 0) = n + 1 + m) := Lib.hid (by
      have := HN.out
      rw [len_eq] at this
      rw [len_eq, List.length_append, List.length_append, List.length_replicate, this]
      rfl)
    have c72 := HH.out.count HLEN.out
    obtain ⟨q, hq⟩ : ∃ q, n + 1 + m = q := ⟨_, rfl⟩
    rw [hq] at c72 HLEN
    have HQ : Hid (q ≤ n + 64) := Lib.hid (by omega)
    by_cases hlt : m < zerosW n
    · have q1 : ¬ ((q : Nat) : Int) % 64 = 56 := by have := zerosW_not n m hlt; omega
      clear hq
      go_wp2_with fail
      have HV1 := Lib.hid (write_any cb _ ⟨#[0]⟩ wr HH.out (by rw [HLEN.out]; have h1 := HL.out; have h2 := HQ.out; show _ + 1 ≤ _; omega))
      refine HV1.out.mono ?_
      rintro e w2 ⟨rfl, hE, hH⟩
      have HV2 : Hid (Below w.heap.size w w2) := Lib.hid (below_own HVW.out HCB.out HVW.out.size hE)
      have HH2 : Hid (HshIs cb (L ++ [128] ++ List.replicate (m + 1) 0) w2) := Lib.hid (by
        have e9 : L ++ [128] ++ List.replicate (m + 1) 0 = L ++ [128] ++ List.replicate m 0 ++ [0] := by rw [List.replicate_succ', List.append_assoc (L ++ [128])]
        rw [e9]
        exact hH)
      clear hE hH HV1
      go_wp2
      go_roundg (zerosW n - (m + 1))
      case rel => exact ⟨m + 1, by omega, HH2, HV2⟩
      case measure => omega
    · obtain rfl : m = zerosW n := by omega
      have q1 : ((q : Nat) : Int) % 64 = 56 := by have := zerosW_end n; omega
      clear hq hz hlt hm
      go_upto_region 9 with fail
      obtain ⟨N, hN⟩ : ∃ N : Nat, n * 8 = N := ⟨_, rfl⟩
      rw [show (n : Int) * 8 = ((N : Nat) : Int) by omega]
      have HN8 := Lib.hid hN
      obtain ⟨L1, hL1⟩ : ∃ L1, L ++ [128] ++ List.replicate (zerosW n) 0 = L1 := ⟨_, rfl⟩
      rw [hL1] at HH HLEN
      have HL1 := Lib.hid hL1
      obtain ⟨lb, hlb⟩ : ∃ lb, wr.heap.size = lb := ⟨_, rfl⟩
      obtain ⟨U, hU⟩ : ∃ U, wr.alloc (.cells (filC (num8 N) 8 0) 133) = U := ⟨_, rfl⟩
      have HUB : Hid (U.heap[lb]? = some (.cells (filC (num8 N) 8 0) 133 (0, 0))) := Lib.hid (by rw [← hU]; exact alloc_new_at _ hlb)
      have HUH : Hid (HshIs cb L1 U) := Lib.hid (by rw [← hU]; exact HH.out.keep (balloc (Below.refl _ _) _))
      have HUW : Hid (Below w.heap.size w U) := Lib.hid (by rw [← hU]; exact balloc HVW.out _)
      have HLB : Hid (w.heap.size ≤ lb ∧ cb < lb) := Lib.hid ⟨by rw [← hlb]; exact HVW.out.size, by rw [← hlb]; exact HH.out.lt⟩
      rw [hlb]
      change Code.wp _ _ _ _ (wr.alloc (.cells (filC (num8 N) 8 0) 133))
      rw [hU]
      clear hU hlb hL1 hN c72 q1 HH HVW
      go_wp2
      go_loopg [26, 6] 8 (fun g i _ wr => ∃ m : Nat, g + m = 8 ∧ i = .int .i64 m ∧ Hid (wr.heap[lb]? = some (.cells (filC (num8 N) 8 m) 133 (0, 0))) ∧ Hid (HshIs cb L1 wr) ∧ Hid (Below w.heap.size w wr))
      case atStart => exact ⟨0, rfl, rfl, HUB, HUH, HUW⟩
      case round =>
        clear HUB HUH HUW
        obtain ⟨m, hm, rfl, HUB, HUH, HUW⟩ := hrel
        by_cases hlt : m < 8
        · have i1 : (m : Int) < 8 := by omega
          have i2 : IntKind.i64.wrap (7 - (m : Int)) = 7 - (m : Int) := IntWalk.i64_in _ (by omega)
          have i3 : IntKind.i64.wrap (8 * (7 - (m : Int))) = 8 * (7 - (m : Int)) := IntWalk.i64_in _ (by omega)
          have i4 : ¬ 8 * (7 - (m : Int)) < 0 := by omega
          have i5 : ¬ (8 : Int) ≤ (m : Int) := by omega
          obtain ⟨W, hW⟩ : ∃ W, wr = W := ⟨_, rfl⟩
          rw [hW] at HUB HUH HUW ⊢
          have c0 : W.cell? ⟨lb, m, none⟩ = some (byV 0) := by rw [block_cell HUB.out, filC_at _ _ _ hlt (num8_len N)]
          have c1 : W.frozen? ⟨lb, m, none⟩ = false := block_free HUB.out m
          have c2 : lb < W.heap.size := lt_of_block HUB.out
          clear hW
          go_upto_region 13 with fail
          rw [num8_byte N m hlt]
          clear c0 c1 c2 i2 i3 i4 i5
          have HU2 : Hid ((W.setCell ⟨lb, m, none⟩ (byV ((num8 N).getD m 0))).heap[lb]? = some (.cells (filC (num8 N) 8 (m + 1)) 133 (0, 0))) := Lib.hid (by
            have := block_setCell HUB.out (o := m) (byV ((num8 N).getD m 0))
            rw [filC_set _ _ _ hlt (num8_len N)] at this
            exact this)
          have HU3 : Hid (HshIs cb L1 (W.setCell ⟨lb, m, none⟩ (byV ((num8 N).getD m 0)))) := Lib.hid (by
            obtain ⟨v9, r9, h1, h2⟩ := HUH.out
            exact ⟨v9, r9, h1, block_setCell_ne h2 (show cb ≠ lb by have := HLB.out.2; omega) _⟩)
          have HU4 : Hid (Below w.heap.size w (W.setCell ⟨lb, m, none⟩ (byV ((num8 N).getD m 0)))) := Lib.hid (bset HUW.out HLB.out.1 _)
          go_wp2
          go_roundg (8 - (m + 1))
          case rel => exact ⟨m + 1, by omega, by go_num, HU2, HU3, HU4⟩
          case measure => omega
        · obtain rfl : m = 8 := by omega
          have i1 : ¬ ((8 : Nat) : Int) < 8 := by decide
          have HUB := Lib.hid (by have h := HUB.out; rw [filC_all _ _ (num8_len N)] at h; exact h)
          have cv : (convert 39 9 (.slice (some ⟨lb, 0, none⟩) 8 8)).run Try.prog wr = .ok (.string ⟨(num8 N).toArray⟩) wr := conv_block wr lb 0 8 8 (num8 N) (num8_len N) (fun i hi => byV_block HUB.out i (by rw [num8_len]; exact hi))
          go_wp2_with fail
          have HV1 := Lib.hid (write_any cb L1 ⟨(num8 N).toArray⟩ wr HUH.out (by rw [HLEN.out]; have h1 := HL.out; have h2 := HQ.out; show _ + (num8 N).length ≤ _; rw [num8_len]; omega))
          refine HV1.out.mono ?_
          rintro e w3 ⟨rfl, hE, hH⟩
          have HW3 : Hid (Below w.heap.size w w3) := Lib.hid (below_own HUW.out HCB.out HUW.out.size hE)
          have HH3 : Hid (HshIs cb (padW L) w3) := Lib.hid (by
            have h1 := HN.out
            rw [len_eq] at h1
            have h2 : padW L = L1 ++ num8 N := by
              rw [padW_parts, ← HL1.out, h1, ← HN8.out, Nat.mod_eq_of_lt (by have := HL.out; omega), Nat.mul_comm]
            rw [h2]
            exact hH)
          clear hE hH HV1 cv HUB HUH HUW i1
          obtain ⟨z, r9, hz, hzb⟩ := HH3.out
          have HZ := Lib.hid hz
          have x0 : w3.cell? ⟨cb, 0, none⟩ = some (.int .u32 (wI z.a)) := by rw [block_cell hzb, hshC_word _ _ _ 0 (by decide)]; rfl
          have x1 : w3.cell? ⟨cb, 1, none⟩ = some (.int .u32 (wI z.b)) := by rw [block_cell hzb, hshC_word _ _ _ 1 (by decide)]; rfl
          have x2 : w3.cell? ⟨cb, 2, none⟩ = some (.int .u32 (wI z.c)) := by rw [block_cell hzb, hshC_word _ _ _ 2 (by decide)]; rfl
          have x3 : w3.cell? ⟨cb, 3, none⟩ = some (.int .u32 (wI z.d)) := by rw [block_cell hzb, hshC_word _ _ _ 3 (by decide)]; rfl
          have x4 : w3.cell? ⟨cb, 4, none⟩ = some (.int .u32 (wI z.e)) := by rw [block_cell hzb, hshC_word _ _ _ 4 (by decide)]; rfl
          have x5 : w3.cell? ⟨cb, 5, none⟩ = some (.int .u32 (wI z.f)) := by rw [block_cell hzb, hshC_word _ _ _ 5 (by decide)]; rfl
          have x6 : w3.cell? ⟨cb, 6, none⟩ = some (.int .u32 (wI z.g)) := by rw [block_cell hzb, hshC_word _ _ _ 6 (by decide)]; rfl
          have x7 : w3.cell? ⟨cb, 7, none⟩ = some (.int .u32 (wI z.h)) := by rw [block_cell hzb, hshC_word _ _ _ 7 (by decide)]; rfl
          clear hz hzb
          go_upto_region 17 with fail
          rw [show (#[.int .u32 (wI z.a), .int .u32 (wI z.b), .int .u32 (wI z.c), .int .u32 (wI z.d), .int .u32 (wI z.e), .int .u32 (wI z.f), .int .u32 (wI z.g), .int .u32 (wI z.h)] : Array Value) = wsC (stL z) from rfl]
          obtain ⟨ZC, hZC⟩ : ∃ ZC, wsC (stL z) = ZC := ⟨_, rfl⟩
          rw [hZC]
          have HZC := Lib.hid hZC
          clear hZC x0 x1 x2 x3 x4 x5 x6 x7
          obtain ⟨i0, hi, hz0, hz1, hz2⟩ := info_parts info_b8
          have HZ0 := Lib.hid hz0
          clear hz0
          go_loopg [43, 7, 9] 8 (fun g i o _ wr => ∃ m : Nat, g + m = 8 ∧ i = .int .i64 m ∧ Hid (wr.ownsRow w.heap.size 5 1 o (4 * m) ((((stL z).take m).map word4).flatten.map byV)) ∧ Hid (Below w.heap.size w wr))
          case atStart => exact ⟨0, rfl, rfl, Lib.hid (World.ownsRow_nil _ _ _ _), HW3⟩
          case round =>
            clear HW3 HH3
            obtain ⟨m, hm, rfl, HO, HW3⟩ := hrel
            by_cases hlt : m < 8
            · have i1 : (m : Int) < 8 := by omega
              obtain ⟨X, hX⟩ : ∃ X, wth (stL z) m = X := ⟨_, rfl⟩
              have hk : ∀ w', (Instr.index 135 (.agg ZC) (.int .i64 (m : Int))).run Try.prog w' = .ok (.int .u32 (wI X)) w' := fun w' => by rw [← HZC.out, index_8 z m hlt, hX]
              have HX := Lib.hid hX
              obtain ⟨W, hW⟩ : ∃ W, wr = W := ⟨_, rfl⟩
              rw [hW] at HO HW3 ⊢
              clear hX hW
              go_upto_region 19 with fail
              have hmm : 4 * m ≤ 32 := by omega
              go_upto_region 20 with (at_builtin; refine wpList_append_own _ rfl _ _ 39 rfl w.heap.size 5 i0 (.int .u8 0) 1 1 Try.underlying39 hi HZ0.out hz1 hz2 rfl (by decide) _ _ _ rfl (HO.out.alloc _) ⟨W.heap.size, 0, none⟩ 4 4 [.int .u8 (wI X / 16777216 % 256), .int .u8 (wI X / 65536 % 256), .int .u8 (wI X / 256 % 256), .int .u8 (wI X % 256)] rfl rfl (World.news_of_block (heap_alloc_new _ _)) (by intro u hu; simp at hu; rcases hu with rfl | rfl | rfl | rfl <;> rfl) (by unfold maxLen; omega) (by omega) (by have := HW3.out.size; simp; omega) ?_; intro v2 w4 hown2 hgrow2 _)
              have HO2 : Hid (w4.ownsRow w.heap.size 5 1 v2 (4 * (m + 1)) ((((stL z).take (m + 1)).map word4).flatten.map byV)) := Lib.hid (by
                rw [outW_snoc z m hlt, HX.out, List.map_append, ← word4_vals]
                exact hown2)
              have HW4 : Hid (Below w.heap.size w w4) := Lib.hid (grownBy_below (balloc HW3.out _) hgrow2 (fun k hk' => (HO.out.lt k hk').1))
              clear hown2 hgrow2 hk
              go_wp2
              go_roundg (8 - (m + 1))
              case rel => exact ⟨m + 1, by omega, by go_num, HO2, HW4⟩
              case measure => omega
            · obtain rfl : m = 8 := by omega
              have i1 : ¬ ((8 : Nat) : Int) < 8 := by decide
              have HO2 : Hid (wr.ownsRow w.heap.size 5 1 u7 32 ((shaL L).map byV)) := Lib.hid (by
                have h1 := HO.out
                rw [show (stL z).take 8 = stL z from rfl, outW_eq, HZ.out.sum] at h1
                exact h1)
              have cv := conv_own HO2.out (shaL_len L) (by decide)
              go_wp2
              go_ret
              exact ⟨rfl, HW3.out⟩
set_option maxRecDepth 100000 in
set_option maxHeartbeats 4000000 in
theorem sha_any (s : ByteArray) (w : World) (hl : s.size ≤ 1152921504606846976) : Calls Try.prog 44 #[.string s] w fun e w' => e = .returned (.string (shaP s)) ∧ Below w.heap.size w w' := by
  have HL := Lib.hid hl
  clear hl
  go_enter Try.func44, Try.ntmps44
  go_wp2_with fail
  refine (hnew_any _).mono ?_
  rintro e w1 ⟨b, rfl, hb0, hh, hw1⟩
  have HH := Lib.hid hh
  have HW1 := Lib.hid hw1
  have HB0 := Lib.hid hb0
  clear hh hw1 hb0
  go_wp2_with fail
  refine (write_any b [] s w1 HH.out (by have := HL.out; show 0 + s.size ≤ _; omega)).mono ?_
  rintro e w2 ⟨rfl, hE, hH⟩
  have HW2 : Hid (Below w.heap.size w w2) := Lib.hid (below_own HW1.out HB0.out HW1.out.size hE)
  have HH2 := Lib.hid hH
  clear hE hH
  go_wp2_with fail
  refine (hsum_any b s.data.toList w2 HH2.out (by rw [len_eq, Array.length_toList]; exact HL.out)).mono ?_
  rintro e w3 ⟨rfl, hE⟩
  have HW3 : Hid (Below w.heap.size w w3) := Lib.hid (bnext HW2.out hE)
  clear hE
  go_wp2
  go_ret
  exact ⟨rfl, HW3.out⟩
end Go.Proofs.Ytloccahcnikbfaa
namespace Go.Proofs.Ytloccahcnikbfaa
open Go.RowKit
set_option linter.unusedSimpArgs false
set_option linter.unusedVariables false
def num8S (n : Nat) : ByteArray := ⟨(num8 n).toArray⟩
theorem num8S_size (n : Nat) : (num8S n).size = 8 := by
  show (num8 n).toArray.size = 8
  rw [List.size_toArray, num8_len]
set_option maxRecDepth 100000 in
set_option maxHeartbeats 4000000 in
theorem dnum_any (N : Nat) (w : World) (hN : N < 18446744073709551616) : Calls Try.prog 77 #[.int .u64 (N : Nat)] w fun e w' => e = .returned (.string (num8S N)) ∧ Below w.heap.size w w' := by
  have HNN := Lib.hid hN
  clear hN
  go_enter Try.func77, Try.ntmps77
  go_upto_region 2 with fail
  obtain ⟨lb, hlb⟩ : ∃ lb, w.heap.size = lb := ⟨_, rfl⟩
  obtain ⟨U, hU⟩ : ∃ U, w.alloc (.cells (filC (num8 N) 8 0) 133) = U := ⟨_, rfl⟩
  have HUB : Hid (U.heap[lb]? = some (.cells (filC (num8 N) 8 0) 133 (0, 0))) := Lib.hid (by rw [← hU]; exact alloc_new_at _ hlb)
  have HUW : Hid (Below w.heap.size w U) := Lib.hid (by rw [← hU]; exact balloc (Below.refl _ _) _)
  have HLB : Hid (w.heap.size ≤ lb) := Lib.hid (Nat.le_of_eq hlb)
  rw [hlb]
  change Code.wp _ _ _ _ (w.alloc (.cells (filC (num8 N) 8 0) 133))
  rw [hU]
  clear hU hlb
  go_wp2
  go_loopg [5, 4] 8 (fun g i _ wr => ∃ m : Nat, g + m = 8 ∧ i = .int .i64 m ∧ Hid (wr.heap[lb]? = some (.cells (filC (num8 N) 8 m) 133 (0, 0))) ∧ Hid (Below w.heap.size w wr))
  case atStart => exact ⟨0, rfl, rfl, HUB, HUW⟩
  case round =>
    clear HUB HUW
    obtain ⟨m, hm, rfl, HUB, HUW⟩ := hrel
    by_cases hlt : m < 8
    · have i1 : (m : Int) < 8 := by omega
      have i2 : IntKind.i64.wrap (7 - (m : Int)) = 7 - (m : Int) := IntWalk.i64_in _ (by omega)
      have i3 : IntKind.i64.wrap (8 * (7 - (m : Int))) = 8 * (7 - (m : Int)) := IntWalk.i64_in _ (by omega)
      have i4 : ¬ 8 * (7 - (m : Int)) < 0 := by omega
      have i5 : ¬ (8 : Int) ≤ (m : Int) := by omega
      obtain ⟨W, hW⟩ : ∃ W, wr = W := ⟨_, rfl⟩
      rw [hW] at HUB HUW ⊢
      have c0 : W.cell? ⟨lb, m, none⟩ = some (byV 0) := by rw [block_cell HUB.out, filC_at _ _ _ hlt (num8_len N)]
      have c1 : W.frozen? ⟨lb, m, none⟩ = false := block_free HUB.out m
      have c2 : lb < W.heap.size := lt_of_block HUB.out
      clear hW
      go_upto_region 6 with fail
      rw [num8_byte N m hlt]
      clear c0 c1 c2 i2 i3 i4 i5
      have HU2 : Hid ((W.setCell ⟨lb, m, none⟩ (byV ((num8 N).getD m 0))).heap[lb]? = some (.cells (filC (num8 N) 8 (m + 1)) 133 (0, 0))) := Lib.hid (by
        have := block_setCell HUB.out (o := m) (byV ((num8 N).getD m 0))
        rw [filC_set _ _ _ hlt (num8_len N)] at this
        exact this)
      have HU4 : Hid (Below w.heap.size w (W.setCell ⟨lb, m, none⟩ (byV ((num8 N).getD m 0)))) := Lib.hid (bset HUW.out HLB.out _)
      go_wp2
      go_roundg (8 - (m + 1))
      case rel => exact ⟨m + 1, by omega, by go_num, HU2, HU4⟩
      case measure => omega
    · obtain rfl : m = 8 := by omega
      have i1 : ¬ ((8 : Nat) : Int) < 8 := by decide
      have HUB := Lib.hid (by have h := HUB.out; rw [filC_all _ _ (num8_len N)] at h; exact h)
      have cv : (convert 39 9 (.slice (some ⟨lb, 0, none⟩) 8 8)).run Try.prog wr = .ok (.string (num8S N)) wr := conv_block wr lb 0 8 8 (num8 N) (num8_len N) (fun i hi => byV_block HUB.out i (by rw [num8_len]; exact hi))
      go_wp2
      go_ret
      exact ⟨rfl, HUW.out⟩
end Go.Proofs.Ytloccahcnikbfaa
namespace Go.Proofs.Ytloccahcnikbfaa
open Go.RowKit
set_option linter.unusedSimpArgs false
set_option linter.unusedVariables false
theorem bld_size : (Try.prog.info? 112).map (·.size) = some 2 := by kernel_rfl
theorem bld_lies : liesAt Try.prog Try.prog.depth 112 (2 / Try.prog.cellsOf 112) 0 112 1 = true := by kernel_rfl
theorem bld_b8 : (Try.prog.info? 5).map (fun i => (i.zero, i.size, i.bytes)) = some (some (.int .u8 0), 1, 1) := by kernel_rfl
set_option maxHeartbeats 1000000 in
set_option maxRecDepth 100000 in
theorem bcheck_used (b : Nat) (w : World) (h0 : w.cell? ⟨b, 0, none⟩ = some (.pointer (some ⟨b, 0, none⟩))) :
    Calls Try.prog 96 #[.pointer (some ⟨b, 0, none⟩)] w fun e w' => e = .returned (.tuple #[]) ∧ w' = w := by
  obtain ⟨j, hj, _⟩ := Option.map_eq_some_iff.1 bld_size
  go_enter Try.func96, Try.ntmps96
  go_wp2
  rw [Lib.run_neq_ptr_same w _ Try.underlying110 hj]
  go_wp2
  go_end0
  exact ⟨rfl, rfl⟩
set_option maxHeartbeats 1000000 in
set_option maxRecDepth 100000 in
theorem bcheck_fresh (b : Nat) (w : World) (h0 : w.cell? ⟨b, 0, none⟩ = some (.pointer none)) (hsh : w.shape? b = some (112, 2)) (hfz : w.frozen? ⟨b, 0, none⟩ = false) :
    Calls Try.prog 96 #[.pointer (some ⟨b, 0, none⟩)] w fun e w' => e = .returned (.tuple #[]) ∧ w' = w.setCell ⟨b, 0, none⟩ (.pointer (some ⟨b, 0, none⟩)) := by
  obtain ⟨j, hj, hjs⟩ := Option.map_eq_some_iff.1 bld_size
  go_enter Try.func96, Try.ntmps96
  go_wp2
  rw [Lib.run_to_unsafe w ⟨b, 0, none⟩ Try.underlying110 Try.underlying146 hj (by rw [hjs]; decide) hsh (Nat.zero_lt_succ 1)]
  simp only [Result.andThen]
  rw [Oper.upon_value]
  go_wp2
  rw [run_callFunc_extern Try.func104 (by kernel_rfl) (by kernel_rfl) (by kernel_rfl) (e := Extern.AbiNoEscape.same) (by kernel_rfl)]
  rw [Lib.run_noEscape]
  simp only [Result.andThen]
  rw [Oper.upon_value]
  go_wp2
  rw [Lib.run_from_unsafe w ⟨b, 0, none⟩ Try.underlying146 Try.underlying110 hj hsh bld_lies]
  simp only [Result.andThen]
  rw [Oper.upon_value]
  go_wp2
  go_end0
  exact ⟨rfl, rfl⟩
theorem bcheck_any (B b : Nat) (bs : List Value) (w : World) (h : Lib.IsBuilder 112 5 B b bs w) :
    Calls Try.prog 96 #[.pointer (some ⟨b, 0, none⟩)] w fun e w' => e = .returned (.tuple #[]) ∧ (Lib.BuilderAt 112 5 B b (.pointer (some ⟨b, 0, none⟩)) bs w' ∧ Below B w w') := by
  rcases h with h | h
  · refine (bcheck_fresh b w h.cell0 h.shape h.frozen0).mono ?_
    rintro e w' ⟨rfl, rfl⟩
    exact ⟨rfl, h.used _, (Below.refl B w).setCell (p := ⟨b, 0, none⟩) h.1 _⟩
  · refine (bcheck_used b w h.cell0).mono ?_
    rintro e w' ⟨rfl, rfl⟩
    exact ⟨rfl, h, Below.refl B _⟩
set_option maxHeartbeats 2000000 in
set_option maxRecDepth 100000 in
theorem bbyte_any (B b : Nat) (bs : List Value) (c : Int) (w : World) (h : Lib.IsBuilder 112 5 B b bs w) (hlen : bs.length + 1 ≤ 140737488355328) (hBw : B ≤ w.heap.size) :
    Calls Try.prog 74 #[.pointer (some ⟨b, 0, none⟩), .int .u8 c] w fun e w' => e = .returned .nilIface ∧ (Lib.BuilderAt 112 5 B b (.pointer (some ⟨b, 0, none⟩)) (bs ++ [.int .u8 c]) w' ∧ Below B w w') := by
  obtain ⟨i0, hi, hz0, hz1, hz2⟩ := info_parts bld_b8
  go_enter Try.func74, Try.ntmps74
  go_wp2_with fail
  refine (bcheck_any B b bs _ h).mono ?_
  rintro e w1 ⟨rfl, h1, hb1⟩
  obtain ⟨hB, v, hbk, hown, hne⟩ := h1
  have c0 : w1.cell? ⟨b, 0, none⟩ = some (.pointer (some ⟨b, 0, none⟩)) := by rw [Lib.cell_of_heap hbk]; rfl
  have c1 : w1.cell? ⟨b, 1, none⟩ = some v := by rw [Lib.cell_of_heap hbk]; rfl
  go_wp2_with (at_builtin; refine wpList_append_own _ rfl _ _ 39 rfl B 5 i0 (.int .u8 0) 1 1 Try.underlying39 hi hz0 hz1 hz2 rfl (by decide) _ _ _ rfl (hown.alloc _) ⟨w1.heap.size, 0, none⟩ 1 1 [.int .u8 c] rfl rfl ?c1 ?c2 ?c3 ?c4 ?c5 ?_)
  case c1 =>
    intro j u hj
    match j, hj with
    | 0, hj => simp at hj; subst hj; simp [Addr.add]
  case c2 => intro u hu; simp at hu; subst hu; rfl
  case c3 => unfold maxLen; omega
  case c4 => omega
  case c5 => have := hb1.size; simp; omega
  intro v' w2 hown' hgrow _
  have hlt : b < w1.heap.size := lt_of_block hbk
  have hb2 : w2.heap[b]? = some (.cells #[.pointer (some ⟨b, 0, none⟩), v] 112 (0, 0)) := by
    rw [hgrow.block b (by simp; omega) (fun e => hne e.symm), Lib.alloc_old w1 _ b hlt]
    exact hbk
  have d0 : w2.cell? ⟨b, 0, none⟩ = some (.pointer (some ⟨b, 0, none⟩)) := by rw [Lib.cell_of_heap hb2]; rfl
  have d1 : w2.cell? ⟨b, 1, none⟩ = some v := by rw [Lib.cell_of_heap hb2]; rfl
  have f1 : w2.frozen? ⟨b, 1, none⟩ = false := Lib.frozen_of_heap hb2 1
  obtain ⟨g, cap, rfl⟩ : ∃ g cap, v' = .slice (some ⟨g, 0, none⟩) (bs.length + 1) cap := by
    rcases hown'.2 with ⟨_, h0⟩ | ⟨g, cap, cur, hv, _⟩
    · omega
    · exact ⟨g, cap, hv⟩
  go_wp2
  go_ret
  refine ⟨rfl, ?_, ?_⟩
  · exact Lib.BuilderAt.put (T := 112) (e := 5) hB hb2 (bs' := bs ++ [.int .u8 c]) (by simpa using hown') (by decide)
  · exact ((hb1.alloc (by have := hb1.size; omega) _).grown hgrow (by have := hb1.size; simp; omega) (fun k hk => (hown.lt k hk).1)).setCell (p := ⟨b, 1, none⟩) hB _
set_option maxHeartbeats 2000000 in
set_option maxRecDepth 100000 in
theorem bstr_any (B b : Nat) (bs : List Value) (s : ByteArray) (w : World) (h : Lib.IsBuilder 112 5 B b bs w) (hlen : bs.length + s.size ≤ 140737488355328) (hBw : B ≤ w.heap.size) :
    Calls Try.prog 75 #[.pointer (some ⟨b, 0, none⟩), .string s] w fun e w' => e = .returned (.tuple #[.int .i64 s.size, .nilIface]) ∧ (Lib.BuilderAt 112 5 B b (.pointer (some ⟨b, 0, none⟩)) (bs ++ Lib.strCells s) w' ∧ Below B w w') := by
  obtain ⟨i0, hi, hz0, hz1, hz2⟩ := info_parts bld_b8
  go_enter Try.func75, Try.ntmps75
  go_wp2_with fail
  refine (bcheck_any B b bs _ h).mono ?_
  rintro e w1 ⟨rfl, h1, hb1⟩
  obtain ⟨hB, v, hbk, hown, hne⟩ := h1
  have c0 : w1.cell? ⟨b, 0, none⟩ = some (.pointer (some ⟨b, 0, none⟩)) := by rw [Lib.cell_of_heap hbk]; rfl
  have c1 : w1.cell? ⟨b, 1, none⟩ = some v := by rw [Lib.cell_of_heap hbk]; rfl
  go_wp2_with (at_builtin; refine Lib.wpList_append_own_string _ rfl _ _ 39 9 rfl B 5 i0 Try.underlying39 Try.underlying9 hi hz0 hz1 hz2 _ _ _ rfl hown s rfl ?c3 ?c4 ?c5 ?_)
  case c3 => unfold maxLen; omega
  case c4 => omega
  case c5 => have := hb1.size; omega
  intro v' w2 hown' hgrow _
  have hlt : b < w1.heap.size := lt_of_block hbk
  have hb2 : w2.heap[b]? = some (.cells #[.pointer (some ⟨b, 0, none⟩), v] 112 (0, 0)) := by
    rw [hgrow.block b hlt (fun e => hne e.symm)]
    exact hbk
  have d0 : w2.cell? ⟨b, 0, none⟩ = some (.pointer (some ⟨b, 0, none⟩)) := by rw [Lib.cell_of_heap hb2]; rfl
  have d1 : w2.cell? ⟨b, 1, none⟩ = some v := by rw [Lib.cell_of_heap hb2]; rfl
  have f1 : w2.frozen? ⟨b, 1, none⟩ = false := Lib.frozen_of_heap hb2 1
  obtain ⟨ao, n', cap, rfl⟩ : ∃ ao n' cap, v' = .slice ao n' cap := by
    rcases hown'.2 with ⟨hv, _⟩ | ⟨g, cap, cur, hv, _⟩
    · exact ⟨_, _, _, hv⟩
    · exact ⟨_, _, _, hv⟩
  go_wp2
  go_ret2
  refine ⟨rfl, ?_, ?_⟩
  · exact Lib.BuilderAt.put (T := 112) (e := 5) hB hb2 (bs' := bs ++ Lib.strCells s) (by simpa [Lib.strCells_length] using hown') (by decide)
  · exact (hb1.grown hgrow (by have := hb1.size; omega) (fun k hk => (hown.lt k hk).1)).setCell (p := ⟨b, 1, none⟩) hB _
end Go.Proofs.Ytloccahcnikbfaa
namespace Go.Proofs.Ytloccahcnikbfaa
open Go.RowKit
set_option linter.unusedSimpArgs false
set_option linter.unusedVariables false
theorem shaP_size (s : ByteArray) : (shaP s).size = 32 := by
  show (shaL s.data.toList).toArray.size = 32
  rw [List.size_toArray, shaL_len]
def partL (p : ByteArray) : List UInt8 := num8 p.size ++ p.data.toList
theorem partL_len (p : ByteArray) : (partL p).length = 8 + p.size := by unfold partL; rw [List.length_append, num8_len, Array.length_toList]; rfl
def partsL (l : List ByteArray) : List UInt8 := (l.map partL).flatten
def tth (l : List ByteArray) (i : Nat) : ByteArray := l.getD i ByteArray.empty
theorem tth_eq (l : List ByteArray) (i : Nat) (h : i < l.length) : tth l i = l[i] := by unfold tth; rw [List.getD_eq_getElem?_getD, List.getElem?_eq_getElem h]; rfl
theorem partsL_snoc (l : List ByteArray) (m : Nat) (h : m < len l) : partsL (l.take (m + 1)) = partsL (l.take m) ++ partL (tth l m) := by
  unfold partsL
  have h2 : m < l.length := h
  rw [List.take_succ_eq_append_getElem h2, List.map_append, List.flatten_append, tth_eq l m h2]
  simp
theorem partsL_le (l : List ByteArray) (m : Nat) : (partsL (l.take m)).length ≤ (partsL l).length := by
  have h : partsL l = partsL (l.take m) ++ partsL (l.drop m) := by
    unfold partsL
    rw [← List.flatten_append, ← List.map_append, List.take_append_drop]
  rw [h, List.length_append]
  omega
theorem partsL_ge (l : List ByteArray) : 8 * l.length ≤ (partsL l).length := by
  unfold partsL
  induction l with
  | nil => exact Nat.le_refl _
  | cons x l ih =>
    rw [List.map_cons, List.flatten_cons, List.length_append, List.length_cons, partL_len]
    omega
def headL (tag : ByteArray) : List UInt8 := UInt8.ofNat tag.size :: tag.data.toList
theorem headL_len (tag : ByteArray) : (headL tag).length = 1 + tag.size := by
  unfold headL
  rw [List.length_cons, Array.length_toList]
  show tag.size + 1 = _
  omega
def framL (tag : ByteArray) (parts : List ByteArray) : List UInt8 := headL tag ++ partsL parts
theorem framL_len (tag : ByteArray) (parts : List ByteArray) : (framL tag parts).length = 1 + tag.size + (partsL parts).length := by
  unfold framL
  rw [List.length_append, headL_len]
def frameS (tag : ByteArray) (parts : List ByteArray) : ByteArray := ⟨(framL tag parts).toArray⟩
theorem frameS_size (tag : ByteArray) (parts : List ByteArray) : (frameS tag parts).size = 1 + tag.size + (partsL parts).length := by
  show (framL tag parts).toArray.size = _
  rw [List.size_toArray, framL_len]
def hashP (tag : ByteArray) (parts : List ByteArray) : ByteArray := shaP (frameS tag parts)
theorem hashP_size (tag : ByteArray) (parts : List ByteArray) : (hashP tag parts).size = 32 := shaP_size _
def leafT : ByteArray := ⟨#[108, 101, 97, 102]⟩
def nodeT : ByteArray := ⟨#[110, 111, 100, 101]⟩
def noneT : ByteArray := ⟨#[110, 111, 110, 101]⟩
def Txts (w : World) (a : Option Addr) (l : List ByteArray) : Prop :=
  ∀ i, i < len l → ∃ b off, a = some ⟨b, off, none⟩ ∧ w.cell? ⟨b, off + i, none⟩ = some (.string (tth l i))
theorem Txts.nil (w : World) (a : Option Addr) : Txts w a [] := fun i h => by simp [len] at h
theorem Txts.below {w w' : World} {a : Option Addr} {l : List ByteArray} (h : Txts w a l) (hb : Below w.heap.size w w') : Txts w' a l := fun i hi => by
  obtain ⟨b, off, rfl, hc⟩ := h i hi
  exact ⟨b, off, rfl, by rw [hb.cell (p := ⟨b, off + i, none⟩) (lt_of_cell hc)]; exact hc⟩
end Go.Proofs.Ytloccahcnikbfaa
namespace Go.Proofs.Ytloccahcnikbfaa
open Go.RowKit
set_option linter.unusedSimpArgs false
set_option linter.unusedVariables false
abbrev BlAt (B b : Nat) (L : List UInt8) (w : World) : Prop := Lib.BuilderAt 112 5 B b (.pointer (some ⟨b, 0, none⟩)) (Lib.byteCells L) w
theorem bc_app (L M : List UInt8) : Lib.byteCells (L ++ M) = Lib.byteCells L ++ Lib.byteCells M := by unfold Lib.byteCells; rw [List.map_append]
theorem bc_len (L : List UInt8) : (Lib.byteCells L).length = L.length := by unfold Lib.byteCells; rw [List.length_map]
def LayIs (B b : Nat) (L : List UInt8) (w : World) (e : Ending) (w' : World) : Prop := e = .returned (.tuple #[]) ∧ BlAt B b L w' ∧ Below B w w'
set_option maxRecDepth 100000 in
set_option maxHeartbeats 4000000 in
theorem lay_part (B b : Nat) (L : List UInt8) (p : ByteArray) (w : World) (h : BlAt B b L w) (hl : L.length + (8 + p.size) ≤ 140737488355328) (hB : B ≤ w.heap.size) :
    Calls Try.prog 76 #[.string p, .pointer (some ⟨b, 0, none⟩)] w (LayIs B b (L ++ partL p) w) := by
  have H := Lib.hid h
  have HL := Lib.hid hl
  have HB := Lib.hid hB
  clear h hl hB
  have i1 : IntKind.u64.wrap ((p.size : Nat) : Int) = ((p.size : Nat) : Int) := IntWalk.u64_in _ (by have := HL.out; omega)
  go_enter Try.func76, Try.ntmps76
  go_wp2_with fail
  refine (dnum_any p.size w (by have := HL.out; omega)).mono ?_
  rintro e w1 ⟨rfl, hb1⟩
  have HB1 := Lib.hid hb1
  have H1 : Hid (BlAt B b L w1) := Lib.hid (by
    obtain ⟨h1, v, h2, h3, h4⟩ := H.out
    exact ⟨h1, v, (hb1.block _ (lt_of_block h2)).trans h2, own_below h3 hb1, h4⟩)
  clear hb1
  go_wp2_with fail
  refine (bstr_any B b _ (num8S p.size) w1 (Or.inr H1.out) (by rw [bc_len, num8S_size]; have := HL.out; omega) (Nat.le_trans HB.out HB1.out.size)).mono ?_
  rintro e w2 ⟨rfl, h2, hb2⟩
  have H2 : Hid (BlAt B b (L ++ num8 p.size) w2) := Lib.hid (by show Lib.BuilderAt _ _ _ _ _ (Lib.byteCells _) _; rw [bc_app]; exact h2)
  have HB2 : Hid (Below B w w2) := Lib.hid ((HB1.out.mono HB.out).trans hb2)
  have HBS : Hid (B ≤ w2.heap.size) := Lib.hid (Nat.le_trans HB.out HB2.out.size)
  clear h2 hb2
  go_wp2_with fail
  refine (bstr_any B b _ p w2 (Or.inr H2.out) (by rw [bc_len, List.length_append, num8_len]; have := HL.out; omega) HBS.out).mono ?_
  rintro e w3 ⟨rfl, h3, hb3⟩
  have H3 : Hid (BlAt B b (L ++ partL p) w3) := Lib.hid (by show Lib.BuilderAt _ _ _ _ _ (Lib.byteCells _) _; unfold partL; rw [← List.append_assoc, bc_app]; exact h3)
  have HB3 : Hid (Below B w w3) := Lib.hid (HB2.out.trans hb3)
  clear h3 hb3
  go_wp2
  go_end0
  exact ⟨rfl, H3.out, HB3.out⟩
theorem fullT {t : ByteArray} (h : t.size ≠ 0) : t.toList.isEmpty = false := by
  rw [ByteArray.toList_eq]; cases t with | mk d => simp_all [ByteArray.size]
theorem headL_cells (tag : ByteArray) (h : tag.size ≤ 16) : Lib.byteCells (headL tag) = [.int .u8 ((tag.size : Nat) : Int)] ++ Lib.strCells tag := by
  unfold headL Lib.strCells Lib.byteCells
  rw [List.map_cons]
  congr 1
  rw [UInt8.toNat_ofNat', Nat.mod_eq_of_lt (by omega)]
set_option maxRecDepth 100000 in
set_option maxHeartbeats 4000000 in
theorem frame_any (tag : ByteArray) (parts : List ByteArray) (a : Option Addr) (cap : Nat) (w : World) (h1 : 1 ≤ tag.size) (h2 : tag.size ≤ 16) (hp : Txts w a parts) (hs : (partsL parts).length ≤ 140737488355300) :
    Calls Try.prog 43 #[.string tag, .slice a (len parts) cap] w fun e w' => e = .returned (.string (frameS tag parts)) ∧ Below w.heap.size w w' := by
  have HP := Lib.hid hp
  have HS := Lib.hid hs
  have HT2 := Lib.hid h2
  have HT1 := Lib.hid h1
  have HPL : Hid (len parts ≤ 140737488355300) := Lib.hid (by have := partsL_ge parts; rw [len_eq]; omega)
  have t1 : tag.toList.isEmpty = false := fullT (by omega)
  have t2 : ¬ (16 : Int) < (tag.size : Int) := by omega
  have t3 : IntKind.u8.wrap ((tag.size : Nat) : Int) = ((tag.size : Nat) : Int) := IntWalk.u8_in _ (by omega)
  clear hp hs h1 h2
  go_enter Try.func43, Try.ntmps43
  go_upto_region 4 with fail
  obtain ⟨b, hb⟩ : ∃ b, w.heap.size = b := ⟨_, rfl⟩
  rw [hb]
  obtain ⟨V, hV⟩ : ∃ V, w.alloc (.cells #[.pointer none, .slice none 0 0] 112) = V := ⟨_, rfl⟩
  rw [hV]
  have HBW : Hid (w.heap.size ≤ b) := Lib.hid (Nat.le_of_eq hb)
  have HI : Hid (Lib.IsBuilder 112 5 b b [] V) := Lib.hid (Or.inl ⟨Nat.le_refl _, _, by rw [← hV]; exact alloc_new_at _ hb, World.ownsRow_nil _ _ _ _, by simp [Value.ownBlock]⟩)
  have HVW : Hid (Below w.heap.size w V) := Lib.hid (by rw [← hV]; exact balloc (Below.refl _ _) _)
  have HVS : Hid (b ≤ V.heap.size) := Lib.hid (by rw [← hb]; exact HVW.out.size)
  clear hV hb
  go_wp2_with fail
  refine (bbyte_any b b [] _ V HI.out (by decide) HVS.out).mono ?_
  rintro e w1 ⟨rfl, hb1, hB1⟩
  have H1 := Lib.hid hb1
  have HS1 : Hid (b ≤ w1.heap.size) := Lib.hid (Nat.le_trans HVS.out hB1.size)
  have HW1 : Hid (Below w.heap.size w w1) := Lib.hid (HVW.out.trans (hB1.mono HBW.out))
  clear hb1 hB1 t1 t2 t3
  go_wp2_with fail
  refine (bstr_any b b _ tag w1 (Or.inr H1.out) (by have := HT2.out; show 1 + tag.size ≤ _; omega) HS1.out).mono ?_
  rintro e w2 ⟨rfl, hb2, hB2⟩
  have H2 : Hid (BlAt b b (headL tag ++ partsL (parts.take 0)) w2) := Lib.hid (by
    show Lib.BuilderAt _ _ _ _ _ (Lib.byteCells _) _
    rw [List.take_zero, show partsL [] = [] from rfl, List.append_nil, headL_cells tag HT2.out]
    exact hb2)
  have HS2 : Hid (b ≤ w2.heap.size) := Lib.hid (Nat.le_trans HS1.out hB2.size)
  have HW2 : Hid (Below w.heap.size w w2) := Lib.hid (HW1.out.trans (hB2.mono HBW.out))
  clear hb2 hB2
  go_wp2
  go_loopg [25, 8] (len parts) (fun g i _ wr => ∃ m : Nat, g + m = len parts ∧ i = .int .i64 m ∧ Hid (BlAt b b (headL tag ++ partsL (parts.take m)) wr) ∧ Hid (b ≤ wr.heap.size) ∧ Hid (Below w.heap.size w wr))
  case atStart => exact ⟨0, rfl, rfl, H2, HS2, HW2⟩
  case round =>
    clear H2 HS2 HW2
    obtain ⟨m, hm, rfl, H2, HS2, HW2⟩ := hrel
    have HPB := HPL.out
    by_cases hlt : m < len parts
    · have i1 : (m : Int) < (len parts : Nat) := by omega
      obtain ⟨pb, po, rfl, hpc⟩ := (HP.out.below HW2.out) m hlt
      obtain ⟨x, hx⟩ : ∃ x, tth parts m = x := ⟨_, rfl⟩
      rw [hx] at hpc
      have HX := Lib.hid hx
      clear hx
      go_wp2_with fail
      refine (lay_part b b _ x wr H2.out (by
        have h1 := HS.out
        have h2 := partsL_le parts (m + 1)
        have h3 := HT2.out
        rw [partsL_snoc _ _ hlt, List.length_append, HX.out, partL_len] at h2
        rw [List.length_append, headL_len]
        omega) HS2.out).mono ?_
      rintro e w3 ⟨rfl, h3, hb3⟩
      have H3 : Hid (BlAt b b (headL tag ++ partsL (parts.take (m + 1))) w3) := Lib.hid (by rw [partsL_snoc _ _ hlt, HX.out, ← List.append_assoc]; exact h3)
      have HS3 : Hid (b ≤ w3.heap.size) := Lib.hid (Nat.le_trans HS2.out hb3.size)
      have HW3 : Hid (Below w.heap.size w w3) := Lib.hid (HW2.out.trans (hb3.mono HBW.out))
      clear h3 hb3 hpc
      go_wp2
      go_roundg (len parts - (m + 1))
      case rel => exact ⟨m + 1, by omega, by go_num, H3, HS3, HW3⟩
      case measure => omega
    · obtain rfl : m = len parts := by omega
      have i1 : ¬ ((len parts : Nat) : Int) < (len parts : Nat) := by omega
      have H4 : Hid (BlAt b b (framL tag parts) wr) := Lib.hid (by have h := H2.out; rw [take_len] at h; exact h)
      clear H2 hm hlt
      go_wp2_with fail
      refine (Try.Builder_String_any b b _ wr (Or.inr H4.out) HS2.out).mono ?_
      rintro e w4 ⟨rfl, hB4⟩
      have HW4 : Hid (Below w.heap.size w w4) := Lib.hid (HW2.out.trans (hB4.mono HBW.out))
      clear hB4
      go_wp2
      go_ret
      exact ⟨rfl, HW4.out⟩
set_option maxRecDepth 100000 in
set_option maxHeartbeats 4000000 in
theorem hash_any (tag : ByteArray) (parts : List ByteArray) (a : Option Addr) (cap : Nat) (w : World) (h1 : 1 ≤ tag.size) (h2 : tag.size ≤ 16) (hp : Txts w a parts) (hs : (partsL parts).length ≤ 140737488355300) :
    Calls Try.prog 15 #[.string tag, .slice a (len parts) cap] w fun e w' => e = .returned (.string (hashP tag parts)) ∧ Below w.heap.size w w' := by
  have HF := Lib.hid (frame_any tag parts a cap w h1 h2 hp hs)
  have HS : Hid (1 ≤ (frameS tag parts).size ∧ (frameS tag parts).size ≤ 140737488355328) := Lib.hid (by rw [frameS_size]; omega)
  clear h1 h2 hp hs
  go_enter Try.func15, Try.ntmps15
  go_wp2_with fail
  refine HF.out.mono ?_
  rintro e w1 ⟨rfl, hb1⟩
  have HB1 := Lib.hid hb1
  have t1 : (frameS tag parts).toList.isEmpty = false := fullT (by have := HS.out; omega)
  clear hb1
  go_wp2_with fail
  refine (sha_any (frameS tag parts) w1 (by have := HS.out; omega)).mono ?_
  rintro e w2 ⟨rfl, hb2⟩
  have HB2 : Hid (Below w.heap.size w w2) := Lib.hid (bnext HB1.out hb2)
  clear hb2
  go_wp2
  go_ret
  exact ⟨rfl, HB2.out⟩
end Go.Proofs.Ytloccahcnikbfaa
namespace Go.Proofs.Ytloccahcnikbfaa
open Go.RowKit
set_option linter.unusedSimpArgs false
set_option linter.unusedVariables false
def NodeAt (b : Nat) (d : ByteArray) (k0 k1 : Option Addr) (w : World) : Prop := w.heap[b]? = some (.cells #[.string d, .pointer k0, .pointer k1] 75 (0, 0))
theorem NodeAt.below {b : Nat} {d : ByteArray} {k0 k1 : Option Addr} {w w' : World} (h : NodeAt b d k0 k1 w) (hb : Below w.heap.size w w') : NodeAt b d k0 k1 w' := (hb.block _ (lt_of_block h)).trans h
theorem NodeAt.digest {b : Nat} {d : ByteArray} {k0 k1 : Option Addr} {w : World} (h : NodeAt b d k0 k1 w) : w.cell? ⟨b, 0, none⟩ = some (.string d) := by rw [block_cell h]; rfl
def LeafIs (d : ByteArray) (w : World) (e : Ending) (w' : World) : Prop := ∃ b, e = .returned (.pointer (some ⟨b, 0, none⟩)) ∧ w.heap.size ≤ b ∧ NodeAt b d none none w' ∧ Below w.heap.size w w'
theorem txts_cells {w : World} {g : Nat} {cs : Array Value} {t : TypeId} {fr : Nat × Nat} (h : w.heap[g]? = some (.cells cs t fr)) (l : List ByteArray) (hl : ∀ i, i < len l → cs[i]? = some (.string (tth l i))) : Txts w (some ⟨g, 0, none⟩) l := fun i hi => ⟨g, 0, rfl, by rw [block_cell h, Nat.zero_add]; exact hl i hi⟩
set_option maxRecDepth 100000 in
set_option maxHeartbeats 4000000 in
theorem leaf_node (s : ByteArray) (w : World) (hs : s.size ≤ 140737488355200) : Calls Try.prog 50 #[.string s] w (LeafIs (hashP leafT [s]) w) := by
  have HS := Lib.hid hs
  clear hs
  go_enter Try.func50, Try.ntmps50
  go_wp2_with fail
  have hw1 : Txts (w.alloc (.cells #[.string s] 9)) (some ⟨w.heap.size, 0, none⟩) [s] := txts_cells (heap_alloc_new _ _) [s] (fun i hi => by
    have : i = 0 := by have : i < 1 := hi; omega
    subst this; rfl)
  refine (hash_any leafT [s] (some ⟨w.heap.size, 0, none⟩) 1 _ (by decide) (by decide) hw1 (by have := HS.out; show ((partL s) ++ []).length ≤ _; rw [List.append_nil, partL_len]; omega)).mono ?_
  rintro e w2 ⟨rfl, hb2⟩
  have HB2 : Hid (Below w.heap.size w w2) := Lib.hid (bnext (balloc (Below.refl _ _) _) hb2)
  clear hb2 hw1
  obtain ⟨H, hH⟩ : ∃ H, hashP leafT [s] = H := ⟨_, rfl⟩
  rw [hH]
  go_wp2
  go_ret
  exact ⟨w2.heap.size, rfl, HB2.out.size, by rw [hH]; exact heap_alloc_new _ _, balloc HB2.out _⟩
def OverIs (d : ByteArray) (b0 b1 : Nat) (w : World) (e : Ending) (w' : World) : Prop := ∃ b, e = .returned (.pointer (some ⟨b, 0, none⟩)) ∧ w.heap.size ≤ b ∧ NodeAt b d (some ⟨b0, 0, none⟩) (some ⟨b1, 0, none⟩) w' ∧ Below w.heap.size w w'
set_option maxRecDepth 100000 in
set_option maxHeartbeats 4000000 in
theorem over_any (b0 b1 : Nat) (d0 d1 : ByteArray) (w : World) (h0 : w.cell? ⟨b0, 0, none⟩ = some (.string d0)) (h1 : w.cell? ⟨b1, 0, none⟩ = some (.string d1)) (hs : d0.size ≤ 70000000000000 ∧ d1.size ≤ 70000000000000) :
    Calls Try.prog 48 #[.pointer (some ⟨b0, 0, none⟩), .pointer (some ⟨b1, 0, none⟩)] w (OverIs (hashP nodeT [d0, d1]) b0 b1 w) := by
  obtain ⟨H, hH⟩ : ∃ H, hashP nodeT [d0, d1] = H := ⟨_, rfl⟩
  rw [hH]
  have HH : Hid (∀ (g : Nat) (wv : World), wv.heap[g]? = some (.cells #[.string d0, .string d1] 9 (0, 0)) → Calls Try.prog 15 #[.string ⟨#[110, 111, 100, 101]⟩, .slice (some ⟨g, 0, none⟩) 2 2] wv fun e w' => e = .returned (.string H) ∧ Below wv.heap.size wv w') := Lib.hid (fun g wv hg => by
    rw [← hH]
    refine hash_any nodeT [d0, d1] (some ⟨g, 0, none⟩) 2 wv (by decide) (by decide) (txts_cells hg [d0, d1] (fun i hi => by
      have : i = 0 ∨ i = 1 := by have : i < 2 := hi; omega
      rcases this with rfl | rfl <;> rfl)) ?_
    show ((partL d0) ++ ((partL d1) ++ [])).length ≤ _
    rw [List.append_nil, List.length_append, partL_len, partL_len]
    omega)
  have c0 := h0
  have c1 := h1
  clear hH h0 h1 hs
  go_enter Try.func48, Try.ntmps48
  go_upto_region 1 with fail
  refine wp_region_tail 15 1000 (none) (phis [fun u _ => u = (.pointer (some ⟨b0, 0, none⟩)), fun u _ => u = (.pointer (some ⟨b0, 0, none⟩)), fun u _ => u = (.pointer (some ⟨b0, 0, none⟩)), fun u _ => u = (.string d0), fun u _ => u = (.pointer (some ⟨b1, 0, none⟩)), fun u _ => u = (.pointer (some ⟨b1, 0, none⟩)), fun u _ => u = (.pointer (some ⟨b1, 0, none⟩)), fun u _ => u = (.string d1), fun u w' => ∃ g, u = .slice (some ⟨g, 0, none⟩) 2 2 ∧ w'.heap[g]? = some (.cells #[.string d0, .string d1] 9 (0, 0)), fun u _ => u = (.string H), fun u _ => u = (.pointer (some ⟨b0, 0, none⟩)), fun u _ => u = (.pointer (some ⟨b1, 0, none⟩)), fun u _ => u = (.agg #[.pointer (some ⟨b0, 0, none⟩), .pointer (some ⟨b1, 0, none⟩)]), fun u _ => u = (.agg #[.string H, .pointer (some ⟨b0, 0, none⟩), .pointer (some ⟨b1, 0, none⟩)]), fun u w' => ∃ g, u = .pointer (some ⟨g, 0, none⟩) ∧ w.heap.size ≤ g ∧ NodeAt g H (some ⟨b0, 0, none⟩) (some ⟨b1, 0, none⟩) w']) rfl (by kernel_rfl) (by kernel_rfl) (mono_of ⟨mono_eq, mono_eq, mono_eq, mono_eq, mono_eq, mono_eq, mono_eq, mono_eq, ?m8, mono_eq, mono_eq, mono_eq, mono_eq, mono_eq, ?m14, trivial⟩) (steps_of 15 ⟨?s0, ?s1, ?s2, ?s3, ?s4, ?s5, ?s6, ?s7, ?s8, ?s9, ?s10, ?s11, ?s12, ?s13, ?s14, trivial⟩) ?_
  case m8 =>
    exact ⟨fun u w1 w' h ⟨b, h1, hb⟩ => ⟨b, h1, ext_block h hb⟩, fun _ u w1 w' h ⟨b, h1, hb⟩ => ⟨b, h1, extB_block h (by simp) hb⟩⟩
  case m14 =>
    exact ⟨fun u w1 w' h ⟨b, h1, h2, hb⟩ => ⟨b, h1, h2, ext_block h hb⟩, fun _ u w1 w' h ⟨b, h1, h2, hb⟩ => ⟨b, h1, h2, extB_block h (by simp) hb⟩⟩
  case s0 =>
    refine step_val (v := (.pointer (some ⟨b0, 0, none⟩))) (fun av wv hE hS hO hD => ?_) (fun _ => rfl)
    have h0 : av.eval (.tmp 0) = (.pointer (some ⟨b0, 0, none⟩)) := hO.2.2 0 rfl
    have f0 := (ev_form av 0).symm.trans h0
    refine ⟨rfl, ?_⟩
    simp [go_sem, f0]
  case s1 =>
    refine step_val (v := (.pointer (some ⟨b0, 0, none⟩))) (fun av wv hE hS hO hD => ?_) (fun _ => rfl)
    have d5 : av.eval (.tmp 5) = (.pointer (some ⟨b0, 0, none⟩)) := hD.1 rfl _ rfl
    have f5 := (ev_form av 5).symm.trans d5
    refine ⟨rfl, ?_⟩
    simp [go_sem, f5]
  case s2 =>
    refine step_val (v := (.pointer (some ⟨b0, 0, none⟩))) (fun av wv hE hS hO hD => ?_) (fun _ => rfl)
    have d6 : av.eval (.tmp 6) = (.pointer (some ⟨b0, 0, none⟩)) := hD.1 rfl _ rfl
    have f6 := (ev_form av 6).symm.trans d6
    refine ⟨rfl, ?_⟩
    simp [go_sem, f6]
  case s3 =>
    refine step_val (v := (.string d0)) (fun av wv hE hS hO hD => ?_) (fun _ => rfl)
    have d7 : av.eval (.tmp 7) = (.pointer (some ⟨b0, 0, none⟩)) := hD.1 rfl _ rfl
    have f7 := (ev_form av 7).symm.trans d7
    have c0 := extB_cell hE (by simp) c0
    have c1 := extB_cell hE (by simp) c1
    refine ⟨rfl, ?_⟩
    simp [go_sem, f7, c0, c1]
  case s4 =>
    refine step_val (v := (.pointer (some ⟨b1, 0, none⟩))) (fun av wv hE hS hO hD => ?_) (fun _ => rfl)
    have h1 : av.eval (.tmp 1) = (.pointer (some ⟨b1, 0, none⟩)) := hO.2.2 1 rfl
    have f1 := (ev_form av 1).symm.trans h1
    refine ⟨rfl, ?_⟩
    simp [go_sem, f1]
  case s5 =>
    refine step_val (v := (.pointer (some ⟨b1, 0, none⟩))) (fun av wv hE hS hO hD => ?_) (fun _ => rfl)
    have d9 : av.eval (.tmp 9) = (.pointer (some ⟨b1, 0, none⟩)) := hD.1 rfl _ rfl
    have f9 := (ev_form av 9).symm.trans d9
    refine ⟨rfl, ?_⟩
    simp [go_sem, f9]
  case s6 =>
    refine step_val (v := (.pointer (some ⟨b1, 0, none⟩))) (fun av wv hE hS hO hD => ?_) (fun _ => rfl)
    have d10 : av.eval (.tmp 10) = (.pointer (some ⟨b1, 0, none⟩)) := hD.1 rfl _ rfl
    have f10 := (ev_form av 10).symm.trans d10
    refine ⟨rfl, ?_⟩
    simp [go_sem, f10]
  case s7 =>
    refine step_val (v := (.string d1)) (fun av wv hE hS hO hD => ?_) (fun _ => rfl)
    have d11 : av.eval (.tmp 11) = (.pointer (some ⟨b1, 0, none⟩)) := hD.1 rfl _ rfl
    have f11 := (ev_form av 11).symm.trans d11
    have c0 := extB_cell hE (by simp) c0
    have c1 := extB_cell hE (by simp) c1
    refine ⟨rfl, ?_⟩
    simp [go_sem, f11, c0, c1]
  case s8 =>
    refine step_wp (fun av wv hE hS hO hD => ?_)
    have d8 : av.eval (.tmp 8) = (.string d0) := hD.1 rfl _ rfl
    have f8 := (ev_form av 8).symm.trans d8
    have d12 : av.eval (.tmp 12) = (.string d1) := hD.2.1 rfl _ rfl
    have f12 := (ev_form av 12).symm.trans d12
    refine ⟨rfl, ?_⟩
    refine wp_of_run (v := .slice (some ⟨wv.heap.size, 0, none⟩) 2 2) (w' := wv.alloc (.cells #[.string d0, .string d1] 9)) (by simp [go_sem, f8, f12]) ⟨_, rfl, es_of_ext (balloc (Ext_refl _) _), wv.heap.size, rfl, heap_alloc_new _ _⟩
  case s9 =>
    refine step_wp (fun av wv hE hS hO hD => ?_)
    have d13 : (fun u w' => ∃ g, u = .slice (some ⟨g, 0, none⟩) 2 2 ∧ w'.heap[g]? = some (.cells #[.string d0, .string d1] 9 (0, 0))) (av.eval (.tmp 13)) wv := hD.1 rfl _ rfl
    refine ⟨rfl, ?_⟩
    obtain ⟨g, h13, hg⟩ := d13
    have f13 := (ev_form av 13).symm.trans h13
    refine wp_of_call (v := .string H) (by simp [go_sem, f13]) (HH.out g wv hg) (fun w2 hb => ⟨_, rfl, es_of_ext hb, rfl⟩)
  case s10 =>
    refine step_val (v := (.pointer (some ⟨b0, 0, none⟩))) (fun av wv hE hS hO hD => ?_) (fun _ => rfl)
    have h0 : av.eval (.tmp 0) = (.pointer (some ⟨b0, 0, none⟩)) := hO.2.2 0 rfl
    have f0 := (ev_form av 0).symm.trans h0
    refine ⟨rfl, ?_⟩
    simp [go_sem, f0]
  case s11 =>
    refine step_val (v := (.pointer (some ⟨b1, 0, none⟩))) (fun av wv hE hS hO hD => ?_) (fun _ => rfl)
    have h1 : av.eval (.tmp 1) = (.pointer (some ⟨b1, 0, none⟩)) := hO.2.2 1 rfl
    have f1 := (ev_form av 1).symm.trans h1
    refine ⟨rfl, ?_⟩
    simp [go_sem, f1]
  case s12 =>
    refine step_val (v := (.agg #[.pointer (some ⟨b0, 0, none⟩), .pointer (some ⟨b1, 0, none⟩)])) (fun av wv hE hS hO hD => ?_) (fun _ => rfl)
    have d15 : av.eval (.tmp 15) = (.pointer (some ⟨b0, 0, none⟩)) := hD.1 rfl _ rfl
    have f15 := (ev_form av 15).symm.trans d15
    have d16 : av.eval (.tmp 16) = (.pointer (some ⟨b1, 0, none⟩)) := hD.2.1 rfl _ rfl
    have f16 := (ev_form av 16).symm.trans d16
    refine ⟨rfl, ?_⟩
    simp [go_sem, f15, f16]
  case s13 =>
    refine step_val (v := (.agg #[.string H, .pointer (some ⟨b0, 0, none⟩), .pointer (some ⟨b1, 0, none⟩)])) (fun av wv hE hS hO hD => ?_) (fun _ => rfl)
    have d14 : av.eval (.tmp 14) = (.string H) := hD.1 rfl _ rfl
    have f14 := (ev_form av 14).symm.trans d14
    have d17 : av.eval (.tmp 17) = (.agg #[.pointer (some ⟨b0, 0, none⟩), .pointer (some ⟨b1, 0, none⟩)]) := hD.2.1 rfl _ rfl
    have f17 := (ev_form av 17).symm.trans d17
    refine ⟨rfl, ?_⟩
    simp [go_sem, f14, f17]
  case s14 =>
    refine step_wp (fun av wv hE hS hO hD => ?_)
    have d18 : av.eval (.tmp 18) = (.agg #[.string H, .pointer (some ⟨b0, 0, none⟩), .pointer (some ⟨b1, 0, none⟩)]) := hD.1 rfl _ rfl
    have f18 := (ev_form av 18).symm.trans d18
    refine ⟨rfl, ?_⟩
    refine wp_of_run (v := .pointer (some ⟨wv.heap.size, 0, none⟩)) (w' := wv.alloc (.cells #[.string H, .pointer (some ⟨b0, 0, none⟩), .pointer (some ⟨b1, 0, none⟩)] 75)) (by simp [go_sem, f18]) ⟨_, rfl, es_of_ext (balloc (Ext_refl _) _), wv.heap.size, rfl, (by have := hE.size; simp at this; omega), heap_alloc_new _ _⟩
  intro a' w' hE hO hall
  have hA := act_of_outer (ds := [5, 6, 7, 8, 9, 10, 11, 12, 13, 14, 15, 16, 17, 18, 19]) rfl hO (by kernel_rfl)
  have e5 : (fun u _ => u = (.pointer (some ⟨b0, 0, none⟩))) (a'.eval (.tmp 5)) w' := hall.1 _ rfl
  have e6 : (fun u _ => u = (.pointer (some ⟨b0, 0, none⟩))) (a'.eval (.tmp 6)) w' := hall.2.1 _ rfl
  have e7 : (fun u _ => u = (.pointer (some ⟨b0, 0, none⟩))) (a'.eval (.tmp 7)) w' := hall.2.2.1 _ rfl
  have e8 : (fun u _ => u = (.string d0)) (a'.eval (.tmp 8)) w' := hall.2.2.2.1 _ rfl
  have e9 : (fun u _ => u = (.pointer (some ⟨b1, 0, none⟩))) (a'.eval (.tmp 9)) w' := hall.2.2.2.2.1 _ rfl
  have e10 : (fun u _ => u = (.pointer (some ⟨b1, 0, none⟩))) (a'.eval (.tmp 10)) w' := hall.2.2.2.2.2.1 _ rfl
  have e11 : (fun u _ => u = (.pointer (some ⟨b1, 0, none⟩))) (a'.eval (.tmp 11)) w' := hall.2.2.2.2.2.2.1 _ rfl
  have e12 : (fun u _ => u = (.string d1)) (a'.eval (.tmp 12)) w' := hall.2.2.2.2.2.2.2.1 _ rfl
  have e13 : (fun u w' => ∃ g, u = .slice (some ⟨g, 0, none⟩) 2 2 ∧ w'.heap[g]? = some (.cells #[.string d0, .string d1] 9 (0, 0))) (a'.eval (.tmp 13)) w' := hall.2.2.2.2.2.2.2.2.1 _ rfl
  have e14 : (fun u _ => u = (.string H)) (a'.eval (.tmp 14)) w' := hall.2.2.2.2.2.2.2.2.2.1 _ rfl
  have e15 : (fun u _ => u = (.pointer (some ⟨b0, 0, none⟩))) (a'.eval (.tmp 15)) w' := hall.2.2.2.2.2.2.2.2.2.2.1 _ rfl
  have e16 : (fun u _ => u = (.pointer (some ⟨b1, 0, none⟩))) (a'.eval (.tmp 16)) w' := hall.2.2.2.2.2.2.2.2.2.2.2.1 _ rfl
  have e17 : (fun u _ => u = (.agg #[.pointer (some ⟨b0, 0, none⟩), .pointer (some ⟨b1, 0, none⟩)])) (a'.eval (.tmp 17)) w' := hall.2.2.2.2.2.2.2.2.2.2.2.2.1 _ rfl
  have e18 : (fun u _ => u = (.agg #[.string H, .pointer (some ⟨b0, 0, none⟩), .pointer (some ⟨b1, 0, none⟩)])) (a'.eval (.tmp 18)) w' := hall.2.2.2.2.2.2.2.2.2.2.2.2.2.1 _ rfl
  have e19 : (fun u w' => ∃ g, u = .pointer (some ⟨g, 0, none⟩) ∧ w.heap.size ≤ g ∧ NodeAt g H (some ⟨b0, 0, none⟩) (some ⟨b1, 0, none⟩) w') (a'.eval (.tmp 19)) w' := hall.2.2.2.2.2.2.2.2.2.2.2.2.2.2.1 _ rfl
  obtain ⟨v13, hv13⟩ : ∃ v, a'.eval (.tmp 13) = v := ⟨_, rfl⟩
  rw [hv13] at e13
  obtain ⟨v19, hv19⟩ : ∃ v, a'.eval (.tmp 19) = v := ⟨_, rfl⟩
  rw [hv19] at e19
  simp only [List.foldl_cons, List.foldl_nil, Act.put, List.setIfInBounds_toArray, List.set_cons_succ, List.set_cons_zero, e5, e6, e7, e8, e9, e10, e11, e12, hv13, e14, e15, e16, e17, e18, hv19] at hA
  clear hO hall e5 e6 e7 e8 e9 e10 e11 e12 hv13 e14 e15 e16 e17 e18 hv19
  subst hA
  obtain ⟨g, rfl, hg, hn⟩ := e19
  have HN := Lib.hid hn
  have HG := Lib.hid hg
  have HW : Hid (Below w.heap.size w w') := Lib.hid (of_drew hE)
  clear hn hg hE
  go_wp2
  go_ret
  exact ⟨g, rfl, HG.out, HN.out, HW.out⟩
end Go.Proofs.Ytloccahcnikbfaa
namespace Go.Proofs.Ytloccahcnikbfaa
open Go.RowKit
set_option linter.unusedSimpArgs false
set_option linter.unusedVariables false
def plD (els : List ByteArray) (d : Nat) : Nat → Nat → ByteArray
  | 0, k => if revOf k d < len els then hashP leafT [tth els (revOf k d)] else hashP noneT []
  | l + 1, k => hashP nodeT [plD els d l (2 * k), plD els d l (2 * k + 1)]
theorem plD_size (els : List ByteArray) (d : Nat) : ∀ l k, (plD els d l k).size = 32
  | 0, k => by unfold plD; split <;> exact hashP_size _ _
  | l + 1, k => hashP_size _ _
end Go.Proofs.Ytloccahcnikbfaa
namespace Go.Proofs.Ytloccahcnikbfaa
open Go.RowKit
set_option linter.unusedSimpArgs false
set_option linter.unusedVariables false
def PlaceIs (els : List ByteArray) (d : Nat) : Nat → Nat → Nat → World → Prop
  | 0, k, b, w => NodeAt b (plD els d 0 k) none none w
  | l + 1, k, b, w => ∃ b0 b1, NodeAt b (plD els d (l + 1) k) (some ⟨b0, 0, none⟩) (some ⟨b1, 0, none⟩) w ∧ PlaceIs els d l (2 * k) b0 w ∧ PlaceIs els d l (2 * k + 1) b1 w
theorem PlaceIs.below {els : List ByteArray} {d : Nat} : ∀ {l k b : Nat} {w w' : World}, PlaceIs els d l k b w → Below w.heap.size w w' → PlaceIs els d l k b w'
  | 0, _, _, _, _, h, hb => NodeAt.below h hb
  | l + 1, _, _, _, _, ⟨b0, b1, h, h0, h1⟩, hb => ⟨b0, b1, h.below hb, h0.below hb, h1.below hb⟩
theorem PlaceIs.digest {els : List ByteArray} {d : Nat} : ∀ {l k b : Nat} {w : World}, PlaceIs els d l k b w → w.cell? ⟨b, 0, none⟩ = some (.string (plD els d l k))
  | 0, _, _, _, h => NodeAt.digest h
  | l + 1, _, _, _, ⟨b0, b1, h, _, _⟩ => h.digest
theorem PlaceIs.ext {els : List ByteArray} {d l k b : Nat} {w w' : World} (h : PlaceIs els d l k b w) (hb : Ext w w') : PlaceIs els d l k b w' := h.below hb
theorem PlaceIs.extB {els : List ByteArray} {d l k b : Nat} {w w' : World} (h : PlaceIs els d l k b w) (hb : ExtB none w w') : PlaceIs els d l k b w' := h.below (extB_none hb)
structure EnvT (els : List ByteArray) (d bF bD bE bN nb : Nat) (a : Option Addr) (cap : Nat) (w : World) : Prop where
  f : w.heap[bF]? = some (.cells #[.func (.func 47) #[] #[.pointer (some ⟨bF, 0, none⟩), .pointer (some ⟨bD, 0, none⟩), .pointer (some ⟨bE, 0, none⟩), .pointer (some ⟨bN, 0, none⟩)]] 76 (0, 0))
  d : w.heap[bD]? = some (.cells #[.int .i64 (d : Nat)] 3 (0, 0))
  e : w.heap[bE]? = some (.cells #[.slice a (len els) cap] 23 (0, 0))
  n : w.heap[bN]? = some (.cells #[.pointer (some ⟨nb, 0, none⟩)] 72 (0, 0))
  nb : NodeAt nb (hashP noneT []) none none w
  t : Txts w a els
theorem EnvT.below {els : List ByteArray} {d bF bD bE bN nb : Nat} {a : Option Addr} {cap : Nat} {w w' : World} (h : EnvT els d bF bD bE bN nb a cap w) (hb : Below w.heap.size w w') : EnvT els d bF bD bE bN nb a cap w' :=
  ⟨(hb.block _ (lt_of_block h.f)).trans h.f, (hb.block _ (lt_of_block h.d)).trans h.d, (hb.block _ (lt_of_block h.e)).trans h.e, (hb.block _ (lt_of_block h.n)).trans h.n, h.nb.below hb, h.t.below hb⟩
def AtIs (els : List ByteArray) (d l k : Nat) (w : World) (e : Ending) (w' : World) : Prop := ∃ g, e = .returned (.pointer (some ⟨g, 0, none⟩)) ∧ PlaceIs els d l k g w' ∧ Below w.heap.size w w'
theorem turned_rev {k d : Nat} (hd : d ≤ 16) (hk : k < 2 ^ d) : turnedZ (k : Nat) (d : Nat) = ((revOf k d : Nat) : Int) := by
  unfold turnedZ
  rw [if_pos]
  · simp
  · refine ⟨by omega, by omega, ?_⟩
    rw [Int.toNat_natCast, pow_cast]
    exact_mod_cast hk
theorem pow_le16 {d : Nat} (hd : d ≤ 16) : 2 ^ d ≤ 65536 := Nat.pow_le_pow_right (by decide) hd
set_option maxRecDepth 100000 in
set_option maxHeartbeats 4000000 in
theorem at_zero (els : List ByteArray) (d bF bD bE bN nb : Nat) (a : Option Addr) (cap k : Nat) (w : World) (hd : d ≤ 16) (hk : k < 2 ^ d) (hn : len els ≤ 65536) (hz : ∀ i, i < len els → (tth els i).size ≤ 140737488355200) (h : EnvT els d bF bD bE bN nb a cap w) :
    Calls Try.prog 47 #[.int .i64 0, .int .u64 k, .pointer (some ⟨bF, 0, none⟩), .pointer (some ⟨bD, 0, none⟩), .pointer (some ⟨bE, 0, none⟩), .pointer (some ⟨bN, 0, none⟩)] w (AtIs els d 0 k w) := by
  have H := Lib.hid h
  have HK : Hid (k < 65536) := Lib.hid (Nat.lt_of_lt_of_le hk (pow_le16 hd))
  have HN := Lib.hid hn
  have HZ := Lib.hid hz
  have HEL := Lib.hid (element_any (k : Nat) (d : Nat) w (by omega) (by have := HK.out; omega))
  rw [turned_rev hd hk] at HEL
  have cd : w.cell? ⟨bD, 0, none⟩ = some (.int .i64 (d : Nat)) := by rw [block_cell h.d]; rfl
  have ce : w.cell? ⟨bE, 0, none⟩ = some (.slice a (len els) cap) := by rw [block_cell h.e]; rfl
  have cn : w.cell? ⟨bN, 0, none⟩ = some (.pointer (some ⟨nb, 0, none⟩)) := by rw [block_cell h.n]; rfl
  have HPL : Hid (plD els d 0 k = if revOf k d < len els then hashP leafT [tth els (revOf k d)] else hashP noneT []) := Lib.hid rfl
  have HRL : Hid (revOf k d < 65536) := Lib.hid (Nat.lt_of_lt_of_le (revOf_lt k d) (pow_le16 hd))
  obtain ⟨i, hi⟩ : ∃ i, revOf k d = i := ⟨_, rfl⟩
  rw [hi] at HEL HPL HRL
  clear h hi hd hk hn hz
  go_enter Try.func47, Try.ntmps47
  go_wp2_with fail
  refine HEL.out.mono ?_
  rintro e w1 ⟨rfl, rfl⟩
  have HNB := HN.out
  have hil := HRL.out
  by_cases hlt : i < len els
  · have i1 : (i : Int) < (len els : Nat) := by omega
    have i2 : IntKind.u64.wrap ((len els : Nat) : Int) = ((len els : Nat) : Int) := IntWalk.u64_in _ (by omega)
    obtain ⟨pb, po, rfl, hpc⟩ := H.out.t i hlt
    obtain ⟨x, hx⟩ : ∃ x, tth els i = x := ⟨_, rfl⟩
    rw [hx] at hpc
    have HX := Lib.hid hx
    clear hx
    go_wp2_with fail
    refine (leaf_node x w (by rw [← HX.out]; exact HZ.out i hlt)).mono ?_
    rintro e w2 ⟨g, rfl, hg, hn2, hb2⟩
    have HE2 : Hid (PlaceIs els d 0 k g w2) := Lib.hid (by
      show NodeAt g (plD els d 0 k) none none w2
      rw [HPL.out, if_pos hlt, HX.out]; exact hn2)
    have HB2 := Lib.hid hb2
    clear hg hn2 hb2 hpc
    go_wp2
    go_ret
    exact ⟨g, rfl, HE2.out, HB2.out⟩
  · have i1 : ¬ (i : Int) < (len els : Nat) := by omega
    have i2 : IntKind.u64.wrap ((len els : Nat) : Int) = ((len els : Nat) : Int) := IntWalk.u64_in _ (by omega)
    have HE2 : Hid (PlaceIs els d 0 k nb w) := Lib.hid (by
      show NodeAt nb (plD els d 0 k) none none w
      rw [HPL.out, if_neg hlt]; exact H.out.nb)
    clear hlt
    go_wp2
    go_ret
    exact ⟨nb, rfl, HE2.out, Below.refl _ _⟩
set_option maxRecDepth 100000 in
set_option maxHeartbeats 4000000 in
theorem at_step (els : List ByteArray) (d bF bD bE bN nb : Nat) (a : Option Addr) (cap l k : Nat) (w : World) (hd : l + 1 ≤ 16) (hk : k < 65536) (h : EnvT els d bF bD bE bN nb a cap w)
    (hr : ∀ (k' : Nat) (wv : World), Below w.heap.size w wv → (k' = 2 * k ∨ k' = 2 * k + 1) → Calls Try.prog 47 #[.int .i64 (l : Nat), .int .u64 ((k' : Nat) : Int), .pointer (some ⟨bF, 0, none⟩), .pointer (some ⟨bD, 0, none⟩), .pointer (some ⟨bE, 0, none⟩), .pointer (some ⟨bN, 0, none⟩)] wv (AtIs els d l k' wv)) :
    Calls Try.prog 47 #[.int .i64 ((l + 1 : Nat) : Int), .int .u64 k, .pointer (some ⟨bF, 0, none⟩), .pointer (some ⟨bD, 0, none⟩), .pointer (some ⟨bE, 0, none⟩), .pointer (some ⟨bN, 0, none⟩)] w (AtIs els d (l + 1) k w) := by
  have HR := Lib.hid hr
  have K1 : 2 * k = 2 * k ∨ 2 * k = 2 * k + 1 := Or.inl rfl
  have K2 : 2 * k + 1 = 2 * k ∨ 2 * k + 1 = 2 * k + 1 := Or.inr rfl
  have cf : w.cell? ⟨bF, 0, none⟩ = some (.func (.func 47) #[] #[.pointer (some ⟨bF, 0, none⟩), .pointer (some ⟨bD, 0, none⟩), .pointer (some ⟨bE, 0, none⟩), .pointer (some ⟨bN, 0, none⟩)]) := by rw [block_cell h.f]; rfl
  have l1 : (0 : Int) < ((l + 1 : Nat) : Int) := by omega
  have s1 : IntKind.i64.wrap (l : Int) = (l : Int) := IntWalk.i64_in _ (by omega)
  have m1 : IntKind.u64.wrap (2 * (k : Int)) = 2 * (k : Int) := IntWalk.u64_in _ (by omega)
  have m2 : IntKind.u64.wrap (2 * (k : Int) + 1) = 2 * (k : Int) + 1 := IntWalk.u64_in _ (by omega)
  clear hr h
  go_enter Try.func47, Try.ntmps47
  go_upto_region 2 with fail
  refine wp_region_tail 14 1000 (none) (phis [fun u _ => u = (.func (.func 47) #[] #[.pointer (some ⟨bF, 0, none⟩), .pointer (some ⟨bD, 0, none⟩), .pointer (some ⟨bE, 0, none⟩), .pointer (some ⟨bN, 0, none⟩)]), fun u _ => u = (.int .i64 ((l + 1 : Nat) : Int)), fun u _ => u = (.int .i64 (l : Nat)), fun u _ => u = (.int .u64 k), fun u _ => u = (.int .u64 ((2 * k : Nat) : Int)), fun u w' => ∃ g, u = .pointer (some ⟨g, 0, none⟩) ∧ PlaceIs els d l (2 * k) g w', fun u _ => u = (.func (.func 47) #[] #[.pointer (some ⟨bF, 0, none⟩), .pointer (some ⟨bD, 0, none⟩), .pointer (some ⟨bE, 0, none⟩), .pointer (some ⟨bN, 0, none⟩)]), fun u _ => u = (.int .i64 ((l + 1 : Nat) : Int)), fun u _ => u = (.int .i64 (l : Nat)), fun u _ => u = (.int .u64 k), fun u _ => u = (.int .u64 ((2 * k : Nat) : Int)), fun u _ => u = (.int .u64 ((2 * k + 1 : Nat) : Int)), fun u w' => ∃ g, u = .pointer (some ⟨g, 0, none⟩) ∧ PlaceIs els d l (2 * k + 1) g w', fun u w' => ∃ g, u = .pointer (some ⟨g, 0, none⟩) ∧ PlaceIs els d (l + 1) k g w']) rfl (by kernel_rfl) (by kernel_rfl) (mono_of ⟨mono_eq, mono_eq, mono_eq, mono_eq, mono_eq, ?m5, mono_eq, mono_eq, mono_eq, mono_eq, mono_eq, mono_eq, ?m12, ?m13, trivial⟩) (steps_of 14 ⟨?s0, ?s1, ?s2, ?s3, ?s4, ?s5, ?s6, ?s7, ?s8, ?s9, ?s10, ?s11, ?s12, ?s13, trivial⟩) ?_
  case m5 =>
    exact ⟨fun u w1 w' h ⟨b, h1, hb⟩ => ⟨b, h1, hb.ext h⟩, fun _ u w1 w' h ⟨b, h1, hb⟩ => ⟨b, h1, hb.extB h⟩⟩
  case m12 =>
    exact ⟨fun u w1 w' h ⟨b, h1, hb⟩ => ⟨b, h1, hb.ext h⟩, fun _ u w1 w' h ⟨b, h1, hb⟩ => ⟨b, h1, hb.extB h⟩⟩
  case m13 =>
    exact ⟨fun u w1 w' h ⟨b, h1, hb⟩ => ⟨b, h1, hb.ext h⟩, fun _ u w1 w' h ⟨b, h1, hb⟩ => ⟨b, h1, hb.extB h⟩⟩
  case s0 =>
    refine step_val (v := (.func (.func 47) #[] #[.pointer (some ⟨bF, 0, none⟩), .pointer (some ⟨bD, 0, none⟩), .pointer (some ⟨bE, 0, none⟩), .pointer (some ⟨bN, 0, none⟩)])) (fun av wv hE hS hO hD => ?_) (fun _ => rfl)
    have h2 : av.eval (.tmp 2) = (.pointer (some ⟨bF, 0, none⟩)) := hO.2.2 2 rfl
    have f2 := (ev_form av 2).symm.trans h2
    have cf := extB_cell hE (by simp) cf
    refine ⟨rfl, ?_⟩
    simp [go_sem, f2, cf, s1, m1, m2]
  case s1 =>
    refine step_val (v := (.int .i64 ((l + 1 : Nat) : Int))) (fun av wv hE hS hO hD => ?_) (fun _ => rfl)
    have h0 : av.eval (.tmp 0) = (.int .i64 ((l + 1 : Nat) : Int)) := hO.2.2 0 rfl
    have f0 := (ev_form av 0).symm.trans h0
    refine ⟨rfl, ?_⟩
    simp [go_sem, f0, s1, m1, m2]
  case s2 =>
    refine step_val (v := (.int .i64 (l : Nat))) (fun av wv hE hS hO hD => ?_) (fun _ => rfl)
    have d13 : av.eval (.tmp 13) = (.int .i64 ((l + 1 : Nat) : Int)) := hD.1 rfl _ rfl
    have f13 := (ev_form av 13).symm.trans d13
    refine ⟨rfl, ?_⟩
    simp [go_sem, f13, s1, m1, m2]
  case s3 =>
    refine step_val (v := (.int .u64 k)) (fun av wv hE hS hO hD => ?_) (fun _ => rfl)
    have h1 : av.eval (.tmp 1) = (.int .u64 k) := hO.2.2 1 rfl
    have f1 := (ev_form av 1).symm.trans h1
    refine ⟨rfl, ?_⟩
    simp [go_sem, f1, s1, m1, m2]
  case s4 =>
    refine step_val (v := (.int .u64 ((2 * k : Nat) : Int))) (fun av wv hE hS hO hD => ?_) (fun _ => rfl)
    have d15 : av.eval (.tmp 15) = (.int .u64 k) := hD.1 rfl _ rfl
    have f15 := (ev_form av 15).symm.trans d15
    refine ⟨rfl, ?_⟩
    simp [go_sem, f15, s1, m1, m2]
  case s5 =>
    refine step_wp (fun av wv hE hS hO hD => ?_)
    have d12 : av.eval (.tmp 12) = (.func (.func 47) #[] #[.pointer (some ⟨bF, 0, none⟩), .pointer (some ⟨bD, 0, none⟩), .pointer (some ⟨bE, 0, none⟩), .pointer (some ⟨bN, 0, none⟩)]) := hD.1 rfl _ rfl
    have f12 := (ev_form av 12).symm.trans d12
    have d14 : av.eval (.tmp 14) = (.int .i64 (l : Nat)) := hD.2.1 rfl _ rfl
    have f14 := (ev_form av 14).symm.trans d14
    have d16 : av.eval (.tmp 16) = (.int .u64 ((2 * k : Nat) : Int)) := hD.2.2.1 rfl _ rfl
    have f16 := (ev_form av 16).symm.trans d16
    refine ⟨rfl, ?_⟩
    refine wp_of_callV (R := fun u w2 => (∃ g, u = .pointer (some ⟨g, 0, none⟩) ∧ PlaceIs els d l (2 * k) g w2) ∧ Below wv.heap.size wv w2) (f := 47) (args := #[.int .i64 (l : Nat), .int .u64 ((2 * k : Nat) : Int), .pointer (some ⟨bF, 0, none⟩), .pointer (some ⟨bD, 0, none⟩), .pointer (some ⟨bE, 0, none⟩), .pointer (some ⟨bN, 0, none⟩)]) (by simp [go_sem, f12, f14, f16]) ((HR.out (2 * k) wv (of_drew hE) K1).mono (fun e w2 ⟨g, h1, h2, h3⟩ => ⟨_, h1, ⟨g, rfl, h2⟩, h3⟩)) (fun u w2 ⟨h1, h2⟩ => ⟨_, rfl, es_of_ext h2, h1⟩)
  case s6 =>
    refine step_val (v := (.func (.func 47) #[] #[.pointer (some ⟨bF, 0, none⟩), .pointer (some ⟨bD, 0, none⟩), .pointer (some ⟨bE, 0, none⟩), .pointer (some ⟨bN, 0, none⟩)])) (fun av wv hE hS hO hD => ?_) (fun _ => rfl)
    have h2 : av.eval (.tmp 2) = (.pointer (some ⟨bF, 0, none⟩)) := hO.2.2 2 rfl
    have f2 := (ev_form av 2).symm.trans h2
    have cf := extB_cell hE (by simp) cf
    refine ⟨rfl, ?_⟩
    simp [go_sem, f2, cf, s1, m1, m2]
  case s7 =>
    refine step_val (v := (.int .i64 ((l + 1 : Nat) : Int))) (fun av wv hE hS hO hD => ?_) (fun _ => rfl)
    have h0 : av.eval (.tmp 0) = (.int .i64 ((l + 1 : Nat) : Int)) := hO.2.2 0 rfl
    have f0 := (ev_form av 0).symm.trans h0
    refine ⟨rfl, ?_⟩
    simp [go_sem, f0, s1, m1, m2]
  case s8 =>
    refine step_val (v := (.int .i64 (l : Nat))) (fun av wv hE hS hO hD => ?_) (fun _ => rfl)
    have d19 : av.eval (.tmp 19) = (.int .i64 ((l + 1 : Nat) : Int)) := hD.1 rfl _ rfl
    have f19 := (ev_form av 19).symm.trans d19
    refine ⟨rfl, ?_⟩
    simp [go_sem, f19, s1, m1, m2]
  case s9 =>
    refine step_val (v := (.int .u64 k)) (fun av wv hE hS hO hD => ?_) (fun _ => rfl)
    have h1 : av.eval (.tmp 1) = (.int .u64 k) := hO.2.2 1 rfl
    have f1 := (ev_form av 1).symm.trans h1
    refine ⟨rfl, ?_⟩
    simp [go_sem, f1, s1, m1, m2]
  case s10 =>
    refine step_val (v := (.int .u64 ((2 * k : Nat) : Int))) (fun av wv hE hS hO hD => ?_) (fun _ => rfl)
    have d21 : av.eval (.tmp 21) = (.int .u64 k) := hD.1 rfl _ rfl
    have f21 := (ev_form av 21).symm.trans d21
    refine ⟨rfl, ?_⟩
    simp [go_sem, f21, s1, m1, m2]
  case s11 =>
    refine step_val (v := (.int .u64 ((2 * k + 1 : Nat) : Int))) (fun av wv hE hS hO hD => ?_) (fun _ => rfl)
    have d22 : av.eval (.tmp 22) = (.int .u64 ((2 * k : Nat) : Int)) := hD.1 rfl _ rfl
    have f22 := (ev_form av 22).symm.trans d22
    refine ⟨rfl, ?_⟩
    simp [go_sem, f22, s1, m1, m2]
  case s12 =>
    refine step_wp (fun av wv hE hS hO hD => ?_)
    have d18 : av.eval (.tmp 18) = (.func (.func 47) #[] #[.pointer (some ⟨bF, 0, none⟩), .pointer (some ⟨bD, 0, none⟩), .pointer (some ⟨bE, 0, none⟩), .pointer (some ⟨bN, 0, none⟩)]) := hD.1 rfl _ rfl
    have f18 := (ev_form av 18).symm.trans d18
    have d20 : av.eval (.tmp 20) = (.int .i64 (l : Nat)) := hD.2.1 rfl _ rfl
    have f20 := (ev_form av 20).symm.trans d20
    have d23 : av.eval (.tmp 23) = (.int .u64 ((2 * k + 1 : Nat) : Int)) := hD.2.2.1 rfl _ rfl
    have f23 := (ev_form av 23).symm.trans d23
    refine ⟨rfl, ?_⟩
    refine wp_of_callV (R := fun u w2 => (∃ g, u = .pointer (some ⟨g, 0, none⟩) ∧ PlaceIs els d l (2 * k + 1) g w2) ∧ Below wv.heap.size wv w2) (f := 47) (args := #[.int .i64 (l : Nat), .int .u64 ((2 * k + 1 : Nat) : Int), .pointer (some ⟨bF, 0, none⟩), .pointer (some ⟨bD, 0, none⟩), .pointer (some ⟨bE, 0, none⟩), .pointer (some ⟨bN, 0, none⟩)]) (by simp [go_sem, f18, f20, f23]) ((HR.out (2 * k + 1) wv (of_drew hE) K2).mono (fun e w2 ⟨g, h1, h2, h3⟩ => ⟨_, h1, ⟨g, rfl, h2⟩, h3⟩)) (fun u w2 ⟨h1, h2⟩ => ⟨_, rfl, es_of_ext h2, h1⟩)
  case s13 =>
    refine step_wp (fun av wv hE hS hO hD => ?_)
    have d17 : (fun u w' => ∃ g, u = .pointer (some ⟨g, 0, none⟩) ∧ PlaceIs els d l (2 * k) g w') (av.eval (.tmp 17)) wv := hD.1 rfl _ rfl
    have d24 : (fun u w' => ∃ g, u = .pointer (some ⟨g, 0, none⟩) ∧ PlaceIs els d l (2 * k + 1) g w') (av.eval (.tmp 24)) wv := hD.2.1 rfl _ rfl
    refine ⟨rfl, ?_⟩
    obtain ⟨g0, h17, hg0⟩ := d17
    obtain ⟨g1, h24, hg1⟩ := d24
    have f17 := (ev_form av 17).symm.trans h17
    have f24 := (ev_form av 24).symm.trans h24
    refine wp_of_callV (R := fun u w2 => ∃ g, u = .pointer (some ⟨g, 0, none⟩) ∧ NodeAt g (plD els d (l + 1) k) (some ⟨g0, 0, none⟩) (some ⟨g1, 0, none⟩) w2 ∧ Below wv.heap.size wv w2) (f := 48) (args := #[.pointer (some ⟨g0, 0, none⟩), .pointer (some ⟨g1, 0, none⟩)]) (by simp [go_sem, f17, f24]) ((over_any g0 g1 (plD els d l (2 * k)) (plD els d l (2 * k + 1)) wv hg0.digest hg1.digest ⟨by rw [plD_size]; decide, by rw [plD_size]; decide⟩).mono (fun e w2 ⟨g, h1, _, h2, h3⟩ => ⟨_, h1, g, rfl, h2, h3⟩)) (fun u w2 ⟨g, h1, h2, h3⟩ => ⟨_, rfl, es_of_ext h3, g, h1, g0, g1, h2, hg0.below h3, hg1.below h3⟩)
  intro a' w' hE hO hall
  have hA := act_of_outer (ds := [12, 13, 14, 15, 16, 17, 18, 19, 20, 21, 22, 23, 24, 25]) rfl hO (by kernel_rfl)
  have e12 : (fun u _ => u = (.func (.func 47) #[] #[.pointer (some ⟨bF, 0, none⟩), .pointer (some ⟨bD, 0, none⟩), .pointer (some ⟨bE, 0, none⟩), .pointer (some ⟨bN, 0, none⟩)])) (a'.eval (.tmp 12)) w' := hall.1 _ rfl
  have e13 : (fun u _ => u = (.int .i64 ((l + 1 : Nat) : Int))) (a'.eval (.tmp 13)) w' := hall.2.1 _ rfl
  have e14 : (fun u _ => u = (.int .i64 (l : Nat))) (a'.eval (.tmp 14)) w' := hall.2.2.1 _ rfl
  have e15 : (fun u _ => u = (.int .u64 k)) (a'.eval (.tmp 15)) w' := hall.2.2.2.1 _ rfl
  have e16 : (fun u _ => u = (.int .u64 ((2 * k : Nat) : Int))) (a'.eval (.tmp 16)) w' := hall.2.2.2.2.1 _ rfl
  have e17 : (fun u w' => ∃ g, u = .pointer (some ⟨g, 0, none⟩) ∧ PlaceIs els d l (2 * k) g w') (a'.eval (.tmp 17)) w' := hall.2.2.2.2.2.1 _ rfl
  have e18 : (fun u _ => u = (.func (.func 47) #[] #[.pointer (some ⟨bF, 0, none⟩), .pointer (some ⟨bD, 0, none⟩), .pointer (some ⟨bE, 0, none⟩), .pointer (some ⟨bN, 0, none⟩)])) (a'.eval (.tmp 18)) w' := hall.2.2.2.2.2.2.1 _ rfl
  have e19 : (fun u _ => u = (.int .i64 ((l + 1 : Nat) : Int))) (a'.eval (.tmp 19)) w' := hall.2.2.2.2.2.2.2.1 _ rfl
  have e20 : (fun u _ => u = (.int .i64 (l : Nat))) (a'.eval (.tmp 20)) w' := hall.2.2.2.2.2.2.2.2.1 _ rfl
  have e21 : (fun u _ => u = (.int .u64 k)) (a'.eval (.tmp 21)) w' := hall.2.2.2.2.2.2.2.2.2.1 _ rfl
  have e22 : (fun u _ => u = (.int .u64 ((2 * k : Nat) : Int))) (a'.eval (.tmp 22)) w' := hall.2.2.2.2.2.2.2.2.2.2.1 _ rfl
  have e23 : (fun u _ => u = (.int .u64 ((2 * k + 1 : Nat) : Int))) (a'.eval (.tmp 23)) w' := hall.2.2.2.2.2.2.2.2.2.2.2.1 _ rfl
  have e24 : (fun u w' => ∃ g, u = .pointer (some ⟨g, 0, none⟩) ∧ PlaceIs els d l (2 * k + 1) g w') (a'.eval (.tmp 24)) w' := hall.2.2.2.2.2.2.2.2.2.2.2.2.1 _ rfl
  have e25 : (fun u w' => ∃ g, u = .pointer (some ⟨g, 0, none⟩) ∧ PlaceIs els d (l + 1) k g w') (a'.eval (.tmp 25)) w' := hall.2.2.2.2.2.2.2.2.2.2.2.2.2.1 _ rfl
  obtain ⟨v17, hv17⟩ : ∃ v, a'.eval (.tmp 17) = v := ⟨_, rfl⟩
  rw [hv17] at e17
  obtain ⟨v24, hv24⟩ : ∃ v, a'.eval (.tmp 24) = v := ⟨_, rfl⟩
  rw [hv24] at e24
  obtain ⟨v25, hv25⟩ : ∃ v, a'.eval (.tmp 25) = v := ⟨_, rfl⟩
  rw [hv25] at e25
  simp only [List.foldl_cons, List.foldl_nil, Act.put, List.setIfInBounds_toArray, List.set_cons_succ, List.set_cons_zero, e12, e13, e14, e15, e16, hv17, e18, e19, e20, e21, e22, e23, hv24, hv25] at hA
  clear hO hall e12 e13 e14 e15 e16 hv17 e18 e19 e20 e21 e22 e23 hv24 hv25
  subst hA
  obtain ⟨g, rfl, hg⟩ := e25
  have HG := Lib.hid hg
  have HW : Hid (Below w.heap.size w w') := Lib.hid (of_drew hE)
  clear hg hE e17 e24
  go_wp2
  go_ret
  exact ⟨g, rfl, HG.out, HW.out⟩
theorem at_any (els : List ByteArray) (d bF bD bE bN nb : Nat) (a : Option Addr) (cap : Nat) (hd : d ≤ 16) (hn : len els ≤ 65536) (hz : ∀ i, i < len els → (tth els i).size ≤ 140737488355200) :
    ∀ (l k : Nat) (w : World), l ≤ d → k < 2 ^ (d - l) → EnvT els d bF bD bE bN nb a cap w →
    Calls Try.prog 47 #[.int .i64 (l : Nat), .int .u64 k, .pointer (some ⟨bF, 0, none⟩), .pointer (some ⟨bD, 0, none⟩), .pointer (some ⟨bE, 0, none⟩), .pointer (some ⟨bN, 0, none⟩)] w (AtIs els d l k w)
  | 0, k, w, _, hk, h => at_zero els d bF bD bE bN nb a cap k w hd (by simpa using hk) hn hz h
  | l + 1, k, w, hl, hk, h => by
    have h2 : 2 ^ (d - (l + 1)) ≤ 65536 := Nat.le_trans (Nat.pow_le_pow_right (by decide) (show d - (l + 1) ≤ 16 by omega)) (by decide)
    refine at_step els d bF bD bE bN nb a cap l k w (by omega) (by omega) h fun k' wv hb hk' => ?_
    refine at_any els d bF bD bE bN nb a cap hd hn hz l k' wv (by omega) ?_ (h.below hb)
    have : 2 ^ (d - l) = 2 * 2 ^ (d - (l + 1)) := by rw [show d - l = (d - (l + 1)) + 1 by omega, Nat.pow_succ]; omega
    rcases hk' with rfl | rfl <;> omega
end Go.Proofs.Ytloccahcnikbfaa
namespace Go.Proofs.Ytloccahcnikbfaa
open Go.RowKit
set_option linter.unusedSimpArgs false
set_option linter.unusedVariables false
def depN (els : List ByteArray) : Nat := Lib.bitLen (len els - 1)
theorem depN_le {els : List ByteArray} (h : len els ≤ 65536) : depN els ≤ 16 := (depth_bd (len els) h).1
theorem depthZ_len {els : List ByteArray} (h : len els ≤ 65536) : depthZ (len els : Nat) = ((depN els : Nat) : Int) := by
  unfold depthZ depN
  rw [if_neg (by omega), Int.toNat_natCast]
def TreeAt (els : List ByteArray) (b : Nat) (w : World) : Prop := ∃ p, w.heap[b]? = some (.cells #[.pointer (some ⟨p, 0, none⟩), .int .i64 (depN els : Nat), .int .i64 (len els : Nat)] 80 (0, 0)) ∧ PlaceIs els (depN els) (depN els) 0 p w
theorem TreeAt.below {els : List ByteArray} {b : Nat} {w w' : World} (h : TreeAt els b w) (hb : Below w.heap.size w w') : TreeAt els b w' := by
  obtain ⟨p, h1, h2⟩ := h
  exact ⟨p, (hb.block _ (lt_of_block h1)).trans h1, h2.below hb⟩
def BuildIs (els : List ByteArray) (w : World) (e : Ending) (w' : World) : Prop := ∃ b, e = .returned (.tuple #[.pointer (some ⟨b, 0, none⟩), .int .i64 0]) ∧ w.heap.size ≤ b ∧ TreeAt els b w' ∧ Below w.heap.size w w'
set_option maxRecDepth 100000 in
set_option maxHeartbeats 4000000 in
theorem build_any (els : List ByteArray) (a : Option Addr) (cap : Nat) (w : World) (ht : Txts w a els) (hn : len els ≤ 65536) (hz : ∀ i, i < len els → (tth els i).size ≤ 140737488355200) :
    Calls Try.prog 20 #[.slice a (len els) cap] w (BuildIs els w) := by
  have HT := Lib.hid ht
  have HN := Lib.hid hn
  have HZ := Lib.hid hz
  obtain ⟨d, hd⟩ : ∃ d, depN els = d := ⟨_, rfl⟩
  have HDD := Lib.hid hd
  have HD16 : Hid (d ≤ 16) := Lib.hid (by rw [← hd]; exact depN_le hn)
  have HDZ : Hid (depthZ (len els : Nat) = ((d : Nat) : Int)) := Lib.hid (by rw [← hd]; exact depthZ_len hn)
  have n1 : ¬ (65536 : Int) < (len els : Nat) := by omega
  clear ht hz hd
  go_enter Try.func20, Try.ntmps20
  go_wp2_with fail
  refine (depth_any (len els : Nat) _ (by omega) (by omega)).mono ?_
  rintro e w1 ⟨rfl, rfl⟩
  rw [HDZ.out]
  clear n1 hn
  go_wp2_with fail
  obtain ⟨bE, hbE⟩ : ∃ bE, w.heap.size = bE := ⟨_, rfl⟩
  obtain ⟨bD, hbD⟩ : ∃ bD, w.heap.size + 1 = bD := ⟨_, rfl⟩
  rw [hbD, hbE]
  obtain ⟨V, hV⟩ : ∃ V, (w.alloc (.cells #[.slice a (len els) cap] 23)).alloc (.cells #[.int .i64 (d : Nat)] 3) = V := ⟨_, rfl⟩
  rw [hV]
  have HVE : Hid (V.heap[bE]? = some (.cells #[.slice a (len els) cap] 23 (0, 0))) := Lib.hid (by rw [← hV]; exact block_alloc (alloc_new_at _ hbE) _)
  have HVD : Hid (V.heap[bD]? = some (.cells #[.int .i64 (d : Nat)] 3 (0, 0))) := Lib.hid (by rw [← hV]; exact alloc_new_at _ (by rw [alloc_size _ rfl]; exact hbD))
  have HVW : Hid (Below w.heap.size w V) := Lib.hid (by rw [← hV]; exact balloc (balloc (Below.refl _ _) _) _)
  clear hV hbE hbD
  refine (hash_any noneT [] none 0 V (by decide) (by decide) (Txts.nil _ _) (by decide)).mono ?_
  rintro e w2 ⟨rfl, hb2⟩
  have H2E : Hid (w2.heap[bE]? = some (.cells #[.slice a (len els) cap] 23 (0, 0))) := Lib.hid ((hb2.block _ (lt_of_block HVE.out)).trans HVE.out)
  have H2D : Hid (w2.heap[bD]? = some (.cells #[.int .i64 (d : Nat)] 3 (0, 0))) := Lib.hid ((hb2.block _ (lt_of_block HVD.out)).trans HVD.out)
  have H2W : Hid (Below w.heap.size w w2) := Lib.hid (bnext HVW.out hb2)
  obtain ⟨Hn, hHn⟩ : ∃ Hn, hashP noneT [] = Hn := ⟨_, rfl⟩
  rw [hHn]
  have HHN := Lib.hid hHn
  clear hb2 hHn HVE HVD HVW
  go_upto_region 7 with fail
  obtain ⟨nb, hnb⟩ : ∃ nb, w2.heap.size = nb := ⟨_, rfl⟩
  obtain ⟨bN, hbN⟩ : ∃ bN, w2.heap.size + 1 = bN := ⟨_, rfl⟩
  obtain ⟨bF, hbF⟩ : ∃ bF, w2.heap.size + 1 + 1 = bF := ⟨_, rfl⟩
  rw [hbF, hbN, hnb]
  obtain ⟨U, hU⟩ : ∃ U, (((w2.alloc (.cells #[.string Hn, .pointer none, .pointer none] 75)).alloc (.cells #[.pointer (some ⟨nb, 0, none⟩)] 72)).alloc (.cells #[.func (.func 47) #[] #[.pointer (some ⟨bF, 0, none⟩), .pointer (some ⟨bD, 0, none⟩), .pointer (some ⟨bE, 0, none⟩), .pointer (some ⟨bN, 0, none⟩)]] 76)) = U := ⟨_, rfl⟩
  rw [hU]
  have HEN : Hid (EnvT els d bF bD bE bN nb a cap U) := Lib.hid (by
    have hbw : Below w.heap.size w U := by rw [← hU]; exact balloc (balloc (balloc H2W.out _) _) _
    refine ⟨?_, ?_, ?_, ?_, ?_, HT.out.below hbw⟩
    · rw [← hU]; exact alloc_new_at _ (by rw [alloc_size _ (alloc_size _ rfl)]; exact hbF)
    · rw [← hU]; exact block_alloc (block_alloc (block_alloc H2D.out _) _) _
    · rw [← hU]; exact block_alloc (block_alloc (block_alloc H2E.out _) _) _
    · rw [← hU]; exact block_alloc (alloc_new_at _ (by rw [alloc_size _ rfl]; exact hbN)) _
    · rw [← hU, HHN.out]; exact block_alloc (block_alloc (alloc_new_at _ hnb) _) _)
  have HUW : Hid (Below w.heap.size w U) := Lib.hid (by rw [← hU]; exact balloc (balloc (balloc H2W.out _) _) _)
  have HVS : Hid (w.heap.size ≤ U.heap.size) := Lib.hid HUW.out.size
  have HA : Hid (∀ wv : World, Below U.heap.size U wv → Calls Try.prog 47 #[.int .i64 (d : Nat), .int .u64 0, .pointer (some ⟨bF, 0, none⟩), .pointer (some ⟨bD, 0, none⟩), .pointer (some ⟨bE, 0, none⟩), .pointer (some ⟨bN, 0, none⟩)] wv (AtIs els d d 0 wv)) := Lib.hid (fun wv hb => at_any els d bF bD bE bN nb a cap HD16.out HN.out HZ.out d 0 wv (Nat.le_refl _) (Nat.two_pow_pos _) (HEN.out.below hb))
  have cf : U.cell? ⟨bF, 0, none⟩ = some (.func (.func 47) #[] #[.pointer (some ⟨bF, 0, none⟩), .pointer (some ⟨bD, 0, none⟩), .pointer (some ⟨bE, 0, none⟩), .pointer (some ⟨bN, 0, none⟩)]) := by rw [block_cell HEN.out.f]; rfl
  have cd : U.cell? ⟨bD, 0, none⟩ = some (.int .i64 (d : Nat)) := by rw [block_cell HEN.out.d]; rfl
  have ce : U.cell? ⟨bE, 0, none⟩ = some (.slice a (len els) cap) := by rw [block_cell HEN.out.e]; rfl
  clear hU hnb hbN hbF H2D H2E H2W
  refine wp_region_tail 8 1000 (none) (phis [fun u _ => u = (.func (.func 47) #[] #[.pointer (some ⟨bF, 0, none⟩), .pointer (some ⟨bD, 0, none⟩), .pointer (some ⟨bE, 0, none⟩), .pointer (some ⟨bN, 0, none⟩)]), fun u _ => u = (.int .i64 (d : Nat)), fun u w' => ∃ g, u = .pointer (some ⟨g, 0, none⟩) ∧ PlaceIs els d d 0 g w', fun u _ => u = (.int .i64 (d : Nat)), fun u _ => u = (.slice a (len els) cap), fun u _ => u = (.int .i64 (len els)), fun u w' => ∃ g, u = .agg #[.pointer (some ⟨g, 0, none⟩), .int .i64 (d : Nat), .int .i64 (len els)] ∧ PlaceIs els d d 0 g w', fun u w' => ∃ b, u = .pointer (some ⟨b, 0, none⟩) ∧ w.heap.size ≤ b ∧ TreeAt els b w']) rfl (by kernel_rfl) (by kernel_rfl) (mono_of ⟨mono_eq, mono_eq, ?m2, mono_eq, mono_eq, mono_eq, ?m6, ?m7, trivial⟩) (steps_of 8 ⟨?s0, ?s1, ?s2, ?s3, ?s4, ?s5, ?s6, ?s7, trivial⟩) ?_
  case m2 =>
    exact ⟨fun u w1 w' h ⟨b, h1, hb⟩ => ⟨b, h1, hb.ext h⟩, fun _ u w1 w' h ⟨b, h1, hb⟩ => ⟨b, h1, hb.extB h⟩⟩
  case m6 =>
    exact ⟨fun u w1 w' h ⟨b, h1, hb⟩ => ⟨b, h1, hb.ext h⟩, fun _ u w1 w' h ⟨b, h1, hb⟩ => ⟨b, h1, hb.extB h⟩⟩
  case m7 =>
    exact ⟨fun u w1 w' h ⟨b, h1, h2, hb⟩ => ⟨b, h1, h2, hb.below h⟩, fun _ u w1 w' h ⟨b, h1, h2, hb⟩ => ⟨b, h1, h2, hb.below (extB_none h)⟩⟩
  case s0 =>
    refine step_val (v := (.func (.func 47) #[] #[.pointer (some ⟨bF, 0, none⟩), .pointer (some ⟨bD, 0, none⟩), .pointer (some ⟨bE, 0, none⟩), .pointer (some ⟨bN, 0, none⟩)])) (fun av wv hE hS hO hD => ?_) (fun _ => rfl)
    have h6 : av.eval (.tmp 6) = (.pointer (some ⟨bF, 0, none⟩)) := hO.2.2 6 rfl
    have f6 := (ev_form av 6).symm.trans h6
    have cf := extB_cell hE (by simp) cf
    have cd := extB_cell hE (by simp) cd
    have ce := extB_cell hE (by simp) ce
    refine ⟨rfl, ?_⟩
    simp [go_sem, f6, cf, cd, ce]
  case s1 =>
    refine step_val (v := (.int .i64 (d : Nat))) (fun av wv hE hS hO hD => ?_) (fun _ => rfl)
    have h4 : av.eval (.tmp 4) = (.pointer (some ⟨bD, 0, none⟩)) := hO.2.2 4 rfl
    have f4 := (ev_form av 4).symm.trans h4
    have cf := extB_cell hE (by simp) cf
    have cd := extB_cell hE (by simp) cd
    have ce := extB_cell hE (by simp) ce
    refine ⟨rfl, ?_⟩
    simp [go_sem, f4, cf, cd, ce]
  case s2 =>
    refine step_wp (fun av wv hE hS hO hD => ?_)
    have d17 : av.eval (.tmp 17) = (.func (.func 47) #[] #[.pointer (some ⟨bF, 0, none⟩), .pointer (some ⟨bD, 0, none⟩), .pointer (some ⟨bE, 0, none⟩), .pointer (some ⟨bN, 0, none⟩)]) := hD.1 rfl _ rfl
    have f17 := (ev_form av 17).symm.trans d17
    have d18 : av.eval (.tmp 18) = (.int .i64 (d : Nat)) := hD.2.1 rfl _ rfl
    have f18 := (ev_form av 18).symm.trans d18
    refine ⟨rfl, ?_⟩
    refine wp_of_callV (R := fun u w2 => (∃ g, u = .pointer (some ⟨g, 0, none⟩) ∧ PlaceIs els d d 0 g w2) ∧ Below wv.heap.size wv w2) (f := 47) (args := #[.int .i64 (d : Nat), .int .u64 0, .pointer (some ⟨bF, 0, none⟩), .pointer (some ⟨bD, 0, none⟩), .pointer (some ⟨bE, 0, none⟩), .pointer (some ⟨bN, 0, none⟩)]) (by simp [go_sem, f17, f18]) ((HA.out wv (of_drew hE)).mono (fun e w2 ⟨g, h1, h2, h3⟩ => ⟨_, h1, ⟨g, rfl, h2⟩, h3⟩)) (fun u w2 ⟨h1, h2⟩ => ⟨_, rfl, es_of_ext h2, h1⟩)
  case s3 =>
    refine step_val (v := (.int .i64 (d : Nat))) (fun av wv hE hS hO hD => ?_) (fun _ => rfl)
    have h4 : av.eval (.tmp 4) = (.pointer (some ⟨bD, 0, none⟩)) := hO.2.2 4 rfl
    have f4 := (ev_form av 4).symm.trans h4
    have cf := extB_cell hE (by simp) cf
    have cd := extB_cell hE (by simp) cd
    have ce := extB_cell hE (by simp) ce
    refine ⟨rfl, ?_⟩
    simp [go_sem, f4, cf, cd, ce]
  case s4 =>
    refine step_val (v := (.slice a (len els) cap)) (fun av wv hE hS hO hD => ?_) (fun _ => rfl)
    have h1 : av.eval (.tmp 1) = (.pointer (some ⟨bE, 0, none⟩)) := hO.2.2 1 rfl
    have f1 := (ev_form av 1).symm.trans h1
    have cf := extB_cell hE (by simp) cf
    have cd := extB_cell hE (by simp) cd
    have ce := extB_cell hE (by simp) ce
    refine ⟨rfl, ?_⟩
    simp [go_sem, f1, cf, cd, ce]
  case s5 =>
    refine step_val (v := (.int .i64 (len els))) (fun av wv hE hS hO hD => ?_) (fun _ => rfl)
    have d21 : av.eval (.tmp 21) = (.slice a (len els) cap) := hD.1 rfl _ rfl
    have f21 := (ev_form av 21).symm.trans d21
    refine ⟨rfl, ?_⟩
    simp [go_sem, f21]
  case s6 =>
    refine step_wp (fun av wv hE hS hO hD => ?_)
    have d19 : (fun u w' => ∃ g, u = .pointer (some ⟨g, 0, none⟩) ∧ PlaceIs els d d 0 g w') (av.eval (.tmp 19)) wv := hD.1 rfl _ rfl
    have d20 : av.eval (.tmp 20) = (.int .i64 (d : Nat)) := hD.2.1 rfl _ rfl
    have f20 := (ev_form av 20).symm.trans d20
    have d22 : av.eval (.tmp 22) = (.int .i64 (len els)) := hD.2.2.1 rfl _ rfl
    have f22 := (ev_form av 22).symm.trans d22
    refine ⟨rfl, ?_⟩
    obtain ⟨g, h19, hg⟩ := d19
    have f19 := (ev_form av 19).symm.trans h19
    exact wp_of_run (v := .agg #[.pointer (some ⟨g, 0, none⟩), .int .i64 (d : Nat), .int .i64 (len els)]) (by simp [go_sem, f19, f20, f22]) ⟨_, rfl, es_of_ext (Ext_refl _), g, rfl, hg⟩
  case s7 =>
    refine step_wp (fun av wv hE hS hO hD => ?_)
    have d23 : (fun u w' => ∃ g, u = .agg #[.pointer (some ⟨g, 0, none⟩), .int .i64 (d : Nat), .int .i64 (len els)] ∧ PlaceIs els d d 0 g w') (av.eval (.tmp 23)) wv := hD.1 rfl _ rfl
    refine ⟨rfl, ?_⟩
    obtain ⟨g, h23, hg⟩ := d23
    have f23 := (ev_form av 23).symm.trans h23
    refine wp_of_run (v := .pointer (some ⟨wv.heap.size, 0, none⟩)) (w' := wv.alloc (.cells #[.pointer (some ⟨g, 0, none⟩), .int .i64 (d : Nat), .int .i64 (len els)] 80)) (by simp [go_sem, f23]) ⟨_, rfl, es_of_ext (balloc (Ext_refl _) _), wv.heap.size, rfl, (by have := hE.size; have := HVS.out; simp at *; omega), g, ?_, ?_⟩
    · rw [HDD.out]; exact heap_alloc_new _ _
    · rw [HDD.out]; exact hg.below (balloc (Below.refl _ _) _)
  intro a' w' hE hO hall
  have hA := act_of_outer (ds := [17, 18, 19, 20, 21, 22, 23, 24]) rfl hO (by kernel_rfl)
  have e17 : (fun u _ => u = (.func (.func 47) #[] #[.pointer (some ⟨bF, 0, none⟩), .pointer (some ⟨bD, 0, none⟩), .pointer (some ⟨bE, 0, none⟩), .pointer (some ⟨bN, 0, none⟩)])) (a'.eval (.tmp 17)) w' := hall.1 _ rfl
  have e18 : (fun u _ => u = (.int .i64 (d : Nat))) (a'.eval (.tmp 18)) w' := hall.2.1 _ rfl
  have e19 : (fun u w' => ∃ g, u = .pointer (some ⟨g, 0, none⟩) ∧ PlaceIs els d d 0 g w') (a'.eval (.tmp 19)) w' := hall.2.2.1 _ rfl
  have e20 : (fun u _ => u = (.int .i64 (d : Nat))) (a'.eval (.tmp 20)) w' := hall.2.2.2.1 _ rfl
  have e21 : (fun u _ => u = (.slice a (len els) cap)) (a'.eval (.tmp 21)) w' := hall.2.2.2.2.1 _ rfl
  have e22 : (fun u _ => u = (.int .i64 (len els))) (a'.eval (.tmp 22)) w' := hall.2.2.2.2.2.1 _ rfl
  have e23 : (fun u w' => ∃ g, u = .agg #[.pointer (some ⟨g, 0, none⟩), .int .i64 (d : Nat), .int .i64 (len els)] ∧ PlaceIs els d d 0 g w') (a'.eval (.tmp 23)) w' := hall.2.2.2.2.2.2.1 _ rfl
  have e24 : (fun u w' => ∃ b, u = .pointer (some ⟨b, 0, none⟩) ∧ w.heap.size ≤ b ∧ TreeAt els b w') (a'.eval (.tmp 24)) w' := hall.2.2.2.2.2.2.2.1 _ rfl
  obtain ⟨v19, hv19⟩ : ∃ v, a'.eval (.tmp 19) = v := ⟨_, rfl⟩
  rw [hv19] at e19
  obtain ⟨v23, hv23⟩ : ∃ v, a'.eval (.tmp 23) = v := ⟨_, rfl⟩
  rw [hv23] at e23
  obtain ⟨v24, hv24⟩ : ∃ v, a'.eval (.tmp 24) = v := ⟨_, rfl⟩
  rw [hv24] at e24
  simp only [List.foldl_cons, List.foldl_nil, Act.put, List.setIfInBounds_toArray, List.set_cons_succ, List.set_cons_zero, e17, e18, hv19, e20, e21, e22, hv23, hv24] at hA
  clear hO hall e17 e18 hv19 e20 e21 e22 hv23 hv24
  subst hA
  obtain ⟨g, rfl, hg, ht⟩ := e24
  have HG : Hid (w.heap.size ≤ g) := Lib.hid hg
  have HT2 := Lib.hid ht
  have HW : Hid (Below w.heap.size w w') := Lib.hid (bnext HUW.out (of_drew hE))
  clear hg ht hE e19 e23
  go_wp2
  go_ret2
  exact ⟨g, rfl, HG.out, HT2.out, HW.out⟩
theorem root_any (els : List ByteArray) (b : Nat) (w : World) (h : TreeAt els b w) : Calls Try.prog 28 #[.pointer (some ⟨b, 0, none⟩)] w fun e w' => e = .returned (.string (plD els (depN els) (depN els) 0)) ∧ w = w' := by
  obtain ⟨p, h1, h2⟩ := h
  have c0 : w.cell? ⟨b, 0, none⟩ = some (.pointer (some ⟨p, 0, none⟩)) := by rw [block_cell h1]; rfl
  have c1 := h2.digest
  clear h1 h2
  go_enter Try.func28, Try.ntmps28
  go_wp2
  go_ret
  exact ⟨rfl, rfl⟩
theorem tdepth_any (els : List ByteArray) (b : Nat) (w : World) (h : TreeAt els b w) : Calls Try.prog 23 #[.pointer (some ⟨b, 0, none⟩)] w fun e w' => e = .returned (.int .i64 (depN els : Nat)) ∧ w = w' := by
  obtain ⟨p, h1, h2⟩ := h
  have c0 : w.cell? ⟨b, 1, none⟩ = some (.int .i64 (depN els : Nat)) := by rw [block_cell h1]; rfl
  clear h1 h2
  go_enter Try.func23, Try.ntmps23
  go_wp2
  go_ret
  exact ⟨rfl, rfl⟩
theorem tlen_any (els : List ByteArray) (b : Nat) (w : World) (h : TreeAt els b w) : Calls Try.prog 52 #[.pointer (some ⟨b, 0, none⟩)] w fun e w' => e = .returned (.int .i64 (len els : Nat)) ∧ w = w' := by
  obtain ⟨p, h1, h2⟩ := h
  have c0 : w.cell? ⟨b, 2, none⟩ = some (.int .i64 (len els : Nat)) := by rw [block_cell h1]; rfl
  clear h1 h2
  go_enter Try.func52, Try.ntmps52
  go_wp2
  go_ret
  exact ⟨rfl, rfl⟩
end Go.Proofs.Ytloccahcnikbfaa
namespace Go.Proofs.Ytloccahcnikbfaa
open Go.RowKit
set_option linter.unusedSimpArgs false
set_option linter.unusedVariables false
theorem mem_flatFrom : ∀ (s : Nat) (rs : List (List Int)) (x : Int × Int), x ∈ flatFrom s rs → ∃ j, j < rs.length ∧ ∃ k ∈ rnth rs j, x = (((s + j : Nat) : Int), k)
  | _, [], x, h => by simp [flatFrom] at h
  | s, r :: rs, x, h => by
    rw [flatFrom, List.mem_append] at h
    rcases h with h | h
    · obtain ⟨k, hk, rfl⟩ := List.mem_map.1 h
      exact ⟨0, by simp, k, by simpa [rnth] using hk, rfl⟩
    · obtain ⟨j, hj, k, hk, rfl⟩ := mem_flatFrom (s + 1) rs x h
      refine ⟨j + 1, by simp; omega, k, by simpa [rnth] using hk, ?_⟩
      rw [show s + 1 + j = s + (j + 1) by omega]
theorem sib_bd {k : Int} {e : Nat} (h0 : 0 ≤ k) (h1 : k < 2 ^ (e + 1)) : 0 ≤ sib k ∧ sib k < 2 ^ (e + 1) := by
  have h2 : (2 : Int) ^ (e + 1) = 2 * 2 ^ e := by rw [Int.pow_succ]; omega
  rw [h2] at h1 ⊢
  generalize (2 : Int) ^ e = p at h1 ⊢
  unfold sib
  split <;> omega
theorem half_bd {y : Int} {d i : Nat} (h0 : 0 ≤ y) (h1 : y < 2 ^ d) (hi : i ≤ d) : 0 ≤ y / 2 ^ i ∧ y / 2 ^ i < 2 ^ (d - i) := by
  obtain ⟨n, rfl⟩ := Int.eq_ofNat_of_zero_le h0
  rw [pow_cast] at h1
  have h3 : n < 2 ^ d := by exact_mod_cast h1
  have h4 : n / 2 ^ i < 2 ^ (d - i) := by
    apply Nat.div_lt_of_lt_mul
    rw [← Nat.pow_add, show i + (d - i) = d by omega]
    exact h3
  rw [pow_cast, pow_cast]
  constructor
  · exact Int.ediv_nonneg h0 (Int.natCast_nonneg _)
  · exact_mod_cast h4
theorem plc_bd {leaves : List Int} {d : Nat} (hd : d ≤ 16) (h : ∀ y ∈ leaves, 0 ≤ y ∧ y < 2 ^ d) : ∀ x ∈ flatLv (needsL leaves (d : Nat)), ∃ i k : Nat, x = ((i : Int), (k : Int)) ∧ i < d ∧ k < 2 ^ (d - i) := by
  intro x hx
  obtain ⟨i, hi, k, hk, rfl⟩ := mem_flatFrom 0 _ x hx
  unfold needsL at hi hk
  split at hi
  · rename_i hc
    rw [if_pos hc, Int.toNat_natCast] at hk
    rw [Int.toNat_natCast] at hi
    unfold rowsOf at hi hk
    rw [List.length_map, List.length_range] at hi
    rw [rnth_eq _ i (by simpa using hi)] at hk
    simp only [List.getElem_map, List.getElem_range] at hk
    unfold rowK at hk
    rw [srt_mem, needK_mem] at hk
    obtain ⟨⟨j, hj, rfl⟩, _⟩ := hk
    rw [(insAll_all _).2.1, List.mem_map] at hj
    obtain ⟨y, hy, rfl⟩ := hj
    have h1 := half_bd (h y hy).1 (h y hy).2 (Nat.le_of_lt hi)
    obtain ⟨e, he⟩ : ∃ e, d - i = e + 1 := ⟨d - i - 1, by omega⟩
    rw [he] at h1
    have h2 := sib_bd h1.1 h1.2
    refine ⟨i, (sib (y / 2 ^ i)).toNat, ?_, hi, ?_⟩
    · rw [Int.toNat_of_nonneg h2.1, Nat.zero_add]
    · rw [he]
      have h3 := h2.2
      rw [pow_cast] at h3
      exact (Int.toNat_lt h2.1).2 h3
  · simp at hi
theorem leaves_in {l : List Int} {d : Nat} (hd : d ≤ 16) : ∀ y ∈ leavesL l (d : Nat), 0 ≤ y ∧ y < 2 ^ d := by
  intro y hy
  obtain ⟨k, _, rfl⟩ := List.mem_map.1 hy
  unfold turnedZ
  split
  · have := revOf_lt k.toNat ((d : Nat) : Int).toNat
    rw [Int.toNat_natCast] at this ⊢
    rw [pow_cast]
    omega
  · rw [pow_cast]
    have := Nat.two_pow_pos d
    omega
def dgsL (els : List ByteArray) (L : List (Int × Int)) : List ByteArray := L.map fun x => plD els (depN els) x.1.toNat x.2.toNat
theorem dgsL_snoc (els : List ByteArray) (L : List (Int × Int)) (x : Int × Int) : dgsL els (L ++ [x]) = dgsL els L ++ [plD els (depN els) x.1.toNat x.2.toNat] := by unfold dgsL; rw [List.map_append]; rfl
theorem row_litE {ks l m : List Int} (h : needK ks = l) (hm : m.Pairwise (fun x y => x < y)) (he : ∀ k, k ∈ l ↔ k ∈ m) : rowK ks = m := by
  unfold rowK
  exact srt_of (needK_nodup ks) hm (fun k => by rw [h]; exact he k)
theorem needsE : needsL (leavesL [0] ((2 : Nat) : Int)) ((2 : Nat) : Int) = [[1], [1]] := by
  have e0 : leavesL [0] ((2 : Nat) : Int) = [0] := by decide
  have e1 : rowsOf [0] 2 = [rowK (insAll [0]), rowK (insAll [0])] := by simp [rowsOf, List.range_succ_eq_map]
  rw [e0]
  unfold needsL
  rw [Int.toNat_natCast, if_pos ⟨by decide, by decide, by decide, by decide⟩, e1, row_litE (l := [1]) (m := [1]) (by decide) (by decide) (fun k => Iff.rfl)]
def abcE : List ByteArray := [⟨#[97]⟩, ⟨#[98]⟩, ⟨#[99]⟩]
theorem depE : depN abcE = 2 := by decide
theorem depZE : depthZ (len abcE : Nat) = ((2 : Nat) : Int) := by decide
theorem plcE : plcL (len abcE : Nat) [0] = [(0, 1), (1, 1)] := by unfold plcL; rw [depZE, needsE]; rfl
theorem leafE (k : Nat) (s : ByteArray) (h : revOf k 2 < len abcE) (hs : tth abcE (revOf k 2) = s) : plD abcE 2 0 k = hashP leafT [s] := by
  show (if revOf k 2 < len abcE then hashP leafT [tth abcE (revOf k 2)] else hashP noneT []) = _
  rw [if_pos h, hs]
theorem noneE (k : Nat) (h : ¬ revOf k 2 < len abcE) : plD abcE 2 0 k = hashP noneT [] := by
  show (if revOf k 2 < len abcE then hashP leafT [tth abcE (revOf k 2)] else hashP noneT []) = _
  rw [if_neg h]
def cE : ByteArray := hashP leafT [⟨#[99]⟩]
def rightE : ByteArray := hashP nodeT [hashP leafT [⟨#[98]⟩], hashP noneT []]
theorem plE1 : plD abcE 2 0 1 = cE := leafE 1 ⟨#[99]⟩ (by decide) rfl
theorem plE2 : plD abcE 2 1 1 = rightE := by
  show hashP nodeT [plD abcE 2 0 (2 * 1), plD abcE 2 0 (2 * 1 + 1)] = _
  rw [leafE (2 * 1) ⟨#[98]⟩ (by decide) rfl, noneE (2 * 1 + 1) (by decide)]
  rfl
theorem plE0 : plD abcE 2 2 0 = hashP nodeT [hashP nodeT [hashP leafT [⟨#[97]⟩], cE], rightE] := by
  show hashP nodeT [hashP nodeT [plD abcE 2 0 (2 * (2 * 0)), plD abcE 2 0 (2 * (2 * 0) + 1)], plD abcE 2 1 (2 * 0 + 1)] = _
  rw [leafE (2 * (2 * 0)) ⟨#[97]⟩ (by decide) rfl, show 2 * (2 * 0) + 1 = 1 from rfl, plE1, plE2]
theorem dgsE : dgsL abcE (plcL (len abcE : Nat) [0]) = [cE, rightE] := by
  rw [plcE]
  unfold dgsL
  rw [depE]
  show [plD abcE 2 0 1, plD abcE 2 1 1] = _
  rw [plE1, plE2]
end Go.Proofs.Ytloccahcnikbfaa
namespace Go.Proofs.Ytloccahcnikbfaa
open Go.RowKit
set_option linter.unusedSimpArgs false
set_option linter.unusedVariables false
theorem nodup_sub_len {α : Type} : ∀ (l m : List α), l.Nodup → (∀ x ∈ l, x ∈ m) → l.length ≤ m.length
  | [], _, _, _ => Nat.zero_le _
  | x :: t, m, hn, hs => by
    obtain ⟨m1, m2, rfl⟩ := List.append_of_mem (hs x List.mem_cons_self)
    have hx : x ∉ t := (List.nodup_cons.1 hn).1
    have h1 := nodup_sub_len t (m1 ++ m2) (List.nodup_cons.1 hn).2 (fun y hy => by
      have h2 := hs y (List.mem_cons_of_mem _ hy)
      have h3 : y ≠ x := fun e => hx (e ▸ hy)
      simp only [List.mem_append, List.mem_cons] at h2 ⊢
      rcases h2 with h2 | h2 | h2
      · exact Or.inl h2
      · exact absurd h2 h3
      · exact Or.inr h2)
    simp only [List.length_append, List.length_cons] at h1 ⊢
    omega
theorem rowK_nodup (ks : List Int) : (rowK ks).Nodup := by
  unfold rowK srt
  exact (List.mergeSort_perm _ _).nodup_iff.2 (needK_nodup ks)
theorem rowK_mem (ks : List Int) (k : Int) : k ∈ rowK ks ↔ (∃ j ∈ ks, k = sib j) ∧ k ∉ ks := by
  unfold rowK
  rw [srt_mem, needK_mem]
theorem rowK_len (ks : List Int) : (rowK ks).length = (needK ks).length := by
  unfold rowK srt
  exact (List.mergeSort_perm _ _).length_eq
theorem rowK_both {ka kb kc : List Int} (h : ∀ k, k ∈ kc ↔ k ∈ ka ∨ k ∈ kb) : ∀ k ∈ rowK kc, k ∈ rowK ka ∨ k ∈ rowK kb := by
  intro k hk
  rw [rowK_mem] at hk
  obtain ⟨⟨j, hj, rfl⟩, hn⟩ := hk
  rw [h] at hj hn
  have hna : sib j ∉ ka := fun h9 => hn (Or.inl h9)
  have hnb : sib j ∉ kb := fun h9 => hn (Or.inr h9)
  rcases hj with hj | hj
  · exact Or.inl ((rowK_mem _ _).2 ⟨⟨j, hj, rfl⟩, hna⟩)
  · exact Or.inr ((rowK_mem _ _).2 ⟨⟨j, hj, rfl⟩, hnb⟩)
theorem rowK_both_len {ka kb kc : List Int} (h : ∀ k, k ∈ kc ↔ k ∈ ka ∨ k ∈ kb) : (rowK kc).length ≤ (rowK ka).length + (rowK kb).length := by
  have := nodup_sub_len (rowK kc) (rowK ka ++ rowK kb) (rowK_nodup kc) (fun k hk => by
    rw [List.mem_append]
    exact rowK_both h k hk)
  rwa [List.length_append] at this
theorem sib_ne (y : Int) : sib y ≠ y := by unfold sib; split <;> omega
theorem rowK_single (y : Int) : (rowK [y]).length = 1 := by
  rw [rowK_len]
  unfold needK
  have h : ([y].map sib).filter (fun s => !decide (s ∈ [y])) = [sib y] := by
    simp [sib_ne y]
  rw [h]
  rfl
theorem rows_get (L : List Int) (d i : Nat) (hi : i < d) : rnth (rowsOf L d) i = rowK (insAll (L.map (· / 2 ^ i))) := by
  rw [rnth_eq _ i (by unfold rowsOf; simpa using hi)]
  unfold rowsOf
  simp only [List.getElem_map, List.getElem_range]
theorem rows_len (L : List Int) (d : Nat) : (rowsOf L d).length = d := by unfold rowsOf; simp
theorem needs_rows {l : List Int} {d : Nat} (hd : d ≤ 16) (h0 : 0 < len l) : needsL (leavesL l (d : Nat)) (d : Nat) = rowsOf (leavesL l (d : Nat)) d := by
  unfold needsL
  rw [Int.toNat_natCast, if_pos]
  refine ⟨by omega, by omega, by rw [leavesL_len]; exact h0, ?_⟩
  unfold farB
  rw [decide_eq_false]
  rintro ⟨k, hk, h9⟩
  have := (leaves_in hd k hk).2
  omega
theorem flat_len3 (s : Nat) (a b c : List (List Int)) (ha : a.length = c.length) (hb : b.length = c.length) (h : ∀ i, i < c.length → (rnth c i).length ≤ (rnth a i).length + (rnth b i).length) : (flatFrom s c).length ≤ (flatFrom s a).length + (flatFrom s b).length := by
  induction c generalizing s a b with
  | nil => exact Nat.zero_le _
  | cons z c ih =>
    cases a with
    | nil => simp at ha
    | cons x a =>
      cases b with
      | nil => simp at hb
      | cons y b =>
        have h1 := ih (s + 1) a b (by simpa using ha) (by simpa using hb) (fun i hi => by
          have := h (i + 1) (by simp; omega)
          simpa [rnth] using this)
        have h2 := h 0 (by simp)
        simp only [rnth, List.getD_cons_zero] at h2
        simp only [flatFrom, List.length_append, List.length_map]
        omega
theorem flat_len1 : ∀ (s : Nat) (c : List (List Int)), (∀ i, i < c.length → (rnth c i).length = 1) → (flatFrom s c).length = c.length
  | _, [], _ => rfl
  | s, z :: c, h => by
    have h1 := flat_len1 (s + 1) c (fun i hi => by
      have := h (i + 1) (by simp; omega)
      simpa [rnth] using this)
    have h2 := h 0 (by simp)
    simp only [rnth, List.getD_cons_zero] at h2
    simp only [flatFrom, List.length_append, List.length_map, List.length_cons]
    omega
theorem flat_mem : ∀ (s : Nat) (rs : List (List Int)) (j : Nat) (k : Int), j < rs.length → k ∈ rnth rs j → (((s + j : Nat) : Int), k) ∈ flatFrom s rs
  | s, r :: rs, 0, k, _, hk => by
    rw [flatFrom, List.mem_append]
    exact Or.inl (List.mem_map.2 ⟨k, by simpa [rnth] using hk, rfl⟩)
  | s, r :: rs, j + 1, k, hj, hk => by
    rw [flatFrom, List.mem_append]
    have := flat_mem (s + 1) rs j k (by simpa using hj) (by simpa [rnth] using hk)
    rw [show s + 1 + j = s + (j + 1) by omega] at this
    exact Or.inr this
theorem plcL_rows {n : Int} {l : List Int} {d : Nat} (hd : depthZ n = (d : Nat)) (hd16 : d ≤ 16) (h0 : 0 < len l) : plcL n l = flatLv (rowsOf (leavesL l (d : Nat)) d) := by
  unfold plcL
  rw [hd, needs_rows hd16 h0]
theorem mem_leaves (l : List Int) (d y : Int) : y ∈ leavesL l d ↔ ∃ k ∈ l, turnedZ k d = y := by unfold leavesL; exact List.mem_map
theorem both_lev {la lb lc : List Int} (h : ∀ k, k ∈ lc ↔ k ∈ la ∨ k ∈ lb) (d : Int) (i : Nat) : ∀ k, k ∈ insAll ((leavesL lc d).map (· / 2 ^ i)) ↔ k ∈ insAll ((leavesL la d).map (· / 2 ^ i)) ∨ k ∈ insAll ((leavesL lb d).map (· / 2 ^ i)) := by
  intro k
  rw [(insAll_all _).2.1, (insAll_all _).2.1, (insAll_all _).2.1]
  simp only [List.mem_map, mem_leaves]
  constructor
  · rintro ⟨y, ⟨x, hx, rfl⟩, rfl⟩
    rcases (h x).1 hx with h9 | h9
    · exact Or.inl ⟨_, ⟨x, h9, rfl⟩, rfl⟩
    · exact Or.inr ⟨_, ⟨x, h9, rfl⟩, rfl⟩
  · rintro (⟨y, ⟨x, hx, rfl⟩, rfl⟩ | ⟨y, ⟨x, hx, rfl⟩, rfl⟩)
    · exact ⟨_, ⟨x, (h x).2 (Or.inl hx), rfl⟩, rfl⟩
    · exact ⟨_, ⟨x, (h x).2 (Or.inr hx), rfl⟩, rfl⟩
theorem plc_both {n : Int} {d : Nat} {la lb lc : List Int} (hd : depthZ n = (d : Nat)) (hd16 : d ≤ 16) (ha : 0 < len la) (hb : 0 < len lb) (hc : 0 < len lc) (h : ∀ k, k ∈ lc ↔ k ∈ la ∨ k ∈ lb) :
    (plcL n lc).length ≤ (plcL n la).length + (plcL n lb).length ∧ ∀ x ∈ plcL n lc, x ∈ plcL n la ∨ x ∈ plcL n lb := by
  rw [plcL_rows hd hd16 ha, plcL_rows hd hd16 hb, plcL_rows hd hd16 hc]
  constructor
  · refine flat_len3 0 _ _ _ (by rw [rows_len, rows_len]) (by rw [rows_len, rows_len]) (fun i hi => ?_)
    rw [rows_len] at hi
    rw [rows_get _ _ _ hi, rows_get _ _ _ hi, rows_get _ _ _ hi]
    exact rowK_both_len (both_lev h d i)
  · intro x hx
    obtain ⟨j, hj, k, hk, rfl⟩ := mem_flatFrom 0 _ x hx
    rw [rows_len] at hj
    rw [rows_get _ _ _ hj] at hk
    rcases rowK_both (both_lev h d j) k hk with h9 | h9
    · exact Or.inl (flat_mem 0 _ j k (by rw [rows_len]; exact hj) (by rw [rows_get _ _ _ hj]; exact h9))
    · exact Or.inr (flat_mem 0 _ j k (by rw [rows_len]; exact hj) (by rw [rows_get _ _ _ hj]; exact h9))
theorem plc_one {n : Int} {d : Nat} {x : Int} (hd : depthZ n = (d : Nat)) (hd16 : d ≤ 16) : (plcL n [x]).length = d := by
  rw [plcL_rows (l := [x]) hd hd16 (show 0 < len [x] from Nat.zero_lt_one)]
  have h := flat_len1 0 (rowsOf (leavesL [x] (d : Nat)) d) (fun i hi => by
    rw [rows_len] at hi
    rw [rows_get _ _ _ hi]
    exact rowK_single _)
  rw [rows_len] at h
  exact h
theorem plc_len (n : Int) (l : List Int) (h : len l ≤ 100) : (plcL n l).length ≤ 1600 := by
  unfold plcL
  exact flat_bd _ _ (by rw [leavesL_len]; exact h)
theorem dgs_len (els : List ByteArray) (L : List (Int × Int)) : len (dgsL els L) = L.length := by unfold dgsL; rw [len_eq, List.length_map]
theorem dgs_mem {els : List ByteArray} {L M N : List (Int × Int)} (h : ∀ x ∈ L, x ∈ M ∨ x ∈ N) : ∀ s ∈ dgsL els L, s ∈ dgsL els M ∨ s ∈ dgsL els N := by
  intro s hs
  unfold dgsL at hs ⊢
  obtain ⟨x, hx, rfl⟩ := List.mem_map.1 hs
  rcases h x hx with h9 | h9
  · exact Or.inl (List.mem_map.2 ⟨x, h9, rfl⟩)
  · exact Or.inr (List.mem_map.2 ⟨x, h9, rfl⟩)
def risL (n b : Nat) : List Int := ((List.range n).filter fun i => b.testBit i).map fun i => ((i : Nat) : Int)
theorem risL_snoc (n b : Nat) : risL (n + 1) b = if b.testBit n then risL n b ++ [((n : Nat) : Int)] else risL n b := by
  unfold risL
  rw [List.range_succ, List.filter_append, List.map_append]
  by_cases h : b.testBit n
  · rw [if_pos h]; simp [h]
  · rw [if_neg h]; simp [h]
theorem risL_mem (n b : Nat) (k : Int) : k ∈ risL n b ↔ ∃ i, i < n ∧ b.testBit i = true ∧ k = ((i : Nat) : Int) := by
  unfold risL
  simp only [List.mem_map, List.mem_filter, List.mem_range]
  constructor
  · rintro ⟨i, ⟨h1, h2⟩, rfl⟩; exact ⟨i, h1, h2, rfl⟩
  · rintro ⟨i, h1, h2, rfl⟩; exact ⟨i, ⟨h1, h2⟩, rfl⟩
theorem risL_or (n a b : Nat) (k : Int) : k ∈ risL n (a ||| b) ↔ k ∈ risL n a ∨ k ∈ risL n b := by
  rw [risL_mem, risL_mem, risL_mem]
  constructor
  · rintro ⟨i, h1, h2, rfl⟩
    rw [Nat.testBit_or] at h2
    rcases Bool.or_eq_true _ _ ▸ h2 with h3 | h3
    · exact Or.inl ⟨i, h1, h3, rfl⟩
    · exact Or.inr ⟨i, h1, h3, rfl⟩
  · rintro (⟨i, h1, h2, rfl⟩ | ⟨i, h1, h2, rfl⟩)
    · exact ⟨i, h1, by rw [Nat.testBit_or, h2]; rfl, rfl⟩
    · exact ⟨i, h1, by rw [Nat.testBit_or, h2]; simp, rfl⟩
theorem risL_le (n b : Nat) : len (risL n b) ≤ n := by
  induction n with
  | zero => exact Nat.le_refl _
  | succ n ih =>
    rw [risL_snoc]
    split
    · rw [len_eq, List.length_append]; rw [len_eq] at ih; simp; omega
    · omega
theorem risL_pair (n b : Nat) : (risL n b).Pairwise (fun x y => x < y) := by
  unfold risL
  rw [List.pairwise_map]
  refine List.Pairwise.imp (fun h => by exact_mod_cast h) ((List.pairwise_lt_range (n := n)).filter _)
theorem may_of {n : Int} {l : List Int} (h0 : 0 < len l) (h1 : l.Pairwise (fun x y => x < y)) (h2 : ∀ k ∈ l, k < n) : MayOk n l := by
  refine ⟨h0, fun i hi => ⟨h2 _ (mem_nth hi), fun hp => ?_⟩⟩
  have hi2 : i < l.length := hi
  rw [nth_eq l i hi2, nth_eq l (i - 1) (by omega)]
  exact List.pairwise_iff_getElem.1 h1 (i - 1) i (by omega) hi2 (by omega)
theorem ris_may (n b : Nat) (h : 0 < len (risL n b)) : MayOk (n : Nat) (risL n b) := may_of h (risL_pair n b) (fun k hk => by
  obtain ⟨i, h1, _, rfl⟩ := (risL_mem n b k).1 hk
  omega)
theorem ris_u64 (n b : Nat) (hn : n ≤ 64) : ∀ k ∈ risL n b, U64 k := fun k hk => by
  obtain ⟨i, h1, _, rfl⟩ := (risL_mem n b k).1 hk
  unfold U64
  omega
end Go.Proofs.Ytloccahcnikbfaa
namespace Go.Proofs.Ytloccahcnikbfaa
open Go.RowKit
set_option linter.unusedSimpArgs false
set_option linter.unusedVariables false
set_option maxRecDepth 100000 in
set_option maxHeartbeats 4000000 in
theorem tat_any (els : List ByteArray) (b l k : Nat) (w : World) (h : TreeAt els b w) (hn : len els ≤ 65536) (hl : l ≤ depN els) (hk : k < 2 ^ (depN els - l)) :
    Calls Try.prog 53 #[.pointer (some ⟨b, 0, none⟩), .int .i64 (l : Nat), .int .u64 (k : Nat)] w fun e w' => e = .returned (.tuple #[.string (plD els (depN els) l k), .bool true]) ∧ Below w.heap.size w w' := by
  obtain ⟨p0, h1, h2⟩ := h
  have hd16 := depN_le hn
  obtain ⟨d, hd⟩ : ∃ d, depN els = d := ⟨_, rfl⟩
  rw [hd] at h1 h2 hl hk hd16 ⊢
  have c0 : w.cell? ⟨b, 0, none⟩ = some (.pointer (some ⟨p0, 0, none⟩)) := by rw [block_cell h1]; rfl
  have c1 : w.cell? ⟨b, 1, none⟩ = some (.int .i64 (d : Nat)) := by rw [block_cell h1]; rfl
  have HP : Hid (PlaceIs els d (l + (d - l)) (k / 2 ^ (d - l)) p0 w) := Lib.hid (by rw [Nat.div_eq_of_lt hk, show l + (d - l) = d by omega]; exact h2)
  have HK : Hid (k < 65536) := Lib.hid (Nat.lt_of_lt_of_le hk (pow_le16 (by omega)))
  have a2 : ¬ ((d : Nat) : Int) < ((l : Nat) : Int) := by omega
  obtain ⟨e, he⟩ : ∃ e, d - l = e := ⟨_, rfl⟩
  rw [he] at HP hk
  have a3 : IntKind.i64.wrap ((d : Int) - (l : Int)) = ((e : Nat) : Int) := by rw [IntWalk.i64_in _ (by omega)]; omega
  have a5 : ¬ (e : Int) < 0 := by omega
  have a4 : ((k : Nat) : Int) / 2 ^ e = 0 := by
    rw [pow_cast]
    have : k / 2 ^ e = 0 := Nat.div_eq_of_lt hk
    exact_mod_cast this
  have a6 : IntKind.i64.wrap ((e : Int) - 1) = (e : Int) - 1 := IntWalk.i64_in _ (by omega)
  have a1 : ¬ ((l : Nat) : Int) < 0 := by omega
  have a7 : min e 64 = e := by omega
  have HE : Hid (e ≤ 16) := Lib.hid (by omega)
  clear h1 h2 hd hk he hl hd16
  go_enter Try.func53, Try.ntmps53
  go_upto_region 5 with fail
  clear c0 c1 a1 a2 a3 a4 a5 a6 a7
  go_loopg [9, 8] e (fun g i p wr => ∃ (t q : Nat), g = t ∧ i = .int .i64 ((t : Int) - 1) ∧ p = .pointer (some ⟨q, 0, none⟩) ∧ t ≤ 16 ∧ Hid (PlaceIs els d (l + t) (k / 2 ^ t) q wr) ∧ Hid (Below w.heap.size w wr))
  case atStart => exact ⟨e, p0, rfl, rfl, rfl, HE.out, HP, Lib.hid (Below.refl _ _)⟩
  case round =>
    clear HP
    obtain ⟨t, q, hgt, rfl, rfl, ht, HP, HW⟩ := hrel
    have HGT := Lib.hid hgt
    clear hgt
    cases t with
    | zero =>
      have i1 : ¬ (0 : Int) ≤ ((0 : Nat) : Int) - 1 := by decide
      have cq : wr.cell? ⟨q, 0, none⟩ = some (.string (plD els d l k)) := by
        have := HP.out.digest
        rwa [Nat.add_zero, Nat.pow_zero, Nat.div_one] at this
      go_wp2
      go_ret2
      exact ⟨rfl, HW.out⟩
    | succ t =>
      rw [show ((t + 1 : Nat) : Int) - 1 = ((t : Nat) : Int) by omega]
      have i1 : (0 : Int) ≤ ((t : Nat) : Int) := by omega
      obtain ⟨W, hW⟩ : ∃ W, wr = W := ⟨_, rfl⟩
      rw [hW] at HP HW ⊢
      clear hW
      obtain ⟨b0, b1, hn9, h0, h1⟩ := HP.out
      obtain ⟨x, hx⟩ : ∃ x, k / 2 ^ t = x := ⟨_, rfl⟩
      obtain ⟨y, hy⟩ : ∃ y, x % 2 = y := ⟨_, rfl⟩
      have hxx : k / 2 ^ (t + 1) = x / 2 := by rw [← hx, Nat.div_div_eq_div_mul, Nat.pow_succ]
      have hx6 : x < 65536 := by rw [← hx]; exact Nat.lt_of_le_of_lt (Nat.div_le_self _ _) HK.out
      rw [hxx] at h0 h1
      obtain ⟨q2, hq2⟩ : ∃ q2, (if y = 0 then b0 else b1) = q2 := ⟨_, rfl⟩
      have cq : W.cell? ⟨q, 1 + y, none⟩ = some (.pointer (some ⟨q2, 0, none⟩)) := by
        rw [block_cell hn9, ← hq2]
        by_cases hy0 : y = 0
        · rw [if_pos hy0, hy0]; rfl
        · rw [if_neg hy0, show y = 1 by omega]; rfl
      have HP2 : Hid (PlaceIs els d (l + t) (k / 2 ^ t) q2 W) := Lib.hid (by
        rw [hx, ← hq2]
        by_cases hy0 : y = 0
        · rw [if_pos hy0, show x = 2 * (x / 2) by omega]; exact h0
        · rw [if_neg hy0, show x = 2 * (x / 2) + 1 by omega]; exact h1)
      have s1 : min t 64 = t := by omega
      have s2 : ((k : Nat) : Int) / 2 ^ t = ((x : Nat) : Int) := by rw [pow_cast, ← hx]; rfl
      have s3 : bits .and .u64 ((x : Nat) : Int) 1 = ((y : Nat) : Int) := by
        rw [show (1 : Int) = ((1 : Nat) : Int) from rfl, u64_and_nat _ _ (by omega) (by omega), Nat.and_one_is_mod, hy]
      have s4 : ¬ (2 : Int) ≤ ((y : Nat) : Int) := by omega
      have s5 : ¬ ((t : Nat) : Int) < 0 := by omega
      clear hx hy hxx hx6 hn9 h0 h1 hq2
      go_upto_region 7 with fail
      refine wp_region_tail 9 1000 (none) (phis [fun u _ => u = (.pointer (some ⟨q, 0, none⟩)), fun u _ => u = (.int .u64 (k : Nat)), fun u _ => u = (.int .i64 (t : Nat)), fun u _ => u = (.int .u64 (x : Nat)), fun u _ => u = (.int .u64 (y : Nat)), fun u _ => u = (.pointer (some ⟨q, 0, none⟩)), fun u _ => u = (.pointer (some ⟨q, 1, none⟩)), fun u _ => u = (.pointer (some ⟨q, 1 + y, none⟩)), fun u _ => u = (.pointer (some ⟨q2, 0, none⟩))]) rfl (by kernel_rfl) (by kernel_rfl) (mono_of ⟨mono_eq, mono_eq, mono_eq, mono_eq, mono_eq, mono_eq, mono_eq, mono_eq, mono_eq, trivial⟩) (steps_of 9 ⟨?s0, ?s1, ?s2, ?s3, ?s4, ?s5, ?s6, ?s7, ?s8, trivial⟩) ?_
      case s0 =>
        refine step_val (v := (.pointer (some ⟨q, 0, none⟩))) (fun av wv hE hS hO hD => ?_) (fun _ => rfl)
        have h8 : av.eval (.tmp 8) = (.pointer (some ⟨q, 0, none⟩)) := hO.2.2 8 rfl
        have f8 := (ev_form av 8).symm.trans h8
        refine ⟨rfl, ?_⟩
        simp [go_sem, f8, s1, s2, s3, s4, s5]
      case s1 =>
        refine step_val (v := (.int .u64 (k : Nat))) (fun av wv hE hS hO hD => ?_) (fun _ => rfl)
        have h2 : av.eval (.tmp 2) = (.int .u64 (k : Nat)) := hO.2.2 2 rfl
        have f2 := (ev_form av 2).symm.trans h2
        refine ⟨rfl, ?_⟩
        simp [go_sem, f2, s1, s2, s3, s4, s5]
      case s2 =>
        refine step_val (v := (.int .i64 (t : Nat))) (fun av wv hE hS hO hD => ?_) (fun _ => rfl)
        have h9 : av.eval (.tmp 9) = (.int .i64 (t : Nat)) := hO.2.2 9 rfl
        have f9 := (ev_form av 9).symm.trans h9
        refine ⟨rfl, ?_⟩
        simp [go_sem, f9, s1, s2, s3, s4, s5]
      case s3 =>
        refine step_val (v := (.int .u64 (x : Nat))) (fun av wv hE hS hO hD => ?_) (fun _ => rfl)
        have d51 : av.eval (.tmp 51) = (.int .u64 (k : Nat)) := hD.1 rfl _ rfl
        have f51 := (ev_form av 51).symm.trans d51
        have d52 : av.eval (.tmp 52) = (.int .i64 (t : Nat)) := hD.2.1 rfl _ rfl
        have f52 := (ev_form av 52).symm.trans d52
        refine ⟨rfl, ?_⟩
        simp [go_sem, f51, f52, s1, s2, s3, s4, s5]
      case s4 =>
        refine step_val (v := (.int .u64 (y : Nat))) (fun av wv hE hS hO hD => ?_) (fun _ => rfl)
        have d53 : av.eval (.tmp 53) = (.int .u64 (x : Nat)) := hD.1 rfl _ rfl
        have f53 := (ev_form av 53).symm.trans d53
        refine ⟨rfl, ?_⟩
        simp [go_sem, f53, s1, s2, s3, s4, s5]
      case s5 =>
        refine step_val (v := (.pointer (some ⟨q, 0, none⟩))) (fun av wv hE hS hO hD => ?_) (fun _ => rfl)
        have d50 : av.eval (.tmp 50) = (.pointer (some ⟨q, 0, none⟩)) := hD.1 rfl _ rfl
        have f50 := (ev_form av 50).symm.trans d50
        refine ⟨rfl, ?_⟩
        simp [go_sem, f50, s1, s2, s3, s4, s5]
      case s6 =>
        refine step_val (v := (.pointer (some ⟨q, 1, none⟩))) (fun av wv hE hS hO hD => ?_) (fun _ => rfl)
        have d55 : av.eval (.tmp 55) = (.pointer (some ⟨q, 0, none⟩)) := hD.1 rfl _ rfl
        have f55 := (ev_form av 55).symm.trans d55
        refine ⟨rfl, ?_⟩
        simp [go_sem, f55, s1, s2, s3, s4, s5]
      case s7 =>
        refine step_val (v := (.pointer (some ⟨q, 1 + y, none⟩))) (fun av wv hE hS hO hD => ?_) (fun _ => rfl)
        have d56 : av.eval (.tmp 56) = (.pointer (some ⟨q, 1, none⟩)) := hD.1 rfl _ rfl
        have f56 := (ev_form av 56).symm.trans d56
        have d54 : av.eval (.tmp 54) = (.int .u64 (y : Nat)) := hD.2.1 rfl _ rfl
        have f54 := (ev_form av 54).symm.trans d54
        refine ⟨rfl, ?_⟩
        simp [go_sem, f56, f54, s1, s2, s3, s4, s5]
      case s8 =>
        refine step_val (v := (.pointer (some ⟨q2, 0, none⟩))) (fun av wv hE hS hO hD => ?_) (fun _ => rfl)
        have d57 : av.eval (.tmp 57) = (.pointer (some ⟨q, 1 + y, none⟩)) := hD.1 rfl _ rfl
        have f57 := (ev_form av 57).symm.trans d57
        have cq := extB_cell hE (by simp) cq
        refine ⟨rfl, ?_⟩
        simp [go_sem, f57, cq, s1, s2, s3, s4, s5]
      intro a' w' hE hO hall
      have hA := act_of_outer (ds := [50, 51, 52, 53, 54, 55, 56, 57, 58]) rfl hO (by kernel_rfl)
      have e50 : (fun u _ => u = (.pointer (some ⟨q, 0, none⟩))) (a'.eval (.tmp 50)) w' := hall.1 _ rfl
      have e51 : (fun u _ => u = (.int .u64 (k : Nat))) (a'.eval (.tmp 51)) w' := hall.2.1 _ rfl
      have e52 : (fun u _ => u = (.int .i64 (t : Nat))) (a'.eval (.tmp 52)) w' := hall.2.2.1 _ rfl
      have e53 : (fun u _ => u = (.int .u64 (x : Nat))) (a'.eval (.tmp 53)) w' := hall.2.2.2.1 _ rfl
      have e54 : (fun u _ => u = (.int .u64 (y : Nat))) (a'.eval (.tmp 54)) w' := hall.2.2.2.2.1 _ rfl
      have e55 : (fun u _ => u = (.pointer (some ⟨q, 0, none⟩))) (a'.eval (.tmp 55)) w' := hall.2.2.2.2.2.1 _ rfl
      have e56 : (fun u _ => u = (.pointer (some ⟨q, 1, none⟩))) (a'.eval (.tmp 56)) w' := hall.2.2.2.2.2.2.1 _ rfl
      have e57 : (fun u _ => u = (.pointer (some ⟨q, 1 + y, none⟩))) (a'.eval (.tmp 57)) w' := hall.2.2.2.2.2.2.2.1 _ rfl
      have e58 : (fun u _ => u = (.pointer (some ⟨q2, 0, none⟩))) (a'.eval (.tmp 58)) w' := hall.2.2.2.2.2.2.2.2.1 _ rfl
      simp only [List.foldl_cons, List.foldl_nil, Act.put, List.setIfInBounds_toArray, List.set_cons_succ, List.set_cons_zero, e50, e51, e52, e53, e54, e55, e56, e57, e58] at hA
      clear hO hall e50 e51 e52 e53 e54 e55 e56 e57 e58
      subst hA
      have HW2 : Hid (Below w.heap.size w w') := Lib.hid (bnext HW.out (of_drew hE))
      have HP3 : Hid (PlaceIs els d (l + t) (k / 2 ^ t) q2 w') := Lib.hid (HP2.out.below (of_drew hE))
      have a6 : IntKind.i64.wrap (((t : Nat) : Int) - 1) = ((t : Nat) : Int) - 1 := IntWalk.i64_in _ (by omega)
      clear hE cq s1 s2 s3 s4 s5
      go_wp2
      go_roundg t
      case rel => exact ⟨t, q2, rfl, rfl, rfl, by omega, HP3, HW2⟩
      case measure => have := HGT.out; omega
end Go.Proofs.Ytloccahcnikbfaa
namespace Go.Proofs.Ytloccahcnikbfaa
open Go.RowKit Go.ChangeMaps
set_option linter.unusedSimpArgs false
set_option linter.unusedVariables false
attribute [local go_sem] Oper.semAt_some
theorem info_str : (Try.prog.info? 9).map (fun i => (i.zero, i.size, i.bytes)) = some (some (.string ⟨#[]⟩), 1, 16) := by kernel_rfl
def ProofIs (l : List ByteArray) (er : Int) (w : World) (e : Ending) (w' : World) : Prop := ∃ v, e = .returned (.tuple #[v, .int .i64 er]) ∧ w'.ownsRow w.heap.size 9 1 v (len l) (l.map Value.string) ∧ Below w.heap.size w w'
theorem exists_sub {α : Type} (P : α → Prop) : ∀ (l : List α), (∀ x ∈ l, P x) → ∃ L : List { x // P x }, L.map Subtype.val = l
  | [], _ => ⟨[], rfl⟩
  | x :: l, h => by
    obtain ⟨L, hL⟩ := exists_sub P l (fun y hy => h y (List.mem_cons_of_mem _ hy))
    exact ⟨⟨x, h x List.mem_cons_self⟩ :: L, by rw [List.map_cons, hL]⟩
abbrev PlX (d : Nat) := { x : Int × Int // ∃ i k : Nat, x = ((i : Int), (k : Int)) ∧ i < d ∧ k < 2 ^ (d - i) }
theorem kpo_append {o base k : Nat} {W w4 : World} {tmp : Obj} {v v' : Value} {xs : List Value} (hrow : W.ownsRow base 9 1 v k xs) (hg : (W.alloc tmp).grownBy w4 v.ownBlock) : KpO o W (w4.setCell ⟨o, 0, none⟩ v') := by
  have hs := hg.size
  refine ⟨by simp at hs; simp [World.setCell]; omega, fun b cs t fr hb ht hc => ?_⟩
  have hlt := lt_of_block hc
  refine (Below.heap_setCell _ _ _ _ (fun e => hb e)).trans ?_
  refine (hg.block b (by simp; omega) (fun e => ?_)).trans (block_alloc hc _)
  rcases hrow.2 with ⟨rfl, _⟩ | ⟨g, cap, cur, rfl, _, hgb, _⟩
  · simp [Value.ownBlock] at e
  · simp [Value.ownBlock] at e
    subst e
    rw [hgb] at hc
    cases hc
    exact ht rfl
set_option maxRecDepth 100000 in
set_option maxHeartbeats 4000000 in
theorem prove_ok (els : List ByteArray) (b : Nat) (l : List Int) (a : Option Addr) (cap : Nat) (w : World) (ht : TreeAt els b w) (hn : len els ≤ 65536) (h : U64s w a l) (hl : len l ≤ 100) (hu : ∀ k ∈ l, U64 k) (hb : MayOk (len els : Nat) l) :
    Calls Try.prog 22 #[.pointer (some ⟨b, 0, none⟩), .slice a (len l) cap] w (ProofIs (dgsL els (plcL (len els : Nat) l)) 0 w) := by
  have HT := Lib.hid ht
  have HN := Lib.hid hn
  have HM := Lib.hid (mmay_any (len els : Nat) l a cap w h (by omega) (by omega) (by omega))
  rw [decide_eq_true hb] at HM
  have HLN := Lib.hid (tlen_any els b w ht)
  have H := Lib.hid h
  have HU := Lib.hid hu
  obtain ⟨d, hd⟩ : ∃ d, depN els = d := ⟨_, rfl⟩
  have HDD := Lib.hid hd
  have HD16 : Hid (d ≤ 16) := Lib.hid (by rw [← hd]; exact depN_le hn)
  have HPL : Hid (plcL (len els : Nat) l = flatLv (needsL (leavesL l d) d)) := Lib.hid (by unfold plcL; rw [depthZ_len hn, hd])
  clear ht hn h hu hb hd
  obtain ⟨i0, hi, hz0, hz1, hz2⟩ := info_parts info_str
  have HZ := Lib.hid hz0
  clear hz0
  refine (callsIn_wide (n := 9)).1 ?_
  refine callsIn_of_wp_marks Try.func22 rfl trivial ?_ rfl
  simp only [Try.ntmps22, List.size_toArray, List.length_cons, List.length_nil, Nat.reduceAdd, Nat.reduceSub, Array.replicate_succ, Array.replicate_zero, List.push_toArray, List.append_toArray, List.nil_append, List.cons_append]
  gi_wp2_with fail
  refine ⟨trivial, (callsIn_wide.2 HLN.out).mono ?_⟩
  rintro e w1 ⟨rfl, rfl⟩
  gi_wp2_with fail
  refine ⟨trivial, (callsIn_wide.2 HM.out).mono ?_⟩
  rintro e w1 ⟨rfl, hb1⟩
  have HB1 := Lib.hid hb1
  have HT1 := Lib.hid (HT.out.below hb1)
  clear hb1 HM HLN
  obtain ⟨ab, hab⟩ : ∃ ab, w1.heap.size = ab := ⟨_, rfl⟩
  gi_wp2_with fail
  obtain ⟨o, ho⟩ : ∃ o, ab + 1 = o := ⟨_, rfl⟩
  rw [ho]
  obtain ⟨V, hV⟩ : ∃ V, ((w1.alloc (.cells #[.func (.func 53) #[.pointer (some ⟨b, 0, none⟩)] #[]] 81)).alloc (.cells #[.slice none 0 0] 23)) = V := ⟨_, rfl⟩
  rw [hV]
  have V1 : Hid (V.heap[ab]? = some (.cells #[.func (.func 53) #[.pointer (some ⟨b, 0, none⟩)] #[]] 81 (0, 0))) := Lib.hid (by rw [← hV]; exact block_alloc (alloc_new_at _ hab) _)
  have V2 : Hid (Boxed V o 23 (.slice none 0 0)) := Lib.hid (by rw [← hV]; exact alloc_new_at _ (by rw [alloc_size _ rfl]; omega))
  have VB : Hid (Below w.heap.size w V) := Lib.hid (by rw [← hV]; exact balloc (balloc HB1.out _) _)
  have VS : Hid (w.heap.size ≤ ab ∧ ab < o) := Lib.hid ⟨by rw [← hab]; exact HB1.out.size, by omega⟩
  have HDP := Lib.hid (tdepth_any els b V (HT.out.below VB.out))
  rw [HDD.out] at HDP
  clear hV hab ho HT1
  refine ⟨trivial, (callsIn_wide.2 HDP.out).mono ?_⟩
  rintro e w2 ⟨rfl, rfl⟩
  gi_wp2_with fail
  refine ⟨trivial, (callsIn_wide.2 (places_any a cap (len l) (d : Nat) _)).mono ?_⟩
  rintro e w3 ⟨rfl, hw3⟩
  obtain ⟨s1, hs1⟩ : ∃ s1, V.heap.size = s1 := ⟨_, rfl⟩
  rw [hs1]
  have Z1 : Hid (w3.heap[ab]? = some (.cells #[.func (.func 53) #[.pointer (some ⟨b, 0, none⟩)] #[]] 81 (0, 0))) := Lib.hid (by rw [hw3]; exact block_alloc (block_alloc V1.out _) _)
  have Z0 : Hid (Boxed w3 o 23 (.slice none 0 0)) := Lib.hid (by rw [hw3]; exact block_alloc (block_alloc V2.out _) _)
  have Z2 : Hid (w3.heap[s1]? = some (.cells #[.int .i64 (d : Nat)] 3 (0, 0))) := Lib.hid (by rw [hw3]; exact block_alloc (alloc_new_at _ hs1) _)
  have Z3 : Hid (w3.heap[s1 + 1]? = some (.cells #[.slice a (len l) cap] 22 (0, 0))) := Lib.hid (by rw [hw3]; exact alloc_new_at _ (by rw [alloc_size _ rfl, hs1]))
  have ZB : Hid (Below w.heap.size w w3) := Lib.hid (by rw [hw3]; exact balloc (balloc VB.out _) _)
  have ZS : Hid (o < w3.heap.size) := Lib.hid (Z0.out.lt)
  clear hw3 hs1 V1 V2 HDP
  obtain ⟨L, hL⟩ : ∃ L : List (PlX d), L.map Subtype.val = flatLv (needsL (leavesL l d) d) := exists_sub _ _ (plc_bd HD16.out (leaves_in HD16.out))
  have HLL := Lib.hid hL
  have HLB : Hid (L.length ≤ 1600) := Lib.hid (by
    have h1 := flat_bd (leavesL l d) d (by rw [leavesL_len]; exact hl)
    rw [← hL, List.length_map] at h1
    exact h1)
  gi_wp2_with fail
  refine wpIn_rangeFunc_ownF rfl (by omega) (gf := 84) (lb := #[.pointer (some ⟨s1 + 1, 0, none⟩), .pointer (some ⟨s1, 0, none⟩)]) rfl trivial (enters_of Try.func84 (by kernel_rfl) rfl)
    (places_seq (Subtype.val : PlX d → Int × Int) L 8 (by omega) o (s1 + 1) s1 a cap l d w3 (by rw [block_cell Z3.out]; rfl) (by rw [block_cell Z2.out]; rfl) (H.out.below ZB.out) hl HD16.out HU.out ZS.out hL)
    KpO.trans (fun W l9 x x' _ hl hx _ => KpO.putObj o W l9 x x' hl hx) (Below.refl _ _) (fun _ => rfl)
    (fun pre W => (∃ v, Boxed W o 23 v ∧ W.ownsRow w.heap.size 9 1 v (len (dgsL els (pre.map Subtype.val))) ((dgsL els (pre.map Subtype.val)).map Value.string) ∧ True) ∧ W.heap[ab]? = some (.cells #[.func (.func 53) #[.pointer (some ⟨b, 0, none⟩)] #[]] 81 (0, 0)) ∧ Below w.heap.size w W) (fun _ _ _ => False)
    (OwnFrom.and (Own.from (holdsRow_own w.heap.size o 23 9 1 (fun pre : List (PlX d) => len (dgsL els (pre.map Subtype.val))) (fun pre => (dgsL els (pre.map Subtype.val)).map Value.string) (fun _ _ => True)) _) (OwnFrom.and (own_one _ ab 81 (fun _ : List (PlX d) => .func (.func 53) #[.pointer (some ⟨b, 0, none⟩)] #[])) (ownFrom_below (Nat.le_refl _) ZB.out.size))) (fun _ _ _ _ _ h _ _ => h)
    ⟨⟨_, Z0.out, World.ownsRow_nil _ _ _ _, trivial⟩, Z1.out, ZB.out⟩ ?a1 ?assign ?body ?done ?stop
  case assign =>
    intro l9 x W K hK
    gi_wp2
    exact hK
  case body =>
    rintro l9 pre ⟨x, i, k, rfl, hi9, hk9⟩ W ⟨⟨v, hv, hrow, -⟩, hO, hB⟩ hlt
    have ca : W.cell? ⟨ab, 0, none⟩ = some (.func (.func 53) #[.pointer (some ⟨b, 0, none⟩)] #[]) := by rw [block_cell hO]; rfl
    have HV := Lib.hid hv
    have HRW := Lib.hid hrow
    have HO := Lib.hid hO
    have HB := Lib.hid hB
    have HAT := Lib.hid (tat_any els b i k W (HT.out.below hB) HN.out (by rw [HDD.out]; omega) (by rw [HDD.out]; exact hk9))
    rw [HDD.out] at HAT
    have HPB : Hid (len (dgsL els (pre.map Subtype.val)) ≤ 1600) := Lib.hid (by unfold dgsL; rw [len_eq, List.length_map, List.length_map]; have := HLB.out; omega)
    have HSN : Hid (dgsL els ((pre ++ [(⟨((i : Int), (k : Int)), i, k, rfl, hi9, hk9⟩ : PlX d)]).map Subtype.val) = dgsL els (pre.map Subtype.val) ++ [plD els d i k]) := Lib.hid (by
      rw [List.map_append]
      show dgsL els (pre.map Subtype.val ++ [((i : Int), (k : Int))]) = _
      rw [dgsL_snoc, HDD.out]
      simp)
    obtain ⟨P9, hP9⟩ : ∃ P9, dgsL els (pre.map Subtype.val) = P9 := ⟨_, rfl⟩
    rw [hP9] at HRW HPB HSN
    obtain ⟨X9, hX9⟩ : ∃ X9, plD els d i k = X9 := ⟨_, rfl⟩
    rw [hX9] at HAT HSN
    clear hv hrow hO hB hlt hP9 hX9
    dsimp only
    gi_wp2_with fail
    refine ⟨trivial, (CallsIn.inRound l9 (callsIn_wide.2 HAT.out)).mono ?_⟩
    rintro e W2 ⟨rfl, hb2⟩
    have HV2 : Hid (Boxed W2 o 23 v) := Lib.hid ((hb2.block _ HV.out.lt).trans HV.out)
    have HR2 : Hid (W2.ownsRow w.heap.size 9 1 v (len P9) (P9.map Value.string)) := Lib.hid (own_below HRW.out hb2)
    have HO2 : Hid (W2.heap[ab]? = some (.cells #[.func (.func 53) #[.pointer (some ⟨b, 0, none⟩)] #[]] 81 (0, 0))) := Lib.hid ((hb2.block _ (lt_of_block HO.out)).trans HO.out)
    have HB2 : Hid (Below w.heap.size w W2) := Lib.hid (bnext HB.out hb2)
    have HWW := Lib.hid hb2
    have hc := HV2.out.cell
    have hpb := HPB.out
    clear hb2 ca HAT
    gi_wp2_with (gi_at_builtin; refine wpListIn_append_own _ rfl _ _ 23 rfl w.heap.size 9 i0 (.string ⟨#[]⟩) 1 16 Try.underlying23 hi HZ.out hz1 hz2 rfl (by decide) _ _ _ rfl (HR2.out.alloc _) ⟨W2.heap.size, 0, none⟩ 1 1 [.string X9] rfl rfl (World.news_of_block (heap_alloc_new _ _)) (by intro u hu9; simp at hu9; subst hu9; rfl) (by unfold maxLen; omega) (by omega) (by have := HB2.out.size; simp; omega) ?_; intro v' w4 hown' hgrow _; obtain ⟨g', cap', rfl⟩ := ownsRow_succ hown'; obtain ⟨hv1, hv2, hr2, hk2, hb3⟩ := HV2.out.appended (by decide) HR2.out HB2.out.size (by have := VS.out; omega) hown' hgrow; have hc1 := hv1.cell; have hf1 := hv1.frozen; have HQ1 := Lib.hid hv2; have HQ2 := Lib.hid hr2; have HQ3 := Lib.hid hk2; have HQ4 := Lib.hid hb3; have HQ5 := Lib.hid (kpo_append (o := o) (v' := .slice (some ⟨g', 0, none⟩) (len P9 + 1) cap') HR2.out hgrow); clear hv2 hr2 hk2 hb3 hown' hgrow)
    have HKO : Hid (KeepsOthers W W2) := Lib.hid (KeepsOthers.of_grownBy (below_grown HWW.out) (fun j o h => by cases h))
    have HKP : Hid (KpO o W W2) := Lib.hid ⟨HWW.out.size, fun b9 cs t fr _ _ hc9 => (HWW.out.block _ (lt_of_block hc9)).trans hc9⟩
    refine ⟨HKO.out.trans HQ3.out, HKP.out.trans HQ5.out, ⟨_, HQ1.out, ?_, trivial⟩, ?_, HB2.out.trans HQ4.out⟩
    · have e9 : len (P9 ++ [X9]) = len P9 + 1 := by rw [len_eq, List.length_append]; rfl
      rw [HSN.out, List.map_append, e9]
      exact HQ2.out
    · exact HQ5.out.same _ _ _ _ (by have := VS.out; omega) (by decide) HO2.out
  case done =>
    rintro D ys W hD rfl ⟨⟨v, hv, hrow, -⟩, hO, hB⟩ hK
    have hc := hv.cell
    rw [HLL.out] at hrow
    have HR := Lib.hid (ownsRow_putObj hrow (.deferred none) hK rfl)
    have HB : Hid (Below w.heap.size w (W.putObj D (.deferred none))) := Lib.hid (hB.trans (belowK_b (w := w) (Nat.le_refl _) W D _ _ (Nat.le_trans ZB.out.size hD) hK rfl rfl))
    have HK := Lib.hid hK
    clear hO hB hrow
    gi_wp2
    refine ⟨by simp, .inl ⟨_, _, rfl, run_takeDeferred HK.out, ?_⟩⟩
    refine ⟨_, results_tmp2 rfl _ _ _, v, rfl, ?_, HB.out⟩
    rw [HPL.out]
    exact HR.out
  case stop =>
    intro D c pre W _ _ h _
    exact h.elim
end Go.Proofs.Ytloccahcnikbfaa
namespace Go.Proofs.Ytloccahcnikbfaa
open Go.RowKit
set_option linter.unusedSimpArgs false
set_option linter.unusedVariables false
theorem own_txts {w : World} {base n : Nat} {v : Value} {l : List ByteArray} (h : w.ownsRow base 9 1 v n (l.map Value.string)) : ∃ a cap, v = .slice a (len l) cap ∧ Txts w a l := by
  have hn : len l = n := by have := h.1; rw [len_eq]; simpa using this
  rcases h.2 with ⟨rfl, h2⟩ | ⟨g, cap, cur, rfl, hg, hh, hc1, hc2, hc3, hc4⟩
  · obtain rfl : l = [] := List.eq_nil_of_length_eq_zero (by rw [← len_eq]; omega)
    exact ⟨none, 0, rfl, Txts.nil _ _⟩
  · refine ⟨some ⟨g, 0, none⟩, cap, by rw [hn], fun i hi => ⟨g, 0, rfl, ?_⟩⟩
    have := h.cellAt i (by omega)
    have hi2 : i < l.length := hi
    rw [Nat.zero_add, this, List.getElem?_map, List.getElem?_eq_getElem hi2, tth_eq l i hi]; rfl
theorem str_beq (a b : ByteArray) : (a.toList == b.toList) = decide (a = b) := by
  rw [ByteArray.toList_eq, ByteArray.toList_eq]
  by_cases h : a = b
  · subst h; simp
  · rw [decide_eq_false h]
    rw [beq_eq_false_iff_ne]
    intro h2
    exact h (ByteArray.ext (Array.ext' h2))
theorem hash0_any (tag : ByteArray) (w : World) (h1 : 1 ≤ tag.size) (h2 : tag.size ≤ 16) : Calls Try.prog 15 #[.string tag, .slice none 0 0] w fun e w' => e = .returned (.string (hashP tag [])) ∧ Below w.heap.size w w' :=
  hash_any tag [] none 0 w h1 h2 (Txts.nil _ _) (by decide)
theorem hash1_any (tag s : ByteArray) (w : World) (h1 : 1 ≤ tag.size) (h2 : tag.size ≤ 16) (hs : s.size ≤ 1000000) : Calls Try.prog 15 #[.string tag, .slice (some ⟨w.heap.size, 0, none⟩) 1 1] (w.alloc (.cells #[.string s] 9)) fun e w' => e = .returned (.string (hashP tag [s])) ∧ Below w.heap.size w w' := by
  have hw1 : Txts (w.alloc (.cells #[.string s] 9)) (some ⟨w.heap.size, 0, none⟩) [s] := txts_cells (heap_alloc_new _ _) [s] (fun i hi => by
    have : i = 0 := by have : i < 1 := hi; omega
    subst this; rfl)
  refine (hash_any tag [s] (some ⟨w.heap.size, 0, none⟩) 1 _ h1 h2 hw1 (by show ((partL s) ++ []).length ≤ _; rw [List.append_nil, partL_len]; omega)).mono ?_
  rintro e w2 ⟨rfl, hb2⟩
  exact ⟨rfl, bnext (balloc (Below.refl _ _) _) hb2⟩
theorem hash2_any (tag s t : ByteArray) (w : World) (h1 : 1 ≤ tag.size) (h2 : tag.size ≤ 16) (hs : s.size ≤ 1000000) (ht : t.size ≤ 1000000) : Calls Try.prog 15 #[.string tag, .slice (some ⟨w.heap.size, 0, none⟩) 2 2] (w.alloc (.cells #[.string s, .string t] 9)) fun e w' => e = .returned (.string (hashP tag [s, t])) ∧ Below w.heap.size w w' := by
  have hw1 : Txts (w.alloc (.cells #[.string s, .string t] 9)) (some ⟨w.heap.size, 0, none⟩) [s, t] := txts_cells (heap_alloc_new _ _) [s, t] (fun i hi => by
    have : i = 0 ∨ i = 1 := by have : i < 2 := hi; omega
    rcases this with rfl | rfl <;> rfl)
  refine (hash_any tag [s, t] (some ⟨w.heap.size, 0, none⟩) 2 _ h1 h2 hw1 (by show ((partL s) ++ ((partL t) ++ [])).length ≤ _; rw [List.append_nil, List.length_append, partL_len, partL_len]; omega)).mono ?_
  rintro e w2 ⟨rfl, hb2⟩
  exact ⟨rfl, bnext (balloc (Below.refl _ _) _) hb2⟩
theorem errno_any (a b : Int) (w : World) : Calls Try.prog 45 #[.int .i64 a, .int .i64 b] w fun e w' => e = .returned (.bool (a == b)) ∧ w = w' := by
  go_enter Try.func45, Try.ntmps45
  go_wp2
  go_ret
  exact ⟨rfl, rfl⟩
theorem tth_ext {la lb : List ByteArray} (hl : len la = len lb) (h : ∀ i, i < len la → tth la i = tth lb i) : la = lb := by
  apply List.ext_getElem hl
  intro i h1 h2
  have := h i h1
  rwa [tth_eq la i h1, tth_eq lb i h2] at this
set_option maxRecDepth 100000 in
set_option maxHeartbeats 4000000 in
theorem alike_any (la lb : List ByteArray) (a b : Option Addr) (ca cb : Nat) (w : World) (ha : Txts w a la) (hb : Txts w b lb) (hn : len la ≤ 1000000) (hn2 : len lb ≤ 1000000) : Calls Try.prog 46 #[.slice a (len la) ca, .slice b (len lb) cb] w fun e w' => e = .returned (.bool (decide (la = lb))) ∧ Below w.heap.size w w' := by
  have HA := Lib.hid ha
  have HB := Lib.hid hb
  have HN := Lib.hid hn
  have HN2 := Lib.hid hn2
  clear ha hb
  by_cases hl : len la = len lb
  · have l1 : ((len la : Nat) : Int) = (len lb : Nat) := by omega
    have HL := Lib.hid hl
    clear hn hn2 hl
    go_enter Try.func46, Try.ntmps46
    go_wp2
    go_loopg [5] (len la) (fun g i wr => ∃ m : Nat, g + m = len la ∧ i = .int .i64 m ∧ Hid (∀ j, j < m → tth la j = tth lb j) ∧ Hid (Below w.heap.size w wr))
    case atStart => exact ⟨0, rfl, rfl, Lib.hid (fun j hj => by omega), Lib.hid (Below.refl _ _)⟩
    case round =>
      obtain ⟨m, hm, rfl, HE, HW⟩ := hrel
      have HNN := HN.out
      by_cases hlt : m < len la
      · have b0 : (m : Int) < len la := by omega
        have b1 : (m : Int) < len lb := by have := HL.out; omega
        obtain ⟨ba, oa, rfl, e1⟩ := (HA.out.below HW.out) m hlt
        obtain ⟨bb, ob, rfl, e2⟩ := (HB.out.below HW.out) m (by have := HL.out; omega)
        obtain ⟨x, hx⟩ : ∃ x, tth la m = x := ⟨_, rfl⟩
        obtain ⟨y, hy⟩ : ∃ y, tth lb m = y := ⟨_, rfl⟩
        rw [hx] at e1
        rw [hy] at e2
        have HX := Lib.hid hx
        have HY := Lib.hid hy
        have l3 := lt_of_cell e1
        have l4 := lt_of_cell e2
        clear hx hy
        cases hq : (x.toList == y.toList) with
        | true =>
          have HQ := Lib.hid hq
          go_wp2
          go_quiet (fail)
          go_wp2
          go_roundg (len la - (m + 1))
          case rel => exact ⟨m + 1, by omega, by go_num, Lib.hid (fun j hj => by
            by_cases e : j = m
            · subst e
              rw [HX.out, HY.out]
              have := HQ.out
              rw [str_beq] at this
              exact of_decide_eq_true this
            · exact HE.out j (by omega)), by (repeat (first | exact Below.refl _ _ | assumption | (refine bdrew ?_) | (refine bdrewN ?_ _) | (refine balloc ?_ _) | (refine bset ?_ (by first | omega | (simp; done) | (simp; omega)) _) | (refine bnext ?_ (by assumption))))⟩
          case measure => omega
        | false =>
          have HQ := Lib.hid hq
          go_wp2
          go_quiet (fail)
          go_wp2
          go_ret
          refine ⟨?_, bnext HW.out (by (repeat (first | exact Below.refl _ _ | assumption | (refine bdrew ?_) | (refine bdrewN ?_ _) | (refine balloc ?_ _) | (refine bset ?_ (by first | omega | (simp; done) | (simp; omega)) _) | (refine bnext ?_ (by assumption)))))⟩
          have : ¬ la = lb := fun h9 => by
            have := HQ.out
            rw [str_beq, ← HX.out, ← HY.out, h9] at this
            simp at this
          rw [decide_eq_false this]; rfl
      · obtain rfl : m = len la := by omega
        have b0 : ¬ ((len la : Nat) : Int) < len la := by omega
        go_wp2
        go_ret
        exact ⟨by rw [decide_eq_true (tth_ext HL.out HE.out)]; rfl, HW.out⟩
  · have l1 : ¬ ((len la : Nat) : Int) = (len lb : Nat) := by omega
    have HL : Hid (decide (la = lb) = false) := Lib.hid (decide_eq_false (fun h9 => hl (by rw [h9])))
    clear hn hn2 hl
    go_enter Try.func46, Try.ntmps46
    go_wp2
    go_ret
    exact ⟨by rw [HL.out]; rfl, Below.refl _ _⟩
end Go.Proofs.Ytloccahcnikbfaa
namespace Go.Proofs.Ytloccahcnikbfaa
open Go.RowKit
set_option linter.unusedSimpArgs false
set_option linter.unusedVariables false
theorem own_ge {base : Nat} {w : World} {e size n : Nat} {v : Value} {xs : List Value} (h : w.ownsRow base e size v n xs) {b : Nat} (hb : w.heap.size ≤ b) : some b ≠ v.ownBlock := fun e => by
  have := h.lt b e.symm; omega
theorem own_lo {base : Nat} {w : World} {e size n : Nat} {v : Value} {xs : List Value} (h : w.ownsRow base e size v n xs) {b : Nat} (hb : b < base) : some b ≠ v.ownBlock := fun e => by
  have := h.lt b e.symm; omega
def FewIs (l : List ByteArray) (w : World) (e : Ending) (w' : World) : Prop := ∃ v L, e = .returned v ∧ w'.ownsRow w.heap.size 9 1 v (len L) (L.map Value.string) ∧ len L ≤ 40 ∧ (∀ x ∈ L, x.size ≤ 40) ∧ Below w.heap.size w w'
set_option maxRecDepth 100000 in
set_option maxHeartbeats 4000000 in
theorem few_any (l : List ByteArray) (a : Option Addr) (cap : Nat) (w : World) (hl : Txts w a l) (hn : len l ≤ 9223372036854775807) : Calls Try.prog 19 #[.slice a (len l) cap] w (FewIs l w) := by
  have HL := Lib.hid hl
  have HN := Lib.hid hn
  obtain ⟨i0, hi, hz0, hz1, hz2⟩ := info_parts info_str
  have HZ := Lib.hid hz0
  clear hl hn hz0
  go_enter Try.func19, Try.ntmps19
  go_wp2
  go_loopg [4, 3] 40 (fun g i v wr => ∃ (m : Nat) (L : List ByteArray), g + m = 40 ∧ i = .int .i64 m ∧ Hid (wr.ownsRow w.heap.size 9 1 v (len L) (L.map Value.string)) ∧ Hid (len L = m ∧ m ≤ len l ∧ ∀ x ∈ L, x.size ≤ 40) ∧ Hid (Below w.heap.size w wr))
  case atStart => exact ⟨0, [], rfl, rfl, Lib.hid (World.ownsRow_nil _ _ _ _), Lib.hid ⟨rfl, Nat.zero_le _, fun x hx => by cases hx⟩, Lib.hid (Below.refl _ _)⟩
  case round =>
    obtain ⟨m, L, hm, rfl, HO, HI, HW⟩ := hrel
    by_cases hlt : m < len l
    · by_cases h40 : m < 40
      · have b0 : (m : Int) < len l := by omega
        have b1 : (m : Int) < 40 := by omega
        obtain ⟨pb, po, rfl, cs⟩ := (HL.out.below HW.out) m hlt
        have hpl : pb < w.heap.size := by
          obtain ⟨b9, o9, e9, h9⟩ := HL.out m hlt
          cases e9
          exact lt_of_cell h9
        have hne : some pb ≠ u3.ownBlock := own_lo HO.out hpl
        obtain ⟨x, hx⟩ : ∃ x, tth l m = x := ⟨_, rfl⟩
        rw [hx] at cs
        obtain ⟨k, hk⟩ : ∃ k : Nat, min x.size 40 = k := ⟨_, rfl⟩
        have HK : Hid (k ≤ 40 ∧ k ≤ x.size) := Lib.hid (by omega)
        have kx : ¬ x.size < k := by omega
        have mk : min ((x.size : Nat) : Int) 40 = ((k : Nat) : Int) := by omega
        have bl : ¬ len l ≤ m := by omega
        have hil := HI.out.1
        have HM40 := Lib.hid h40
        have HMLT := Lib.hid hlt
        clear hx hk
        go_upto_region 5 with fail
        refine wp_region_tail 14 13 (u3.ownBlock) (phis [fun u _ => u = (u3), fun u _ => u = (.slice (some ⟨pb, po, none⟩) (len l) cap), fun u _ => u = (.int .i64 (m : Nat)), fun u _ => u = (.pointer (some ⟨pb, po + m, none⟩)), fun u _ => u = (.string x), fun u _ => u = (.slice (some ⟨pb, po, none⟩) (len l) cap), fun u _ => u = (.int .i64 (m : Nat)), fun u _ => u = (.pointer (some ⟨pb, po + m, none⟩)), fun u _ => u = (.string x), fun u _ => u = (.int .i64 (x.size : Nat)), fun u _ => u = (.int .i64 (k : Nat)), fun u _ => u = (.string (x.extract 0 k)), fun u w' => ∃ b, u = .slice (some ⟨b, 0, none⟩) 1 1 ∧ some b ≠ u3.ownBlock ∧ w'.heap[b]? = some (.cells #[.string (x.extract 0 k)] 9 (0, 0)), fun u w' => w'.ownsRow w.heap.size 9 1 u (len L + 1) (L.map Value.string ++ [.string (x.extract 0 k)])]) rfl (by kernel_rfl) (by kernel_rfl) (mono_of ⟨mono_eq, mono_eq, mono_eq, mono_eq, mono_eq, mono_eq, mono_eq, mono_eq, mono_eq, mono_eq, mono_eq, mono_eq, ?m12, ?m13, trivial⟩) (steps_of 14 ⟨?s0, ?s1, ?s2, ?s3, ?s4, ?s5, ?s6, ?s7, ?s8, ?s9, ?s10, ?s11, ?s12, ?s13, trivial⟩) ?_
        case m12 =>
          exact ⟨fun u w1 w' h ⟨b, h1, hb, hb'⟩ => ⟨b, h1, hb, ext_block h hb'⟩, fun _ u w1 w' h ⟨b, h1, hb, hb'⟩ => ⟨b, h1, hb, extB_block h hb hb'⟩⟩
        case m13 =>
          exact ⟨fun u w1 w' h hu => own_below hu h, fun hn => absurd rfl hn⟩
        case s0 =>
          refine step_val (v := (u3)) (fun av wv hE hS hO hD => ?_) (fun _ => rfl)
          have h3 : av.eval (.tmp 3) = (u3) := hO.2.2 3 rfl
          have f3 := (ev_form av 3).symm.trans h3
          refine ⟨rfl, ?_⟩
          simp [go_sem, f3, bl, mk, kx]
        case s1 =>
          refine step_val (v := (.slice (some ⟨pb, po, none⟩) (len l) cap)) (fun av wv hE hS hO hD => ?_) (fun _ => rfl)
          have h0 : av.eval (.tmp 0) = (.slice (some ⟨pb, po, none⟩) (len l) cap) := hO.2.2 0 rfl
          have f0 := (ev_form av 0).symm.trans h0
          refine ⟨rfl, ?_⟩
          simp [go_sem, f0, bl, mk, kx]
        case s2 =>
          refine step_val (v := (.int .i64 (m : Nat))) (fun av wv hE hS hO hD => ?_) (fun _ => rfl)
          have h4 : av.eval (.tmp 4) = (.int .i64 (m : Nat)) := hO.2.2 4 rfl
          have f4 := (ev_form av 4).symm.trans h4
          refine ⟨rfl, ?_⟩
          simp [go_sem, f4, bl, mk, kx]
        case s3 =>
          refine step_val (v := (.pointer (some ⟨pb, po + m, none⟩))) (fun av wv hE hS hO hD => ?_) (fun _ => rfl)
          have d16 : av.eval (.tmp 16) = (.slice (some ⟨pb, po, none⟩) (len l) cap) := hD.1 rfl _ rfl
          have f16 := (ev_form av 16).symm.trans d16
          have d17 : av.eval (.tmp 17) = (.int .i64 (m : Nat)) := hD.2.1 rfl _ rfl
          have f17 := (ev_form av 17).symm.trans d17
          refine ⟨rfl, ?_⟩
          simp [go_sem, f16, f17, bl, mk, kx]
        case s4 =>
          refine step_val (v := (.string x)) (fun av wv hE hS hO hD => ?_) (fun _ => rfl)
          have d18 : av.eval (.tmp 18) = (.pointer (some ⟨pb, po + m, none⟩)) := hD.1 rfl _ rfl
          have f18 := (ev_form av 18).symm.trans d18
          have cs := extB_cell hE hne cs
          refine ⟨rfl, ?_⟩
          simp [go_sem, f18, cs, bl, mk, kx]
        case s5 =>
          refine step_val (v := (.slice (some ⟨pb, po, none⟩) (len l) cap)) (fun av wv hE hS hO hD => ?_) (fun _ => rfl)
          have h0 : av.eval (.tmp 0) = (.slice (some ⟨pb, po, none⟩) (len l) cap) := hO.2.2 0 rfl
          have f0 := (ev_form av 0).symm.trans h0
          refine ⟨rfl, ?_⟩
          simp [go_sem, f0, bl, mk, kx]
        case s6 =>
          refine step_val (v := (.int .i64 (m : Nat))) (fun av wv hE hS hO hD => ?_) (fun _ => rfl)
          have h4 : av.eval (.tmp 4) = (.int .i64 (m : Nat)) := hO.2.2 4 rfl
          have f4 := (ev_form av 4).symm.trans h4
          refine ⟨rfl, ?_⟩
          simp [go_sem, f4, bl, mk, kx]
        case s7 =>
          refine step_val (v := (.pointer (some ⟨pb, po + m, none⟩))) (fun av wv hE hS hO hD => ?_) (fun _ => rfl)
          have d20 : av.eval (.tmp 20) = (.slice (some ⟨pb, po, none⟩) (len l) cap) := hD.1 rfl _ rfl
          have f20 := (ev_form av 20).symm.trans d20
          have d21 : av.eval (.tmp 21) = (.int .i64 (m : Nat)) := hD.2.1 rfl _ rfl
          have f21 := (ev_form av 21).symm.trans d21
          refine ⟨rfl, ?_⟩
          simp [go_sem, f20, f21, bl, mk, kx]
        case s8 =>
          refine step_val (v := (.string x)) (fun av wv hE hS hO hD => ?_) (fun _ => rfl)
          have d22 : av.eval (.tmp 22) = (.pointer (some ⟨pb, po + m, none⟩)) := hD.1 rfl _ rfl
          have f22 := (ev_form av 22).symm.trans d22
          have cs := extB_cell hE hne cs
          refine ⟨rfl, ?_⟩
          simp [go_sem, f22, cs, bl, mk, kx]
        case s9 =>
          refine step_val (v := (.int .i64 (x.size : Nat))) (fun av wv hE hS hO hD => ?_) (fun _ => rfl)
          have d23 : av.eval (.tmp 23) = (.string x) := hD.1 rfl _ rfl
          have f23 := (ev_form av 23).symm.trans d23
          refine ⟨rfl, ?_⟩
          simp [go_sem, f23, bl, mk, kx]
        case s10 =>
          refine step_val (v := (.int .i64 (k : Nat))) (fun av wv hE hS hO hD => ?_) (fun _ => rfl)
          have d24 : av.eval (.tmp 24) = (.int .i64 (x.size : Nat)) := hD.1 rfl _ rfl
          have f24 := (ev_form av 24).symm.trans d24
          refine ⟨rfl, ?_⟩
          simp [go_sem, f24, bl, mk, kx]
        case s11 =>
          refine step_val (v := (.string (x.extract 0 k))) (fun av wv hE hS hO hD => ?_) (fun _ => rfl)
          have d19 : av.eval (.tmp 19) = (.string x) := hD.1 rfl _ rfl
          have f19 := (ev_form av 19).symm.trans d19
          have d25 : av.eval (.tmp 25) = (.int .i64 (k : Nat)) := hD.2.1 rfl _ rfl
          have f25 := (ev_form av 25).symm.trans d25
          refine ⟨rfl, ?_⟩
          simp [go_sem, f19, f25, bl, mk, kx]
        case s12 =>
          refine step_wp (fun av wv hE hS hO hD => ?_)
          have d26 : av.eval (.tmp 26) = (.string (x.extract 0 k)) := hD.1 rfl _ rfl
          have f26 := (ev_form av 26).symm.trans d26
          refine ⟨rfl, ?_⟩
          refine wp_of_run (v := .slice (some ⟨wv.heap.size, 0, none⟩) 1 1) (w' := wv.alloc (.cells #[.string (x.extract 0 k)] 9)) (by simp [go_sem, f26]) ⟨_, rfl, es_of_ext (balloc (Ext_refl _) _), wv.heap.size, rfl, ?_, heap_alloc_new _ _⟩
          exact own_ge HO.out (by have := hE.size; simp at this; omega)
        case s13 =>
          refine step_wp (fun av wv hE hS hO hD => ?_)
          have d15 : av.eval (.tmp 15) = (u3) := hD.1 rfl _ rfl
          have f15 := (ev_form av 15).symm.trans d15
          have d27 : (fun u w' => ∃ b, u = .slice (some ⟨b, 0, none⟩) 1 1 ∧ some b ≠ u3.ownBlock ∧ w'.heap[b]? = some (.cells #[.string (x.extract 0 k)] 9 (0, 0))) (av.eval (.tmp 27)) wv := hD.2.1 rfl _ rfl
          refine ⟨rfl, ?_⟩
          obtain ⟨b27, h27, hb27, hc27⟩ := d27
          have hown1 : wv.ownsRow w.heap.size 9 1 u3 (len L) (L.map Value.string) := own_below (w := wr.drew) HO.out (hS rfl)
          refine wp_append_lies wv _ _ _ rfl w.heap.size 9 i0 (.string ⟨#[]⟩) 1 16 Try.underlying23 hi HZ.out hz1 hz2 rfl (by decide) u3 (len L) _ d15 hown1 ⟨b27, 0, none⟩ 1 1 [.string (x.extract 0 k)] (by exact h27) rfl (World.news_of_block hc27) (by intro u hu; simp at hu; rcases hu with rfl; rfl) (by decide) (by unfold maxLen; omega) (by omega) (by have := hE.size; have := HW.out.size; simp at *; omega) _ rfl ?_
          intro g2 cap2 w2 hown2 hgrow hat hlt2
          exact ⟨_, rfl, es_sp hgrow, hown2⟩
        intro a' w' hE hO hall
        have hA := act_of_outer (ds := [15, 16, 17, 18, 19, 20, 21, 22, 23, 24, 25, 26, 27, 28]) rfl hO (by kernel_rfl)
        have e15 : (fun u _ => u = (u3)) (a'.eval (.tmp 15)) w' := hall.1 _ rfl
        have e16 : (fun u _ => u = (.slice (some ⟨pb, po, none⟩) (len l) cap)) (a'.eval (.tmp 16)) w' := hall.2.1 _ rfl
        have e17 : (fun u _ => u = (.int .i64 (m : Nat))) (a'.eval (.tmp 17)) w' := hall.2.2.1 _ rfl
        have e18 : (fun u _ => u = (.pointer (some ⟨pb, po + m, none⟩))) (a'.eval (.tmp 18)) w' := hall.2.2.2.1 _ rfl
        have e19 : (fun u _ => u = (.string x)) (a'.eval (.tmp 19)) w' := hall.2.2.2.2.1 _ rfl
        have e20 : (fun u _ => u = (.slice (some ⟨pb, po, none⟩) (len l) cap)) (a'.eval (.tmp 20)) w' := hall.2.2.2.2.2.1 _ rfl
        have e21 : (fun u _ => u = (.int .i64 (m : Nat))) (a'.eval (.tmp 21)) w' := hall.2.2.2.2.2.2.1 _ rfl
        have e22 : (fun u _ => u = (.pointer (some ⟨pb, po + m, none⟩))) (a'.eval (.tmp 22)) w' := hall.2.2.2.2.2.2.2.1 _ rfl
        have e23 : (fun u _ => u = (.string x)) (a'.eval (.tmp 23)) w' := hall.2.2.2.2.2.2.2.2.1 _ rfl
        have e24 : (fun u _ => u = (.int .i64 (x.size : Nat))) (a'.eval (.tmp 24)) w' := hall.2.2.2.2.2.2.2.2.2.1 _ rfl
        have e25 : (fun u _ => u = (.int .i64 (k : Nat))) (a'.eval (.tmp 25)) w' := hall.2.2.2.2.2.2.2.2.2.2.1 _ rfl
        have e26 : (fun u _ => u = (.string (x.extract 0 k))) (a'.eval (.tmp 26)) w' := hall.2.2.2.2.2.2.2.2.2.2.2.1 _ rfl
        have e27 : (fun u w' => ∃ b, u = .slice (some ⟨b, 0, none⟩) 1 1 ∧ some b ≠ u3.ownBlock ∧ w'.heap[b]? = some (.cells #[.string (x.extract 0 k)] 9 (0, 0))) (a'.eval (.tmp 27)) w' := hall.2.2.2.2.2.2.2.2.2.2.2.2.1 _ rfl
        have e28 : (fun u w' => w'.ownsRow w.heap.size 9 1 u (len L + 1) (L.map Value.string ++ [.string (x.extract 0 k)])) (a'.eval (.tmp 28)) w' := hall.2.2.2.2.2.2.2.2.2.2.2.2.2.1 _ rfl
        obtain ⟨v27, hv27⟩ : ∃ v, a'.eval (.tmp 27) = v := ⟨_, rfl⟩
        rw [hv27] at e27
        obtain ⟨v28, hv28⟩ : ∃ v, a'.eval (.tmp 28) = v := ⟨_, rfl⟩
        rw [hv28] at e28
        simp only [List.foldl_cons, List.foldl_nil, Act.put, List.setIfInBounds_toArray, List.set_cons_succ, List.set_cons_zero, e15, e16, e17, e18, e19, e20, e21, e22, e23, e24, e25, e26, hv27, hv28] at hA
        clear hO hall e15 e16 e17 e18 e19 e20 e21 e22 e23 e24 e25 e26 hv27 hv28
        subst hA
        have HO2 : Hid (w'.ownsRow w.heap.size 9 1 v28 (len (L ++ [x.extract 0 k])) ((L ++ [x.extract 0 k]).map Value.string)) := Lib.hid (by
          have e9 : len (L ++ [x.extract 0 k]) = len L + 1 := by rw [len_eq, List.length_append]; rfl
          rw [List.map_append, e9]
          exact e28)
        have HW2 : Hid (Below w.heap.size w w') := Lib.hid (grownBy_below (bdrew HW.out) hE (fun k9 hk' => (HO.out.lt k9 hk').1))
        have HI2 : Hid (len (L ++ [x.extract 0 k]) = m + 1 ∧ m + 1 ≤ len l ∧ ∀ y ∈ L ++ [x.extract 0 k], y.size ≤ 40) := Lib.hid ⟨by rw [len_eq, List.length_append, ← len_eq, hil]; rfl, HMLT.out, fun y hy => by
          rw [List.mem_append, List.mem_singleton] at hy
          rcases hy with hy | rfl
          · exact HI.out.2.2 y hy
          · rw [ByteArray.size_extract]; have := HK.out; omega⟩
        clear e27 e28 hE cs bl mk kx hil hne
        go_wp2
        go_roundg (40 - (m + 1))
        case rel => exact ⟨m + 1, L ++ [x.extract 0 k], by omega, by go_num, HO2, HI2, HW2⟩
        case measure => omega
      · obtain rfl : m = 40 := by omega
        have b0 : ((40 : Nat) : Int) < len l := by omega
        have b1 : ¬ ((40 : Nat) : Int) < 40 := by decide
        go_wp2
        go_ret
        exact ⟨_, L, rfl, HO.out, by have := HI.out.1; omega, HI.out.2.2, HW.out⟩
    · have b0 : ¬ (m : Int) < len l := by omega
      go_wp2
      go_ret
      exact ⟨_, L, rfl, HO.out, by have := HI.out.1; omega, HI.out.2.2, HW.out⟩
def RisIs (n b : Nat) (w : World) (e : Ending) (w' : World) : Prop := ∃ v, e = .returned v ∧ w'.ownsRow w.heap.size 35 1 v (len (risL n b)) ((risL n b).map (Value.int .u64)) ∧ Below w.heap.size w w'
set_option maxRecDepth 100000 in
set_option maxHeartbeats 4000000 in
theorem rising_any (n b : Nat) (w : World) (hn : n ≤ 64) (hb : b < 18446744073709551616) : Calls Try.prog 21 #[.int .i64 (n : Nat), .int .u64 (b : Nat)] w (RisIs n b w) := by
  have HN := Lib.hid hn
  have HB := Lib.hid hb
  obtain ⟨i0, hi, hz0, hz1, hz2⟩ := info_parts info_u64
  have HZ := Lib.hid hz0
  clear hn hb hz0
  go_enter Try.func21, Try.ntmps21
  go_wp2
  go_loopg [6, 5] n (fun g i v wr => ∃ m : Nat, g + m = n ∧ i = .int .i64 m ∧ Hid (wr.ownsRow w.heap.size 35 1 v (len (risL m b)) ((risL m b).map (Value.int .u64))) ∧ Hid (Below w.heap.size w wr))
  case atStart => exact ⟨0, rfl, rfl, Lib.hid (World.ownsRow_nil _ _ _ _), Lib.hid (Below.refl _ _)⟩
  case round =>
    obtain ⟨m, hm, rfl, HO, HW⟩ := hrel
    have hnn := HN.out
    by_cases hlt : m < n
    · have b0 : (m : Int) < n := by omega
      have b1 : (m : Int) < 64 := by omega
      have b2 : ¬ (m : Int) < 0 := by omega
      have b3 : min m 64 = m := by omega
      obtain ⟨x, hx⟩ : ∃ x, b / 2 ^ m = x := ⟨_, rfl⟩
      have s2 : ((b : Nat) : Int) / 2 ^ m = ((x : Nat) : Int) := by rw [pow_cast, ← hx]; rfl
      have hxl : x < 18446744073709551616 := by rw [← hx]; exact Nat.lt_of_le_of_lt (Nat.div_le_self _ _) HB.out
      obtain ⟨y, hy⟩ : ∃ y, x % 2 = y := ⟨_, rfl⟩
      have s3 : bits .and .u64 ((x : Nat) : Int) 1 = ((y : Nat) : Int) := by
        rw [show (1 : Int) = ((1 : Nat) : Int) from rfl, u64_and_nat _ _ hxl (by omega), Nat.and_one_is_mod, hy]
      have HT : Hid (b.testBit m = decide (y = 1)) := Lib.hid (by rw [Nat.testBit_eq_decide_div_mod_eq, hx, hy])
      have HS := Lib.hid (risL_snoc m b)
      have HLE : Hid (len (risL m b) ≤ m) := Lib.hid (risL_le m b)
      have u1 : IntKind.u64.wrap (m : Int) = (m : Int) := IntWalk.u64_in _ (by omega)
      clear hx hxl
      by_cases hy1 : y = 1
      · have y1 : ((y : Nat) : Int) = 1 := by omega
        have HT1 : Hid (risL (m + 1) b = risL m b ++ [((m : Nat) : Int)]) := Lib.hid (by rw [HS.out, HT.out, if_pos (decide_eq_true hy1)])
        have hle := HLE.out
        clear hy hy1
        go_wp2_with (at_builtin; refine wpList_append_own _ rfl _ _ 22 rfl w.heap.size 35 i0 (.int .u64 0) 1 8 Try.underlying22 hi HZ.out hz1 hz2 rfl (by decide) _ _ _ rfl (HO.out.alloc _) ⟨wr.heap.size, 0, none⟩ 1 1 [.int .u64 (m : Nat)] rfl rfl (World.news_of_block (heap_alloc_new _ _)) (by intro u hu9; simp at hu9; subst hu9; rfl) (by unfold maxLen; omega) (by omega) (by have := HW.out.size; simp; omega) ?_; intro v2 w4 hown2 hgrow2 _)
        have HO2 : Hid (w4.ownsRow w.heap.size 35 1 v2 (len (risL (m + 1) b)) ((risL (m + 1) b).map (Value.int .u64))) := Lib.hid (by
          have e9 : len (risL m b ++ [((m : Nat) : Int)]) = len (risL m b) + 1 := by rw [len_eq, List.length_append]; rfl
          rw [HT1.out, List.map_append, e9]
          exact hown2)
        have HB2 : Hid (Below w.heap.size w w4) := Lib.hid (grownBy_below (balloc HW.out _) hgrow2 (fun k hk' => (HO.out.lt k hk').1))
        clear hown2 hgrow2
        go_wp2
        go_roundg (n - (m + 1))
        case rel => exact ⟨m + 1, by omega, by go_num, HO2, HB2⟩
        case measure => omega
      · have y1 : ¬ ((y : Nat) : Int) = 1 := by omega
        have HO2 : Hid (wr.ownsRow w.heap.size 35 1 u5 (len (risL (m + 1) b)) ((risL (m + 1) b).map (Value.int .u64))) := Lib.hid (by
          rw [HS.out, HT.out, if_neg (by rw [decide_eq_false hy1]; simp)]
          exact HO.out)
        clear hy hy1
        go_wp2
        go_roundg (n - (m + 1))
        case rel => exact ⟨m + 1, by omega, by go_num, HO2, HW⟩
        case measure => omega
    · obtain rfl : m = n := by omega
      have b0 : ¬ ((m : Nat) : Int) < (m : Nat) := by omega
      go_wp2
      go_ret
      exact ⟨_, rfl, HO.out, HW.out⟩
set_option maxRecDepth 100000 in
set_option maxHeartbeats 4000000 in
theorem has_any (l : List ByteArray) (x : ByteArray) (a : Option Addr) (cap : Nat) (w : World) (hl : Txts w a l) (hn : len l ≤ 1000000) : Calls Try.prog 24 #[.slice a (len l) cap, .string x] w fun e w' => ∃ q, e = .returned (.bool q) ∧ (q = true ↔ x ∈ l) ∧ Below w.heap.size w w' := by
  have HL := Lib.hid hl
  have HN := Lib.hid hn
  clear hl hn
  go_enter Try.func24, Try.ntmps24
  go_wp2
  go_loopg [5] (len l) (fun g i wr => ∃ m : Nat, g + m = len l ∧ i = .int .i64 m ∧ Hid (∀ j, j < m → tth l j ≠ x) ∧ Hid (Below w.heap.size w wr))
  case atStart => exact ⟨0, rfl, rfl, Lib.hid (fun j hj => by omega), Lib.hid (Below.refl _ _)⟩
  case round =>
    obtain ⟨m, hm, rfl, HE, HW⟩ := hrel
    have hnn := HN.out
    by_cases hlt : m < len l
    · have b0 : (m : Int) < len l := by omega
      obtain ⟨pb, po, rfl, cs⟩ := (HL.out.below HW.out) m hlt
      obtain ⟨y, hy⟩ : ∃ y, tth l m = y := ⟨_, rfl⟩
      rw [hy] at cs
      have HY := Lib.hid hy
      have HLT := Lib.hid hlt
      clear hy
      cases hq : (y.toList == x.toList) with
      | true =>
        have HQ := Lib.hid hq
        go_wp2
        go_ret
        refine ⟨true, rfl, ?_, HW.out⟩
        have h1 : y = x := by
          have := HQ.out
          rw [str_beq] at this
          exact of_decide_eq_true this
        have : x ∈ l := by
          rw [← h1, ← HY.out, tth_eq l m HLT.out]
          exact List.getElem_mem _
        exact ⟨fun _ => this, fun _ => rfl⟩
      | false =>
        have HQ := Lib.hid hq
        go_wp2
        go_roundg (len l - (m + 1))
        case rel => exact ⟨m + 1, by omega, by go_num, Lib.hid (fun j hj => by
          by_cases e : j = m
          · subst e
            rw [HY.out]
            intro h9
            have := HQ.out
            rw [str_beq, h9] at this
            simp at this
          · exact HE.out j (by omega)), HW⟩
        case measure => omega
    · obtain rfl : m = len l := by omega
      have b0 : ¬ ((len l : Nat) : Int) < len l := by omega
      go_wp2
      go_ret
      have HNO : Hid (¬ x ∈ l) := Lib.hid (fun h9 => by
        obtain ⟨j, hj, rfl⟩ := List.mem_iff_getElem.1 h9
        exact HE.out j hj (tth_eq l j hj))
      exact Or.inl ⟨rfl, HNO.out, HW.out⟩
end Go.Proofs.Ytloccahcnikbfaa
namespace Go.Proofs.Ytloccahcnikbfaa
open Go.RowKit
set_option linter.unusedSimpArgs false
set_option linter.unusedVariables false
theorem hashP_small (t : ByteArray) (l : List ByteArray) : (hashP t l).size ≤ 1000000 := by rw [hashP_size]; decide
set_option maxRecDepth 100000 in
set_option maxHeartbeats 4000000 in
theorem works10_any (w : World) : Calls Try.prog 18 #[] w fun e w' => e = .returned (.bool true) ∧ Below w.heap.size w w' := by
  go_enter Try.func18, Try.ntmps18
  go_wp2_with fail
  have ht0 : Txts (w.alloc (.cells #[.string ⟨#[97]⟩, .string ⟨#[98]⟩, .string ⟨#[99]⟩] 9)) (some ⟨w.heap.size, 0, none⟩) abcE := txts_cells (heap_alloc_new _ _) abcE (fun i hi => by
    have : i = 0 ∨ i = 1 ∨ i = 2 := by have : i < 3 := hi; omega
    rcases this with rfl | rfl | rfl <;> rfl)
  refine (build_any abcE (some ⟨w.heap.size, 0, none⟩) 3 _ ht0 (by decide) (fun i hi => by
    have : i = 0 ∨ i = 1 ∨ i = 2 := by have : i < 3 := hi; omega
    rcases this with rfl | rfl | rfl <;> decide)).mono ?_
  rintro e w1 ⟨b, rfl, hbs, htr, hb1⟩
  have HT1 := Lib.hid htr
  have HB1 : Hid (Below w.heap.size w w1) := Lib.hid (bnext (balloc (Below.refl _ _) _) hb1)
  clear ht0 htr hb1 hbs
  go_wp2_with fail
  refine (prove_ok abcE b [0] (some ⟨w1.heap.size, 0, none⟩) 1 _ (HT1.out.below (balloc (Below.refl _ _) _)) (by decide) (fun i hi => ⟨w1.heap.size, 0, rfl, by
    have : i = 0 := by have : i < 1 := hi; omega
    subst this
    rw [block_cell (heap_alloc_new _ _)]; rfl⟩) (by decide) (fun k hk => by simp at hk; subst hk; unfold U64; omega) (by decide)).mono ?_
  rintro e w2 ⟨v, rfl, hown, hb2⟩
  rw [dgsE] at hown
  obtain ⟨pa, pc, rfl, hpt⟩ := own_txts hown
  have HP := Lib.hid hpt
  have HB2 : Hid (Below w.heap.size w w2) := Lib.hid (bnext (balloc HB1.out _) hb2)
  have HT2 : Hid (TreeAt abcE b w2) := Lib.hid ((HT1.out.below (balloc (Below.refl _ _) _)).below hb2)
  clear hown hpt hb2 HT1
  go_wp2_with fail
  refine (hash1_any leafT ⟨#[99]⟩ w2 (by decide) (by decide) (by decide)).mono ?_
  rintro e w3 ⟨rfl, hb3⟩
  have HB3 : Hid (Below w.heap.size w w3) := Lib.hid (bnext HB2.out hb3)
  have HBX3 : Hid (Below w2.heap.size w2 w3) := Lib.hid hb3
  clear hb3
  have hcE : hashP leafT [⟨#[99]⟩] = cE := rfl
  rw [hcE]
  have HCS : Hid (cE.size ≤ 1000000) := Lib.hid (hashP_small _ _)
  have HRS : Hid (rightE.size ≤ 1000000) := Lib.hid (hashP_small _ _)
  obtain ⟨C9, hC9⟩ : ∃ C9, cE = C9 := ⟨_, rfl⟩
  rw [hC9] at HP HCS ⊢
  have HC9 := Lib.hid hC9
  clear hcE hC9
  go_wp2_with fail
  refine (hash1_any leafT ⟨#[98]⟩ w3 (by decide) (by decide) (by decide)).mono ?_
  rintro e w4 ⟨rfl, hb4⟩
  have HB4 : Hid (Below w.heap.size w w4) := Lib.hid (bnext HB3.out hb4)
  have HBX4 : Hid (Below w2.heap.size w2 w4) := Lib.hid (bnext HBX3.out hb4)
  clear hb4
  obtain ⟨B9, hB9⟩ : ∃ B9, hashP leafT [⟨#[98]⟩] = B9 := ⟨_, rfl⟩
  have HBS9 : Hid (B9.size ≤ 1000000) := Lib.hid (by rw [← hB9]; exact hashP_small _ _)
  rw [hB9]
  have HB9 := Lib.hid hB9
  clear hB9
  go_wp2_with fail
  refine (hash0_any noneT w4 (by decide) (by decide)).mono ?_
  rintro e w5 ⟨rfl, hb5⟩
  have HB5 : Hid (Below w.heap.size w w5) := Lib.hid (bnext HB4.out hb5)
  have HBX5 : Hid (Below w2.heap.size w2 w5) := Lib.hid (bnext HBX4.out hb5)
  clear hb5
  obtain ⟨N9, hN9⟩ : ∃ N9, hashP noneT [] = N9 := ⟨_, rfl⟩
  have HNS9 : Hid (N9.size ≤ 1000000) := Lib.hid (by rw [← hN9]; exact hashP_small _ _)
  rw [hN9]
  have HN9 := Lib.hid hN9
  clear hN9
  go_wp2_with fail
  refine (hash2_any nodeT B9 N9 w5 (by decide) (by decide) HBS9.out HNS9.out).mono ?_
  rintro e w6 ⟨rfl, hb6⟩
  have HB6 : Hid (Below w.heap.size w w6) := Lib.hid (bnext HB5.out hb6)
  have hb6x := Lib.hid hb6
  clear hb6
  have HBX : Hid (Below w2.heap.size w2 w6) := Lib.hid (bnext HBX5.out hb6x.out)
  have hR9 : hashP nodeT [B9, N9] = rightE := by rw [← HB9.out, ← HN9.out]; rfl
  rw [hR9]
  obtain ⟨R9, hR8⟩ : ∃ R9, rightE = R9 := ⟨_, rfl⟩
  rw [hR8] at HP HRS ⊢
  have HR9 := Lib.hid hR8
  clear hR9 hR8
  go_wp2_with fail
  refine (errno_any 0 0 w6).mono ?_
  rintro e w7 ⟨rfl, rfl⟩
  rw [show ((0 : Int) == 0) = true from rfl]
  go_wp2_with fail
  have HP6 : Hid (Txts w6 pa [C9, R9]) := Lib.hid (HP.out.below HBX.out)
  have ht6 : Txts (w6.alloc (.cells #[.string C9, .string R9] 9)) (some ⟨w6.heap.size, 0, none⟩) [C9, R9] := txts_cells (heap_alloc_new _ _) [C9, R9] (fun i hi => by
    have : i = 0 ∨ i = 1 := by have : i < 2 := hi; omega
    rcases this with rfl | rfl <;> rfl)
  refine (alike_any [C9, R9] [C9, R9] pa (some ⟨w6.heap.size, 0, none⟩) pc 2 _ (HP6.out.below (balloc (Below.refl _ _) _)) ht6 (by show 2 ≤ 1000000; decide) (by show 2 ≤ 1000000; decide)).mono ?_
  rintro e w7 ⟨rfl, hb7⟩
  rw [show decide ([C9, R9] = [C9, R9]) = true from decide_eq_true rfl]
  have HB7 : Hid (Below w.heap.size w w7) := Lib.hid (bnext (balloc HB6.out _) hb7)
  have HT7 : Hid (TreeAt abcE b w7) := Lib.hid (HT2.out.below (bnext (balloc HBX.out _) hb7))
  clear hb7 ht6
  go_wp2_with fail
  refine (root_any abcE b w7 HT7.out).mono ?_
  rintro e w8 ⟨rfl, rfl⟩
  rw [depE, plE0]
  obtain ⟨T9, hT9⟩ : ∃ T9, hashP nodeT [hashP nodeT [hashP leafT [⟨#[97]⟩], cE], rightE] = T9 := ⟨_, rfl⟩
  have HT9 := Lib.hid hT9
  rw [hT9]
  clear hT9
  go_wp2_with fail
  refine (hash1_any leafT ⟨#[97]⟩ w7 (by decide) (by decide) (by decide)).mono ?_
  rintro e w9 ⟨rfl, hb9⟩
  have HB9w : Hid (Below w.heap.size w w9) := Lib.hid (bnext HB7.out hb9)
  clear hb9
  obtain ⟨A9, hA9⟩ : ∃ A9, hashP leafT [⟨#[97]⟩] = A9 := ⟨_, rfl⟩
  have HAS9 : Hid (A9.size ≤ 1000000) := Lib.hid (by rw [← hA9]; exact hashP_small _ _)
  rw [hA9]
  have HA9 := Lib.hid hA9
  clear hA9
  go_wp2_with fail
  refine (hash2_any nodeT A9 C9 w9 (by decide) (by decide) HAS9.out HCS.out).mono ?_
  rintro e w10 ⟨rfl, hb10⟩
  have HB10 : Hid (Below w.heap.size w w10) := Lib.hid (bnext HB9w.out hb10)
  clear hb10
  obtain ⟨L9, hL9⟩ : ∃ L9, hashP nodeT [A9, C9] = L9 := ⟨_, rfl⟩
  have HLS9 : Hid (L9.size ≤ 1000000) := Lib.hid (by rw [← hL9]; exact hashP_small _ _)
  rw [hL9]
  have HL9 := Lib.hid hL9
  clear hL9
  go_wp2_with fail
  refine (hash2_any nodeT L9 R9 w10 (by decide) (by decide) HLS9.out HRS.out).mono ?_
  rintro e w11 ⟨rfl, hb11⟩
  have HB11 : Hid (Below w.heap.size w w11) := Lib.hid (bnext HB10.out hb11)
  clear hb11
  have hE9 : hashP nodeT [L9, R9] = T9 := by rw [← HL9.out, ← HA9.out, ← HC9.out, ← HR9.out]; exact HT9.out
  rw [hE9]
  clear hE9
  go_wp2
  go_ret
  refine ⟨?_, HB11.out⟩
  simp
end Go.Proofs.Ytloccahcnikbfaa
namespace Go.Proofs.Ytloccahcnikbfaa
open Go.RowKit
set_option linter.unusedSimpArgs false
set_option linter.unusedVariables false
theorem own_set {base n c g m : Nat} {w : World} {e : TypeId} {xs : List Value} {u : Value} (h : w.ownsRow base e 1 (.slice (some ⟨g, 0, none⟩) n c) n xs) : (w.setCell ⟨g, m, none⟩ u).ownsRow base e 1 (.slice (some ⟨g, 0, none⟩) n c) n (xs.set m u) := by
  refine ⟨by rw [List.length_set]; exact h.1, ?_⟩
  rcases h.2 with ⟨hz, _⟩ | ⟨g9, cap, cur, hv, hg, hh, h1, h2, h3, h4⟩
  · cases hz
  · cases hv
    refine Or.inr ⟨g, c, cur.setIfInBounds m u, rfl, hg, block_setCell hh u, h1, h2, by rw [Array.size_setIfInBounds]; exact h3, ?_⟩
    rw [Array.toList_setIfInBounds, ← h4, List.take_set]
theorem own_at {base n c : Nat} {w : World} {a : Option Addr} {l : List ByteArray} (h : w.ownsRow base 9 1 (.slice a n c) n (l.map Value.string)) (m : Nat) (hm : m < n) : ∃ g, a = some ⟨g, 0, none⟩ ∧ base ≤ g ∧ w.cell? ⟨g, m, none⟩ = some (.string (tth l m)) ∧ w.frozen? ⟨g, m, none⟩ = false ∧ g < w.heap.size := by
  have hn : l.length = n := by have := h.1; simpa using this
  rcases h.2 with ⟨hz, h9⟩ | ⟨g9, cap, cur, hv, hg, hh, h1, h2, h3, h4⟩
  · omega
  · cases hv
    refine ⟨g9, rfl, hg, ?_, block_free hh m, lt_of_block hh⟩
    have h5 := h.cellAt m (by omega)
    have hi2 : m < l.length := by omega
    rw [h5, List.getElem?_map, List.getElem?_eq_getElem hi2, tth_eq l m hi2]; rfl
theorem own_lenT {base n : Nat} {w : World} {v : Value} {l : List ByteArray} (h : w.ownsRow base 9 1 v n (l.map Value.string)) : len l = n := by have := h.1; rw [len_eq]; simpa using this
end Go.Proofs.Ytloccahcnikbfaa
namespace Go.Proofs.Ytloccahcnikbfaa
open Go.RowKit
set_option linter.unusedSimpArgs false
set_option linter.unusedVariables false
set_option maxRecDepth 100000 in
set_option maxHeartbeats 8000000 in
theorem together_law (l : List ByteArray) (a0 : Option Addr) (c0 : Nat) (A B : Nat) (w : World) (hl : Txts w a0 l) (hn : len l ≤ 9223372036854775807) (hA : A < 18446744073709551616) (hB : B < 18446744073709551616) :
    Calls Try.prog 6 #[.slice a0 (len l) c0, .int .u64 (A : Nat), .int .u64 (B : Nat)] w fun e w' => e = .returned (.bool true) ∧ Below w.heap.size w w' := by
  have HL := Lib.hid hl
  have HN := Lib.hid hn
  have HA := Lib.hid hA
  have HBb := Lib.hid hB
  have OR : Hid (bits .or .u64 ((A : Nat) : Int) ((B : Nat) : Int) = ((A ||| B : Nat) : Int) ∧ A ||| B < 18446744073709551616) := Lib.hid ⟨u64_or_nat A B hA hB, Nat.or_lt_two_pow (n := 64) hA hB⟩
  clear hl hn hA hB
  go_enter Try.func6, Try.ntmps6
  go_wp2_with fail
  refine (works10_any w).mono ?_
  rintro e w1 ⟨rfl, hb1⟩
  have HB1 := Lib.hid hb1
  clear hb1
  go_wp2_with fail
  refine (few_any l a0 c0 w1 (HL.out.below HB1.out) HN.out).mono ?_
  rintro e w2 ⟨v, L, rfl, hown, h40, hsz, hb2⟩
  obtain ⟨a, c, rfl, _⟩ := own_txts hown
  obtain ⟨n, hnn⟩ : ∃ n, len L = n := ⟨_, rfl⟩
  rw [hnn] at hown h40 ⊢
  have HO := Lib.hid hown
  have HSZ : Hid (∀ x ∈ L, x.size ≤ 40 + 0) := Lib.hid (fun x hx => hsz x hx)
  have H40 := Lib.hid h40
  have HB2 : Hid (Below w.heap.size w w2) := Lib.hid (bnext HB1.out hb2)
  have HBS : Hid (w.heap.size ≤ w1.heap.size) := Lib.hid HB1.out.size
  obtain ⟨B9, hB9⟩ : ∃ B9, w1.heap.size = B9 := ⟨_, rfl⟩
  rw [hB9] at HO HBS
  clear hown hsz hb2 hnn hB9 h40
  go_wp2
  go_loopg [7] n (fun g i wr => ∃ (m : Nat) (K : List ByteArray), g + m = n ∧ i = .int .i64 m ∧ Hid (wr.ownsRow B9 9 1 (.slice a n c) n (K.map Value.string)) ∧ Hid (∀ x ∈ K, x.size ≤ 40 + m) ∧ Hid (Below w.heap.size w wr))
  case atStart => exact ⟨0, L, rfl, rfl, HO, HSZ, HB2⟩
  case round =>
    clear HO HSZ HB2
    obtain ⟨m, K, hm, rfl, HO, HSZ, HW⟩ := hrel
    have hn40 := H40.out
    by_cases hlt : m < n
    · have b0 : (m : Int) < n := by omega
      obtain ⟨g, rfl, hg, cs, cf, cl⟩ := own_at HO.out m hlt
      obtain ⟨x, hx⟩ : ∃ x, tth K m = x := ⟨_, rfl⟩
      have hxs : x.size ≤ 40 + m := by
        have hk := own_lenT HO.out
        have h2 : m < K.length := by rw [len_eq] at hk; omega
        rw [← hx, tth_eq K m h2]
        exact HSZ.out _ (List.getElem_mem h2)
      rw [hx] at cs
      have bl : ¬ n ≤ m := by omega
      have k1 : IntKind.u8.wrap (m : Int) = (m : Int) := IntWalk.u8_in _ (by omega)
      have K9 : Hid ((#[Value.int .u8 ((m : Nat) : Int)])[0 + 0]? = some (byV (UInt8.ofNat m))) := Lib.hid (by
        show some (Value.int .u8 ((m : Nat) : Int)) = some _
        unfold byV
        rw [UInt8.toNat_ofNat', Nat.mod_eq_of_lt (by omega)])
      have xz : 1 + x.size ≤ 9223372036854775807 := by omega
      have HXS := Lib.hid hxs
      have HG := Lib.hid hg
      clear hx hxs hg
      go_upto_region 7 with fail
      refine wp_region_tail 12 1000 (none) (phis [fun u _ => u = (.slice (some ⟨g, 0, none⟩) n c), fun u _ => u = (.int .i64 (m : Nat)), fun u _ => u = (.int .i64 (m : Nat)), fun u _ => u = (.int .u8 (m : Nat)), fun u w' => ∃ b, u = .slice (some ⟨b, 0, none⟩) 1 1 ∧ w'.heap[b]? = some (.cells #[.int .u8 (m : Nat)] 5 (0, 0)), fun u _ => u = (.string ⟨#[UInt8.ofNat m]⟩), fun u _ => u = (.slice (some ⟨g, 0, none⟩) n c), fun u _ => u = (.int .i64 (m : Nat)), fun u _ => u = (.pointer (some ⟨g, m, none⟩)), fun u _ => u = (.string x), fun u _ => u = (.string ((⟨#[UInt8.ofNat m]⟩ : ByteArray) ++ x)), fun u _ => u = (.pointer (some ⟨g, m, none⟩))]) rfl (by kernel_rfl) (by kernel_rfl) (mono_of ⟨mono_eq, mono_eq, mono_eq, mono_eq, ?m4, mono_eq, mono_eq, mono_eq, mono_eq, mono_eq, mono_eq, mono_eq, trivial⟩) (steps_of 12 ⟨?s0, ?s1, ?s2, ?s3, ?s4, ?s5, ?s6, ?s7, ?s8, ?s9, ?s10, ?s11, trivial⟩) ?_
      case m4 =>
        exact ⟨fun u w1 w' h ⟨b, h1, hb⟩ => ⟨b, h1, ext_block h hb⟩, fun _ u w1 w' h ⟨b, h1, hb⟩ => ⟨b, h1, extB_block h (by simp) hb⟩⟩
      case s0 =>
        refine step_val (v := (.slice (some ⟨g, 0, none⟩) n c)) (fun av wv hE hS hO hD => ?_) (fun _ => rfl)
        have h0 : av.eval (.tmp 0) = (.slice (some ⟨g, 0, none⟩) n c) := hO.2.2 0 rfl
        have f0 := (ev_form av 0).symm.trans h0
        refine ⟨rfl, ?_⟩
        simp [go_sem, f0, bl, k1, xz]
      case s1 =>
        refine step_val (v := (.int .i64 (m : Nat))) (fun av wv hE hS hO hD => ?_) (fun _ => rfl)
        have h7 : av.eval (.tmp 7) = (.int .i64 (m : Nat)) := hO.2.2 7 rfl
        have f7 := (ev_form av 7).symm.trans h7
        refine ⟨rfl, ?_⟩
        simp [go_sem, f7, bl, k1, xz]
      case s2 =>
        refine step_val (v := (.int .i64 (m : Nat))) (fun av wv hE hS hO hD => ?_) (fun _ => rfl)
        have h7 : av.eval (.tmp 7) = (.int .i64 (m : Nat)) := hO.2.2 7 rfl
        have f7 := (ev_form av 7).symm.trans h7
        refine ⟨rfl, ?_⟩
        simp [go_sem, f7, bl, k1, xz]
      case s3 =>
        refine step_val (v := (.int .u8 (m : Nat))) (fun av wv hE hS hO hD => ?_) (fun _ => rfl)
        have d34 : av.eval (.tmp 34) = (.int .i64 (m : Nat)) := hD.1 rfl _ rfl
        have f34 := (ev_form av 34).symm.trans d34
        refine ⟨rfl, ?_⟩
        simp [go_sem, f34, bl, k1, xz]
      case s4 =>
        refine step_wp (fun av wv hE hS hO hD => ?_)
        have d35 : av.eval (.tmp 35) = (.int .u8 (m : Nat)) := hD.1 rfl _ rfl
        have f35 := (ev_form av 35).symm.trans d35
        refine ⟨rfl, ?_⟩
        exact wp_of_run (v := .slice (some ⟨wv.heap.size, 0, none⟩) 1 1) (w' := wv.alloc (.cells #[.int .u8 (m : Nat)] 5)) (by simp [go_sem, f35]) ⟨_, rfl, es_of_ext (balloc (Ext_refl _) _), wv.heap.size, rfl, heap_alloc_new _ _⟩
      case s5 =>
        refine step_wp (fun av wv hE hS hO hD => ?_)
        have d36 : (fun u w' => ∃ b, u = .slice (some ⟨b, 0, none⟩) 1 1 ∧ w'.heap[b]? = some (.cells #[.int .u8 (m : Nat)] 5 (0, 0))) (av.eval (.tmp 36)) wv := hD.1 rfl _ rfl
        refine ⟨rfl, ?_⟩
        obtain ⟨b36, h36, hb36⟩ := d36
        have f36 := (ev_form av 36).symm.trans h36
        have cv : (convert 39 9 (.slice (some ⟨b36, 0, none⟩) 1 1)).run Try.prog wv = .ok (.string ⟨#[UInt8.ofNat m]⟩) wv := conv_block wv b36 0 1 1 [UInt8.ofNat m] rfl (fun i hi => by
          have : i = 0 := by omega
          subst this
          rw [block_cell hb36, K9.out]; rfl)
        exact wp_of_run (v := .string ⟨#[UInt8.ofNat m]⟩) (by simp [go_sem, f36, cv]) ⟨_, rfl, es_of_ext (Ext_refl _), rfl⟩
      case s6 =>
        refine step_val (v := (.slice (some ⟨g, 0, none⟩) n c)) (fun av wv hE hS hO hD => ?_) (fun _ => rfl)
        have h0 : av.eval (.tmp 0) = (.slice (some ⟨g, 0, none⟩) n c) := hO.2.2 0 rfl
        have f0 := (ev_form av 0).symm.trans h0
        refine ⟨rfl, ?_⟩
        simp [go_sem, f0, bl, k1, xz]
      case s7 =>
        refine step_val (v := (.int .i64 (m : Nat))) (fun av wv hE hS hO hD => ?_) (fun _ => rfl)
        have h7 : av.eval (.tmp 7) = (.int .i64 (m : Nat)) := hO.2.2 7 rfl
        have f7 := (ev_form av 7).symm.trans h7
        refine ⟨rfl, ?_⟩
        simp [go_sem, f7, bl, k1, xz]
      case s8 =>
        refine step_val (v := (.pointer (some ⟨g, m, none⟩))) (fun av wv hE hS hO hD => ?_) (fun _ => rfl)
        have d38 : av.eval (.tmp 38) = (.slice (some ⟨g, 0, none⟩) n c) := hD.1 rfl _ rfl
        have f38 := (ev_form av 38).symm.trans d38
        have d39 : av.eval (.tmp 39) = (.int .i64 (m : Nat)) := hD.2.1 rfl _ rfl
        have f39 := (ev_form av 39).symm.trans d39
        refine ⟨rfl, ?_⟩
        simp [go_sem, f38, f39, bl, k1, xz]
      case s9 =>
        refine step_val (v := (.string x)) (fun av wv hE hS hO hD => ?_) (fun _ => rfl)
        have d40 : av.eval (.tmp 40) = (.pointer (some ⟨g, m, none⟩)) := hD.1 rfl _ rfl
        have f40 := (ev_form av 40).symm.trans d40
        have cs := extB_cell hE (by simp) cs
        refine ⟨rfl, ?_⟩
        simp [go_sem, f40, cs, bl, k1, xz]
      case s10 =>
        refine step_val (v := (.string ((⟨#[UInt8.ofNat m]⟩ : ByteArray) ++ x))) (fun av wv hE hS hO hD => ?_) (fun _ => rfl)
        have d37 : av.eval (.tmp 37) = (.string ⟨#[UInt8.ofNat m]⟩) := hD.1 rfl _ rfl
        have f37 := (ev_form av 37).symm.trans d37
        have d41 : av.eval (.tmp 41) = (.string x) := hD.2.1 rfl _ rfl
        have f41 := (ev_form av 41).symm.trans d41
        refine ⟨rfl, ?_⟩
        simp [go_sem, f37, f41, bl, k1, xz]
      case s11 =>
        refine step_val (v := (.pointer (some ⟨g, m, none⟩))) (fun av wv hE hS hO hD => ?_) (fun _ => rfl)
        have d32 : av.eval (.tmp 32) = (.slice (some ⟨g, 0, none⟩) n c) := hD.1 rfl _ rfl
        have f32 := (ev_form av 32).symm.trans d32
        have d33 : av.eval (.tmp 33) = (.int .i64 (m : Nat)) := hD.2.1 rfl _ rfl
        have f33 := (ev_form av 33).symm.trans d33
        refine ⟨rfl, ?_⟩
        simp [go_sem, f32, f33, bl, k1, xz]
      intro a' w' hE hO hall
      have hA := act_of_outer (ds := [32, 33, 34, 35, 36, 37, 38, 39, 40, 41, 42, 43]) rfl hO (by kernel_rfl)
      have e32 : (fun u _ => u = (.slice (some ⟨g, 0, none⟩) n c)) (a'.eval (.tmp 32)) w' := hall.1 _ rfl
      have e33 : (fun u _ => u = (.int .i64 (m : Nat))) (a'.eval (.tmp 33)) w' := hall.2.1 _ rfl
      have e34 : (fun u _ => u = (.int .i64 (m : Nat))) (a'.eval (.tmp 34)) w' := hall.2.2.1 _ rfl
      have e35 : (fun u _ => u = (.int .u8 (m : Nat))) (a'.eval (.tmp 35)) w' := hall.2.2.2.1 _ rfl
      have e36 : (fun u w' => ∃ b, u = .slice (some ⟨b, 0, none⟩) 1 1 ∧ w'.heap[b]? = some (.cells #[.int .u8 (m : Nat)] 5 (0, 0))) (a'.eval (.tmp 36)) w' := hall.2.2.2.2.1 _ rfl
      have e37 : (fun u _ => u = (.string ⟨#[UInt8.ofNat m]⟩)) (a'.eval (.tmp 37)) w' := hall.2.2.2.2.2.1 _ rfl
      have e38 : (fun u _ => u = (.slice (some ⟨g, 0, none⟩) n c)) (a'.eval (.tmp 38)) w' := hall.2.2.2.2.2.2.1 _ rfl
      have e39 : (fun u _ => u = (.int .i64 (m : Nat))) (a'.eval (.tmp 39)) w' := hall.2.2.2.2.2.2.2.1 _ rfl
      have e40 : (fun u _ => u = (.pointer (some ⟨g, m, none⟩))) (a'.eval (.tmp 40)) w' := hall.2.2.2.2.2.2.2.2.1 _ rfl
      have e41 : (fun u _ => u = (.string x)) (a'.eval (.tmp 41)) w' := hall.2.2.2.2.2.2.2.2.2.1 _ rfl
      have e42 : (fun u _ => u = (.string ((⟨#[UInt8.ofNat m]⟩ : ByteArray) ++ x))) (a'.eval (.tmp 42)) w' := hall.2.2.2.2.2.2.2.2.2.2.1 _ rfl
      have e43 : (fun u _ => u = (.pointer (some ⟨g, m, none⟩))) (a'.eval (.tmp 43)) w' := hall.2.2.2.2.2.2.2.2.2.2.2.1 _ rfl
      obtain ⟨v36, hv36⟩ : ∃ v, a'.eval (.tmp 36) = v := ⟨_, rfl⟩
      rw [hv36] at e36
      simp only [List.foldl_cons, List.foldl_nil, Act.put, List.setIfInBounds_toArray, List.set_cons_succ, List.set_cons_zero, e32, e33, e34, e35, hv36, e37, e38, e39, e40, e41, e42, e43] at hA
      clear hO hall e32 e33 e34 e35 hv36 e37 e38 e39 e40 e41 e42 e43
      subst hA
      have hEw := of_drew hE
      have HO1 := Lib.hid (own_below HO.out hEw)
      have HW1 : Hid (Below w.heap.size w w') := Lib.hid (bnext HW.out hEw)
      have cs1 : w'.cell? ⟨g, m, none⟩ = some (.string x) := (World.cell?_of_block (w := wr) (hEw.block _ cl)).trans cs
      have cf1 : w'.frozen? ⟨g, m, none⟩ = false := (World.frozen?_of_block (w := wr) (hEw.block _ cl)).trans cf
      have cl1 : g < w'.heap.size := Nat.lt_of_lt_of_le cl hEw.size
      obtain ⟨Y9, hY9⟩ : ∃ Y9, (⟨#[UInt8.ofNat m]⟩ : ByteArray) ++ x = Y9 := ⟨_, rfl⟩
      have HYS : Hid (Y9.size ≤ 40 + (m + 1)) := Lib.hid (by rw [← hY9, ByteArray.size_append]; have := HXS.out; show 1 + x.size ≤ 40 + (m + 1); omega)
      rw [hY9]
      clear hE hEw e36 cs cf cl bl k1 xz hY9
      go_wp2
      go_roundg (n - (m + 1))
      case rel => exact ⟨m + 1, K.set m Y9, by omega, by go_num, Lib.hid (by rw [List.map_set]; exact own_set HO1.out), Lib.hid (fun y hy => by
        rcases List.mem_or_eq_of_mem_set hy with h9 | rfl
        · have := HSZ.out y h9; omega
        · exact HYS.out), Lib.hid (bset HW1.out (Nat.le_trans HBS.out HG.out) _)⟩
      case measure => omega
    · obtain rfl : m = n := by omega
      have b0 : ¬ ((m : Nat) : Int) < (m : Nat) := by omega
      have hK := own_lenT HO.out
      obtain ⟨a9, c9, hv9, hT9⟩ := own_txts HO.out
      have e1 : a9 = a ∧ c9 = c := by injection hv9 with h1 h2 h3; exact ⟨h1.symm, h3.symm⟩
      obtain ⟨rfl, rfl⟩ := e1
      have HKZ : Hid (∀ j, j < len K → (tth K j).size ≤ 140737488355200) := Lib.hid (fun j hj => by
        rw [tth_eq K j hj]
        have := HSZ.out _ (List.getElem_mem (show j < K.length from hj)); omega)
      have HBD := Lib.hid (build_any K a9 c9 wr hT9 (by omega) HKZ.out)
      rw [hK] at HBD
      obtain ⟨d, hd⟩ : ∃ d, depN K = d := ⟨_, rfl⟩
      have HDD := Lib.hid hd
      have HK := Lib.hid hK
      have HD16 : Hid (d ≤ 16) := Lib.hid (by rw [← hd]; exact depN_le (by omega))
      have HDZ : Hid (depthZ (m : Nat) = (d : Nat)) := Lib.hid (by rw [← hd, ← hK]; exact depthZ_len (by omega))
      clear hv9 hT9 hK hd HO HSZ
      go_wp2_with fail
      refine HBD.out.mono ?_
      rintro e w3 ⟨b, rfl, hbs, htr, hb3⟩
      have HT3 := Lib.hid htr
      have HB3 : Hid (Below w.heap.size w w3) := Lib.hid (bnext HW.out hb3)
      clear htr hb3 hbs HBD
      go_wp2_with fail
      refine (rising_any m A w3 (by omega) HA.out).mono ?_
      rintro e w4 ⟨vp, rfl, ho4, hb4⟩
      obtain ⟨ap, cp, rfl, hp4, hcp1, hcp2⟩ := own_u64 ho4
      have HP4 := Lib.hid hp4
      have HX4 : Hid (Below w3.heap.size w3 w4) := Lib.hid hb4
      clear ho4 hp4 hb4
      go_wp2_with fail
      refine (rising_any m B w4 (by omega) HBb.out).mono ?_
      rintro e w5 ⟨vq, rfl, ho5, hb5⟩
      obtain ⟨aq, cq, rfl, hp5, hcq1, hcq2⟩ := own_u64 ho5
      have HP5 := Lib.hid hp5
      have HX5 : Hid (Below w3.heap.size w3 w5) := Lib.hid (bnext HX4.out hb5)
      have HP45 := Lib.hid (HP4.out.below hb5)
      clear ho5 hp5 hb5 HP4
      go_wp2_with fail
      rw [OR.out.1]
      refine (rising_any m (A ||| B) w5 (by omega) OR.out.2).mono ?_
      rintro e w6 ⟨vr, rfl, ho6, hb6⟩
      obtain ⟨ar, cr, rfl, hp6, hcr1, hcr2⟩ := own_u64 ho6
      have HP6 := Lib.hid hp6
      have HX6 : Hid (Below w3.heap.size w3 w6) := Lib.hid (bnext HX5.out hb6)
      have HQ6 := Lib.hid (HP5.out.below hb6)
      have HPP6 := Lib.hid (HP45.out.below hb6)
      clear ho6 hp6 hb6 HP5 HP45
      have HT6 := Lib.hid (HT3.out.below HX6.out)
      have HB6 : Hid (Below w.heap.size w w6) := Lib.hid (bnext HB3.out HX6.out)
      obtain ⟨P, hP⟩ : ∃ P, risL m A = P := ⟨_, rfl⟩
      obtain ⟨Q, hQ⟩ : ∃ Q, risL m B = Q := ⟨_, rfl⟩
      obtain ⟨R, hR⟩ : ∃ R, risL m (A ||| B) = R := ⟨_, rfl⟩
      have HLP : Hid (len P ≤ 40 ∧ len Q ≤ 40 ∧ len R ≤ 40) := Lib.hid (by
        have h1 := risL_le m A
        have h2 := risL_le m B
        have h3 := risL_le m (A ||| B)
        rw [hP] at h1
        rw [hQ] at h2
        rw [hR] at h3
        omega)
      have HMP : Hid ((0 < len P → MayOk (m : Nat) P) ∧ (0 < len Q → MayOk (m : Nat) Q) ∧ (0 < len R → MayOk (m : Nat) R)) := Lib.hid ⟨by rw [← hP]; exact ris_may m A, by rw [← hQ]; exact ris_may m B, by rw [← hR]; exact ris_may m (A ||| B)⟩
      have HU : Hid ((∀ k ∈ P, U64 k) ∧ (∀ k ∈ Q, U64 k) ∧ (∀ k ∈ R, U64 k)) := Lib.hid ⟨by rw [← hP]; exact ris_u64 m A (by omega), by rw [← hQ]; exact ris_u64 m B (by omega), by rw [← hR]; exact ris_u64 m (A ||| B) (by omega)⟩
      have HOR : Hid (∀ k, k ∈ R ↔ k ∈ P ∨ k ∈ Q) := Lib.hid (fun k => by rw [← hP, ← hQ, ← hR]; exact risL_or m A B k)
      rw [hP] at HPP6 hcp1
      rw [hQ] at HQ6
      rw [hR] at HP6
      rw [hP, hQ, hR]
      clear hP hQ hR hcq1 hcr1 hcp2 hcq2 hcr2 HX4 HX5 HX6 HT3
      by_cases hz1 : len P = 0
      · have z1 : ((len P : Nat) : Int) = 0 := by omega
        have z2 : (((len P : Nat) : Int) == 0) = true := by simp; omega
        clear hz1 hcp1
        go_wp2
        go_ret
        exact ⟨rfl, HB6.out⟩
      · have z1 : ¬ ((len P : Nat) : Int) = 0 := by omega
        have z2 : (((len P : Nat) : Int) == 0) = false := by simp; omega
        by_cases hz3 : len Q = 0
        · have z3 : ((len Q : Nat) : Int) = 0 := by omega
          have z4 : (((len Q : Nat) : Int) == 0) = true := by simp; omega
          clear hz1 hz3 hcp1
          go_wp2
          go_ret
          exact ⟨rfl, HB6.out⟩
        · have z3 : ¬ ((len Q : Nat) : Int) = 0 := by omega
          have z4 : (((len Q : Nat) : Int) == 0) = false := by simp; omega
          have HPZ := Lib.hid hz1
          have HQZ := Lib.hid hz3
          obtain ⟨x, hx⟩ : ∃ x, nth P 0 = x := ⟨_, rfl⟩
          have hxm : x ∈ P := by rw [← hx]; exact mem_nth (by omega)
          have HX1 : Hid (U64s w6 ap [x]) := Lib.hid (fun i hi => by
            have hi0 : i = 0 := by have : i < 1 := hi; omega
            subst hi0
            have := HPP6.out 0 (by omega)
            rw [hx] at this
            exact this)
          have HXM : Hid (MayOk (m : Nat) [x]) := Lib.hid (may_of (Nat.zero_lt_one) (List.pairwise_singleton _ _) (fun k hk => by
            rw [List.mem_singleton] at hk
            subst hk
            have h9 := (HMP.out.1 (by omega)).2 0 (by omega)
            rw [hx] at h9
            exact h9.1))
          have HXU : Hid (∀ k ∈ [x], U64 k) := Lib.hid (fun k hk => by rw [List.mem_singleton] at hk; subst hk; exact HU.out.1 _ hxm)
          have q1 : ¬ cp < 1 := by omega
          have q2 : ¬ (cp : Int) < 1 := by omega
          clear hz1 hz3 hcp1 hx hxm
          go_wp2_with fail
          have HC1 : Calls Try.prog 22 #[.pointer (some ⟨b, 0, none⟩), .slice ap 1 cp] w6 (ProofIs (dgsL K (plcL (len K : Nat) [x])) 0 w6) := prove_ok K b [x] ap cp w6 HT6.out (by have := HK.out; omega) HX1.out (by show 1 ≤ 100; decide) HXU.out (by rw [HK.out]; exact HXM.out)
          refine HC1.mono ?_
          rintro e w7 ⟨v7, rfl, ho7, hb7⟩
          obtain ⟨a7, c7, rfl, ht7⟩ := own_txts ho7
          have HT7 := Lib.hid (HT6.out.below hb7)
          have HB7 : Hid (Below w.heap.size w w7) := Lib.hid (bnext HB6.out hb7)
          have HP7 := Lib.hid (HPP6.out.below hb7)
          have HQ7 := Lib.hid (HQ6.out.below hb7)
          have HR7 := Lib.hid (HP6.out.below hb7)
          clear HC1 ho7 ht7 hb7 HX1
          go_wp2_with fail
          refine (prove_ok K b P ap cp w7 HT7.out (by have := HK.out; omega) HP7.out (by have := HLP.out.1; omega) HU.out.1 (by rw [HK.out]; exact HMP.out.1 (by have := HPZ.out; omega))).mono ?_
          rintro e w8 ⟨v8, rfl, ho8, hb8⟩
          obtain ⟨a8, c8, rfl, ht8⟩ := own_txts ho8
          have HX8 := Lib.hid ht8
          have HT8 := Lib.hid (HT7.out.below hb8)
          have HB8 : Hid (Below w.heap.size w w8) := Lib.hid (bnext HB7.out hb8)
          have HQ8 := Lib.hid (HQ7.out.below hb8)
          have HR8 := Lib.hid (HR7.out.below hb8)
          clear ho8 ht8 hb8
          go_wp2_with fail
          refine (prove_ok K b Q aq cq w8 HT8.out (by have := HK.out; omega) HQ8.out (by have := HLP.out.2.1; omega) HU.out.2.1 (by rw [HK.out]; exact HMP.out.2.1 (by have := HQZ.out; omega))).mono ?_
          rintro e w9 ⟨v9, rfl, ho9, hb9⟩
          obtain ⟨a10, c10, rfl, ht9⟩ := own_txts ho9
          have HY9 := Lib.hid ht9
          have HX9 := Lib.hid (HX8.out.below hb9)
          have HT9 := Lib.hid (HT8.out.below hb9)
          have HB9 : Hid (Below w.heap.size w w9) := Lib.hid (bnext HB8.out hb9)
          have HR9 := Lib.hid (HR8.out.below hb9)
          clear ho9 ht9 hb9
          have HRZ : Hid (0 < len R) := Lib.hid (by
            have h1 : nth P 0 ∈ P := mem_nth (by have := HPZ.out; omega)
            have h2 := (HOR.out _).2 (Or.inl h1)
            exact List.length_pos_of_mem h2)
          go_wp2_with fail
          refine (prove_ok K b R ar cr w9 HT9.out (by have := HK.out; omega) HR9.out (by have := HLP.out.2.2; omega) HU.out.2.2 (by rw [HK.out]; exact HMP.out.2.2 HRZ.out)).mono ?_
          rintro e w10 ⟨v10, rfl, ho10, hb10⟩
          obtain ⟨a11, c11, rfl, ht10⟩ := own_txts ho10
          have HZ10 := Lib.hid ht10
          have HX10 := Lib.hid (HX9.out.below hb10)
          have HY10 := Lib.hid (HY9.out.below hb10)
          have HT10 := Lib.hid (HT9.out.below hb10)
          have HB10 : Hid (Below w.heap.size w w10) := Lib.hid (bnext HB9.out hb10)
          clear ho10 ht10 hb10
          obtain ⟨D1, hD1⟩ : ∃ D1, dgsL K (plcL (len K : Nat) [x]) = D1 := ⟨_, rfl⟩
          obtain ⟨DP, hDP⟩ : ∃ DP, dgsL K (plcL (len K : Nat) P) = DP := ⟨_, rfl⟩
          obtain ⟨DQ, hDQ⟩ : ∃ DQ, dgsL K (plcL (len K : Nat) Q) = DQ := ⟨_, rfl⟩
          obtain ⟨DR, hDR⟩ : ∃ DR, dgsL K (plcL (len K : Nat) R) = DR := ⟨_, rfl⟩
          have hd9 : depthZ (len K : Nat) = (d : Nat) := by rw [HK.out]; exact HDZ.out
          have hpb := plc_both hd9 HD16.out (show 0 < len P by have := HPZ.out; omega) (show 0 < len Q by have := HQZ.out; omega) HRZ.out HOR.out
          have e1 : len D1 = d := by rw [← hD1, dgs_len]; exact plc_one hd9 HD16.out
          have e2 : len DR ≤ len DP + len DQ := by rw [← hDR, ← hDP, ← hDQ, dgs_len, dgs_len, dgs_len]; exact hpb.1
          have e3 : len DP ≤ 1600 := by rw [← hDP, dgs_len]; exact plc_len _ _ (by have := HLP.out; omega)
          have e4 : len DQ ≤ 1600 := by rw [← hDQ, dgs_len]; exact plc_len _ _ (by have := HLP.out; omega)
          have HMM : Hid (∀ s ∈ DR, s ∈ DP ∨ s ∈ DQ) := Lib.hid (by rw [← hDR, ← hDP, ← hDQ]; exact dgs_mem hpb.2)
          rw [hDP] at HX10
          rw [hDQ] at HY10
          rw [hDR] at HZ10
          rw [hD1, hDP, hDQ, hDR]
          have HDP := Lib.hid (tdepth_any K b w10 HT10.out)
          rw [HDD.out] at HDP
          have HE34 := Lib.hid (show len DP ≤ 1600 ∧ len DQ ≤ 1600 ∧ len DR ≤ 3200 from ⟨e3, e4, by omega⟩)
          clear hD1 hDP hDQ hDR hd9 hpb q1 q2 z1 z2 z3 z4
          rw [e1]
          clear e1
          go_wp2_with fail
          refine HDP.out.mono ?_
          rintro e w11 ⟨rfl, rfl⟩
          have f1 : ¬ ((len DP : Nat) : Int) + ((len DQ : Nat) : Int) < ((len DR : Nat) : Int) := by omega
          go_upto_region 21 with fail
          clear e2 e3 e4 f1
          go_loopg [21] (len DR) (fun g i wr => ∃ q : Nat, g + q = len DR ∧ i = .int .i64 q ∧ Hid (Below w10.heap.size w10 wr))
          case atStart => exact ⟨0, rfl, rfl, Lib.hid (Below.refl _ _)⟩
          case round =>
            obtain ⟨q, hq, rfl, HWq⟩ := hrel
            have hbb := HE34.out.2.2
            by_cases hlq : q < len DR
            · have b1 : (q : Int) < len DR := by omega
              obtain ⟨rb, ro, rfl, cz⟩ := (HZ10.out.below HWq.out) q hlq
              obtain ⟨s, hs⟩ : ∃ s, tth DR q = s := ⟨_, rfl⟩
              rw [hs] at cz
              have HSM : Hid (s ∈ DP ∨ s ∈ DQ) := Lib.hid (HMM.out s (by rw [← hs, tth_eq DR q hlq]; exact List.getElem_mem _))
              clear hs
              go_wp2_with fail
              refine (has_any DP s a8 c8 wr (HX10.out.below HWq.out) (by have := HE34.out; omega)).mono ?_
              rintro e w12 ⟨y1, rfl, hy1, hb12⟩
              have HB12 := Lib.hid hb12
              have HW12 : Hid (Below w10.heap.size w10 w12) := Lib.hid (bnext HWq.out hb12)
              have cz2 : w12.cell? ⟨rb, ro + q, none⟩ = some (.string s) := (hb12.cell (p := ⟨rb, ro + q, none⟩) (lt_of_cell cz)).trans cz
              have HY1 := Lib.hid hy1
              clear hb12 hy1 cz
              cases y1 with
              | true =>
                go_wp2
                go_roundg (len DR - (q + 1))
                case rel => exact ⟨q + 1, by omega, by go_num, HW12⟩
                case measure => omega
              | false =>
                have HS2 : Hid (s ∈ DQ) := Lib.hid (by
                  rcases HSM.out with h9 | h9
                  · exact absurd (HY1.out.2 h9) (by simp)
                  · exact h9)
                go_wp2_with fail
                refine (has_any DQ s a10 c10 w12 (HY10.out.below HW12.out) (by have := HE34.out; omega)).mono ?_
                rintro e w13 ⟨y2, rfl, hy2, hb13⟩
                have HW13 : Hid (Below w10.heap.size w10 w13) := Lib.hid (bnext HW12.out hb13)
                obtain rfl : y2 = true := hy2.2 HS2.out
                clear hb13 hy2
                go_wp2
                go_roundg (len DR - (q + 1))
                case rel => exact ⟨q + 1, by omega, by go_num, HW13⟩
                case measure => omega
            · obtain rfl : q = len DR := by omega
              have b1 : ¬ ((len DR : Nat) : Int) < len DR := by omega
              go_wp2
              go_ret
              exact ⟨rfl, bnext HB10.out HWq.out⟩
end Go.Proofs.Ytloccahcnikbfaa
namespace Go.Proofs.Ytloccahcnikbfaa
set_option linter.unusedSimpArgs false
set_option linter.unusedVariables false
open Go.RowKit Go.ChangeShapes Go.WideShapes Go.ChangeAt Go.Deep
section
variable {H : Type} {enc : TypeId × Value → H} {P : Program} {w : World}
theorem below_trodAll (hl : laidOutB P = true) {W W' : World} (hb : Below W.heap.size W W') : ∀ {ts : List TypeId} {vs : List Value} {ds : List (DataW H)} {ps : List MemPlace},
    (∀ t ∈ ts, P.readableRec t = true ∧ t < P.types.size) → DataW.TrodAll enc P W 0 (fun _ => true) true ts vs ds ps → DataW.TrodAll enc P W' 0 (fun b => decide (b < W.heap.size)) true ts vs ds ps
  | [], vs, ds, ps, _, h => by
    obtain ⟨rfl, rfl, rfl⟩ := trodAll_nil h
    exact trodAll_mk0
  | t :: ts, vs, ds, ps, ht, h => by
    obtain ⟨v, vs', d, ds', p, q, rfl, rfl, rfl, h0, r0⟩ := trodAll_cons h
    have lt0 : ∀ x ∈ p, x.block < W.heap.size := by obtain ⟨m, hm⟩ := h0; exact DataW.trod_lt m _ _ _ hm
    exact trodAll_cons_mk (Below.trod hl (ht t (List.mem_cons_self ..)).1 (ht t (List.mem_cons_self ..)).2 h0 hb lt0) (below_trodAll hl hb (fun t' h' => ht t' (List.mem_cons_of_mem _ h')) r0)
theorem list_of {α : Type} {n : Nat} {p : Nat → α → Prop} (h : ∀ i, i < n → ∃ x, p i x) : ∃ l : List α, l.length = n ∧ ∀ i (hi : i < l.length), p i l[i] := by
  induction n with
  | zero => exact ⟨[], rfl, fun i hi => by simp at hi⟩
  | succ n ih =>
    obtain ⟨l, hl, hp⟩ := ih (fun i hi => h i (by omega))
    obtain ⟨x, hx⟩ := h n (by omega)
    refine ⟨l ++ [x], by simp [hl], fun i hi => ?_⟩
    rcases Nat.lt_or_ge i l.length with h' | h'
    · rw [List.getElem_append_left h']; exact hp i h'
    · have e : i = l.length := by simp at hi; omega
      subst e
      simp only [List.getElem_append_right (Nat.le_refl _), Nat.sub_self, List.getElem_cons_zero]
      rw [hl]; exact hx
theorem open_elems {α : Type} {t e : TypeId} (k : Nat) (cells : α → List Value) (ok : α → Prop) (ht : P.underlying t = some (.slice e)) (hC : P.cellsOf e = k) (hk : 0 < k)
    (hel : ∀ n cs' y, cs'.length = k → DataW.trod enc P w 0 (fun _ => true) true n e cs' = some y → ∃ x, cs' = cells x ∧ ok x)
    {v : Value} {d : DataW H} {p : List MemPlace} {r : Reach} {base : Nat} (hv : Value.okWide P w r base t v) (h : DataW.Trod enc P w 0 (fun _ => true) true t v d p) :
    ∃ a c, ∃ l : List α, v = .slice a (len l) c ∧ len l ≤ c ∧ c ≤ maxLen ∧ ∀ i (hi : i < l.length), ok l[i] ∧ ∃ b off, a = some ⟨b, off, none⟩ ∧ ∀ j, j < k → w.cell? ⟨b, off + i * k + j, none⟩ = (cells l[i])[j]? := by
  obtain ⟨a0, n0, c0, rfl⟩ := okWide_slice ht hv
  obtain ⟨fuel, hf⟩ := h
  rcases open_slice ht hf with ⟨hcs, _⟩ | ⟨a, n, c, m, q, D, Pl, hcs, _, hl, hm, hmm, _, hi⟩
  · simp [Value.cells] at hcs
    obtain ⟨rfl, rfl, rfl⟩ := hcs
    exact ⟨none, 0, [], rfl, Nat.le_refl _, Nat.zero_le _, fun i hi => by simp at hi⟩
  · simp [Value.cells] at hcs
    obtain ⟨rfl, rfl, rfl⟩ := hcs
    have hnm : n0 ≤ m := by rw [hmm]; simp; exact hl
    have each : ∀ i, i < n0 → ∃ x, ok x ∧ ∃ b off, some a = some ⟨b, off, none⟩ ∧ ∀ j, j < k → w.cell? ⟨b, off + i * k + j, none⟩ = (cells x)[j]? := by
      intro i hin
      obtain ⟨cs', hc, htr⟩ := hi i (by omega)
      rw [hC] at hc
      obtain ⟨_, hcl, hat⟩ := World.cells?_some hc
      obtain ⟨x, rfl, hx⟩ := hel q cs' _ hcl htr
      obtain ⟨b, off, spot⟩ := a
      have hspot : spot = none := by
        obtain ⟨cs0, hc0, htr0⟩ := hi 0 (by omega)
        rw [hC] at hc0
        obtain ⟨_, hcl0, hat0⟩ := World.cells?_some hc0
        have h1 := hat0 0 hk
        have h2 : cs0[0]? = some (cs0[0]'(by omega)) := List.getElem?_eq_getElem (by omega)
        rw [h2] at h1
        simpa [Addr.add] using World.cell?_spot h1
      subst hspot
      refine ⟨x, hx, b, off, rfl, fun j hj => ?_⟩
      have h1 := hat j hj
      rw [Go.Deep.add_add] at h1
      have e : (⟨b, off, none⟩ : Addr).add (i * k + j) = ⟨b, off + i * k + j, none⟩ := by
        unfold Addr.add; split
        · rename_i h0; simp <;> omega
        · simp [Nat.add_assoc]
      rw [e] at h1; exact h1
    obtain ⟨l, hll, hp⟩ := list_of each
    subst hll
    exact ⟨some a, c0, l, rfl, hl, hm, hp⟩
theorem wf_u64 {x : Int} (h : (Lit.int .u64 x).wf = true) : 0 ≤ x ∧ x < 18446744073709551616 := by
  simp [Lit.wf, IntKind.min, IntKind.max, IntKind.bits, IntKind.signed] at h; omega
end
end Go.Proofs.Ytloccahcnikbfaa
namespace Go.Proofs.Ytloccahcnikbfaa
set_option linter.unusedSimpArgs false
set_option linter.unusedVariables false
open Go.RowKit Go.ChangeShapes Go.WideShapes Go.ChangeAt
theorem own : ownKnob Try.prog.godebug = none := by kernel_rfl
theorem laidOut : laidOutB Try.prog = true := by kernel_rfl
end Go.Proofs.Ytloccahcnikbfaa
namespace Go.Proofs.Ytloccahcnikbfaa
set_option linter.unusedSimpArgs false
set_option linter.unusedVariables false
open Go.RowKit Go.ChangeShapes Go.WideShapes Go.ChangeAt Go.ChangeMaps
section
variable {P : Program} {H : Type} {enc : TypeId × Value → H} {w : World}
theorem str_readx {n : Nat} {e : TypeId} {v : Value} {y : DataW H × List MemPlace} (he : P.underlying e = some .string) (h : DataW.trod enc P w 0 (fun _ => true) true n e [v] = some y) : ∃ s : ByteArray, v = .string s ∧ s.size ≤ maxLen := by
  obtain ⟨s, hx, _, hw⟩ := DataW.trod_string he h
  exact ⟨s, by simpa using hx, hw⟩
theorem open_txts {t e : TypeId} (ht : P.underlying t = some (.slice e)) (he : P.underlying e = some .string) (hC : P.cellsOf e = 1)
    {v : Value} {d : DataW H} {p : List MemPlace} {r : Reach} {base : Nat} (hv : Value.okWide P w r base t v) (h : DataW.Trod enc P w 0 (fun _ => true) true t v d p) :
    ∃ a c, ∃ l : List ByteArray, v = .slice a (len l) c ∧ len l ≤ c ∧ c ≤ maxLen ∧ Txts w a l := by
  obtain ⟨a, c, l, rfl, h1, h2, h3⟩ := open_elems 1 (fun x => [Value.string x]) (fun _ => True) ht hC (by decide) (fun n cs' y hl hy => by
    match cs', hl with
    | [v0], _ =>
      obtain ⟨s, rfl, _⟩ := str_readx he hy
      exact ⟨s, rfl, trivial⟩) hv h
  refine ⟨a, c, l, rfl, h1, h2, fun i hi => ?_⟩
  obtain ⟨_, b, off, e1, e2⟩ := h3 i hi
  refine ⟨b, off, e1, ?_⟩
  have := e2 0 (by decide)
  rw [Nat.mul_one, Nat.add_zero] at this
  rw [this, tth_eq l i hi]; rfl
end
end Go.Proofs.Ytloccahcnikbfaa
