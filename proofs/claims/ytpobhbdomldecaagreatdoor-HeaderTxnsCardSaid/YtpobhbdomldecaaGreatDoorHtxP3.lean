/- Parts of the proof, one behind the other. -/
import Derived.Test.YtpobhbdomldecaaGreatDoorHtxP2
import Derived.Laws.EntriesVeiled
import Derived.BigQuiet
import Derived.Laws.AppendOwnNone
import Derived.Carry
import Derived.Lib.Strings
import Derived.Great.Walk
namespace Go.Proofs.YtpobhbdomldecaaGreatDoor
open Go.RowKit
set_option linter.unusedSimpArgs false
set_option linter.unusedVariables false
def zero8 : List W32 := List.replicate 8 0
set_option maxRecDepth 100000 in
set_option maxHeartbeats 4000000 in
theorem first_any (w : World) : Calls Tryz.prog 219 #[] w fun e w' => e = .returned (.agg (wsC (stL st0))) ∧ Below w.heap.size w w' := by
  go_enter Tryz.func219, Tryz.ntmps219
  go_upto_region 1 with fail
  obtain ⟨b, hb⟩ : ∃ b, w.heap.size = b := ⟨_, rfl⟩
  show Code.wp _ _ _ _ (w.alloc (.cells (wsC zero8) 246))
  obtain ⟨V, hV⟩ : ∃ V, w.alloc (.cells (wsC zero8) 246) = V := ⟨_, rfl⟩
  have HV : Hid (V.heap[b]? = some (.cells (wsC zero8) 246 (0, 0))) := Lib.hid (by rw [← hV, ← hb]; exact heap_alloc_new _ _)
  have HS : Hid (Below w.heap.size w V) := Lib.hid (by rw [← hV]; exact balloc (Below.refl _ _) _)
  have HBW : Hid (w.heap.size ≤ b) := Lib.hid (Nat.le_of_eq hb)
  rw [hV, hb]
  clear hV hb
  apply wp_region_lit
  refine wpList_build rfl 246 _ rfl (by as_aux_lemma => kernel_rfl) ?_
  refine wpList_store_row rfl 246 _ _ rfl b (wsC (stL st0)) rfl (by as_aux_lemma => kernel_rfl) 246 (wsC zero8) HV.out (by as_aux_lemma => kernel_rfl) (by as_aux_lemma => kernel_rfl) (by as_aux_lemma => kernel_rfl) ?_
  apply wpList_nil
  obtain ⟨U, hU⟩ : ∃ U, V.setRow b (wsC (stL st0)) = U := ⟨_, rfl⟩
  have HU : Hid (U.heap[b]? = some (.cells (wsC (stL st0)) 246 (0, 0))) := Lib.hid (by rw [← hU]; exact setRow_heap V b _ _ _ _ HV.out)
  have HUB : Hid (Below w.heap.size w U) := Lib.hid (by
    rw [← hU]
    exact ⟨HS.out.os, HS.out.tape, HS.out.output, by rw [setRow_size]; exact HS.out.size, fun i hi => by rw [setRow_other _ _ _ _ (show i ≠ b by have := HBW.out; omega)]; exact HS.out.block i hi⟩)
  rw [hU]
  rename_i Q' K hK
  refine hK _ _ ?_
  apply wp_ret
  refine bodyPost_ret (v := .agg (wsC (stL st0))) ?_ rfl ?_
  · exact results_cell_row rfl _ _ b 246 (wsC (stL st0)) (0, 0) _ rfl HU.out rfl rfl (by as_aux_lemma => kernel_rfl)
  · exact ⟨rfl, HUB.out⟩
def zero64 : List UInt8 := List.replicate 64 0
set_option maxRecDepth 100000 in
theorem built_hsh : Tryz.prog.built 250 [(0, .agg (wsC (stL st0)))] = some (hshC st0 zero64 ((0 : Nat) : Int)) := by kernel_rfl
def NewIsH (w : World) (e : Ending) (w' : World) : Prop := ∃ b, e = .returned (.pointer (some ⟨b, 0, none⟩)) ∧ w.heap.size ≤ b ∧ HshIs b [] w' ∧ Below w.heap.size w w'
theorem zero64_len : zero64.length = 64 := by unfold zero64; rw [List.length_replicate]
set_option maxRecDepth 100000 in
set_option maxHeartbeats 4000000 in
theorem hnew_any (w : World) : Calls Tryz.prog 158 #[] w (NewIsH w) := by
  have HB := Lib.hid built_hsh
  have HF := Lib.hid first_any
  go_enter Tryz.func158, Tryz.ntmps158
  go_upto_region 1 with fail
  go_wp2_with fail
  refine (HF.out _).mono ?_
  rintro e w2 ⟨rfl, hb2⟩
  have HB2 := Lib.hid hb2
  clear hb2
  have hA : wsC (stL st0) = #[.int .u32 1779033703, .int .u32 3144134277, .int .u32 1013904242, .int .u32 2773480762, .int .u32 1359893119, .int .u32 2600822924, .int .u32 528734635, .int .u32 1541459225] := by kernel_rfl
  rw [hA]
  clear hA
  go_wp2
  go_ret
  refine ⟨w2.heap.size, rfl, HB2.out.size, ⟨st0, zero64, HoldsT.start _ zero64_len, (heap_alloc_new _ _).trans ?_⟩, balloc HB2.out _⟩
  kernel_rfl
theorem info_b8 : (Tryz.prog.info? 5).map (fun i => (i.zero, i.size, i.bytes)) = some (some (.int .u8 0), 1, 1) := by kernel_rfl
theorem index_8 (v : St8) (t : Nat) (h : t < 8) (w : World) : (Instr.index 246 (.agg (wsC (stL v))) (.int .i64 (t : Int))).run Tryz.prog w = .ok (.int .u32 (wI (wth (stL v) t))) w := by
  have hk : (wsC (stL v))[t]? = some (wV (wth (stL v) t)) := wsC_at (stL v) t h
  have hs : (wsC (stL v)).size = 8 := rfl
  generalize wsC (stL v) = KC at hk hs
  have b : ¬ (8 : Int) ≤ (t : Int) := by omega
  have b2 : ¬ (t : Int) < 0 := by omega
  unfold Instr.index
  simp [go_sem, hk, hs, b, b2]
  intro h9
  omega
theorem HshIs.count {b : Nat} {L : List UInt8} {w : World} (h : HshIs b L w) {n : Nat} (hn : len L = n) : w.cell? ⟨b, 72, none⟩ = some (.int .u64 (n : Nat)) := by
  obtain ⟨v, r, h1, h2⟩ := h
  rw [block_cell h2, hshC_n _ _ _ h1.rest, hn]
theorem below_own {B : Nat} {row : Nat} {w V w2 : World} (h1 : Below B w V) (hr : B ≤ row) (hB : B ≤ V.heap.size) (h2 : ExtB (some row) V w2) : Below B w w2 :=
  ⟨h2.os.trans h1.os, h2.tape.trans h1.tape, h2.output.trans h1.output, Nat.le_trans h1.size h2.size, fun i hi => (h2.block i (by omega) (by simp; omega)).trans (h1.block i hi)⟩
theorem hshC_one (v : St8) (r : List UInt8) (n : Int) : (hshC v r n).all (·.oneCell') = true := by
  unfold hshC
  rw [Array.all_eq_true]
  intro i hi
  have : ∀ x ∈ (stL v).map wV ++ r.map bV ++ [Value.int .u64 n], x.oneCell' = true := by
    intro x hx
    simp only [List.mem_append, List.mem_map, List.mem_singleton] at hx
    rcases hx with (⟨a, _, rfl⟩ | ⟨a, _, rfl⟩) | rfl <;> rfl
  exact this _ (by simp)
set_option maxRecDepth 100000 in
set_option maxHeartbeats 4000000 in
theorem hsum_any (hb : Nat) (L : List UInt8) (w : World) (h : HshIs hb L w) (hl : len L ≤ 1152921504606846976) :
    Calls Tryz.prog 160 #[.pointer (some ⟨hb, 0, none⟩)] w fun e w' => e = .returned (.string ⟨(shaL L).toArray⟩) ∧ Below w.heap.size w w' := by
  obtain ⟨v, r, hT, hc⟩ := h
  obtain ⟨n, hn⟩ : ∃ n, len L = n := ⟨_, rfl⟩
  rw [hn] at hc hl
  obtain ⟨Cc, hCc⟩ : ∃ Cc, hshC v r (n : Nat) = Cc := ⟨_, rfl⟩
  have HCC := Lib.hid hCc
  have HSZ : Hid (Cc.size = 73) := Lib.hid (by rw [← hCc, hshC_size _ _ _ hT.rest])
  have HON : Hid (Cc.all (·.oneCell') = true) := Lib.hid (by rw [← hCc]; exact hshC_one _ _ _)
  rw [hCc] at hc
  have HC := Lib.hid hc
  have HT := Lib.hid hT
  have HN := Lib.hid hn
  have HL := Lib.hid hl
  have HI : Hid ((Tryz.prog.info? 250).map (·.size) = some Cc.size) := Lib.hid (by rw [HSZ.out]; kernel_rfl)
  clear hc hT hn hl hCc
  go_enter Tryz.func160, Tryz.ntmps160
  go_upto_region 3 with fail
  go_upto_region 4 with (first | (refine wpList_load_row (o := ⟨some 14, _, _, _, _, _⟩) ?_ 250 (.tmp 13) ?_ hb ?_ 250 Cc (0, 0) _ HC.out Tryz.underlying250 ?_ HI.out ?_; rfl; rfl; rfl; rfl; skip) | (refine wpList_store_row ?_ 250 (.tmp 3) (.tmp 14) ?_ w.heap.size Cc ?_ ?_ 250 _ (heap_alloc_new _ _) HI.out ?_ HON.out ?_; rfl; rfl; rfl; rfl; (rw [HSZ.out]; kernel_rfl); skip))
  obtain ⟨cb, hcb⟩ : ∃ cb, w.heap.size = cb := ⟨_, rfl⟩
  rw [hcb]
  obtain ⟨V, hV⟩ : ∃ V, (w.alloc (.cells Tryz.zeroCells250 250)).setRow cb Cc = V := ⟨_, rfl⟩
  rw [hV]
  have HVB : Hid (V.heap[cb]? = some (.cells (hshC v r (n : Nat)) 250 (0, 0))) := Lib.hid (by rw [HCC.out, ← hV, ← hcb]; exact setRow_heap _ _ _ _ _ _ (heap_alloc_new _ _))
  have HVW : Hid (Below w.heap.size w V) := Lib.hid (by
    rw [← hV]
    have h1 : Below w.heap.size w (w.alloc (.cells Tryz.zeroCells250 250)) := balloc (Below.refl _ _) _
    exact ⟨h1.os, h1.tape, h1.output, by rw [setRow_size]; exact h1.size, fun i hi => by rw [setRow_other _ _ _ _ (show i ≠ cb by omega)]; exact h1.block i hi⟩)
  have HCB : Hid (w.heap.size ≤ cb) := Lib.hid (Nat.le_of_eq hcb)
  have HH : Hid (HshIs cb L V) := Lib.hid (HshIs.intro HT.out (by rw [HN.out]) HVB.out)
  have c72 : V.cell? ⟨cb, 72, none⟩ = some (.int .u64 n) := by rw [block_cell HVB.out, hshC_n _ _ _ HT.out.rest]
  have w8 : IntKind.u64.wrap ((n : Int) * 8) = (n : Int) * 8 := IntWalk.u64_in _ (by have := HL.out; omega)
  clear hV hcb HVB HC HI HON HSZ HCC
  go_upto_region 5 with fail
  clear c72 w8
  have cv : (convert 41 9 (.slice (some ⟨V.heap.size, 0, none⟩) 1 1)).run Tryz.prog (V.alloc (.cells #[.int .u8 128] 5)) = .ok (.string ⟨#[128]⟩) (V.alloc (.cells #[.int .u8 128] 5)) := conv_new V 5 1 1 [128] rfl
  go_wp2_with fail
  have HV1 := Lib.hid (write_any cb L ⟨#[128]⟩ (V.alloc (.cells #[.int .u8 128] 5)) (HH.out.keep (balloc (Below.refl _ _) _)) (by have h1 := HL.out; have h2 := HN.out; rw [h2]; show n + 1 ≤ _; omega))
  refine HV1.out.mono ?_
  rintro e w2 ⟨rfl, hE, hH⟩
  have HH := Lib.hid hH
  have HVW : Hid (Below w.heap.size w w2) := Lib.hid (below_own HVW.out HCB.out HVW.out.size (ExtB_trans _ _ _ _ (extB_alloc _ _ _) hE))
  have HH : Hid (HshIs cb (L ++ [128] ++ List.replicate 0 0) w2) := Lib.hid (by rw [List.replicate_zero, List.append_nil]; exact HH.out)
  clear hE hH HV1 cv
  go_upto_region 6 with fail
  go_loopg [21] (zerosW n) (fun g _ wr => ∃ m : Nat, g + m = zerosW n ∧ Hid (HshIs cb (L ++ [128] ++ List.replicate m 0) wr) ∧ Hid (Below w.heap.size w wr))
  case atStart => exact ⟨0, rfl, HH, HVW⟩
  case round =>
    clear HH HVW
    obtain ⟨m, hm, HH, HVW⟩ := hrel
    have hz := zerosW_le n
    have HLEN : Hid (len (L ++ [128] ++ List.replicate m 0) = n + 1 + m) := Lib.hid (by
      have := HN.out
      rw [len_eq] at this
      rw [len_eq, List.length_append, List.length_append, List.length_replicate, this]
      rfl)
    have c72 := HH.out.count HLEN.out
    obtain ⟨q, hq⟩ : ∃ q, n + 1 + m = q := ⟨_, rfl⟩
    rw [hq] at c72 HLEN
    have HQ : Hid (q ≤ n + 64) := Lib.hid (by omega)
    by_cases hlt : m < zerosW n
    · have q1 : ¬ ((q : Nat) : Int) % 64 = 56 := by have := zerosW_not n m hlt; omega
      clear hq
      go_wp2_with fail
      have HV1 := Lib.hid (write_any cb _ ⟨#[0]⟩ wr HH.out (by rw [HLEN.out]; have h1 := HL.out; have h2 := HQ.out; show _ + 1 ≤ _; omega))
      refine HV1.out.mono ?_
      rintro e w2 ⟨rfl, hE, hH⟩
      have HV2 : Hid (Below w.heap.size w w2) := Lib.hid (below_own HVW.out HCB.out HVW.out.size hE)
      have HH2 : Hid (HshIs cb (L ++ [128] ++ List.replicate (m + 1) 0) w2) := Lib.hid (by
        have e9 : L ++ [128] ++ List.replicate (m + 1) 0 = L ++ [128] ++ List.replicate m 0 ++ [0] := by rw [List.replicate_succ', List.append_assoc (L ++ [128])]
        rw [e9]
        exact hH)
      clear hE hH HV1
      go_wp2
      go_roundg (zerosW n - (m + 1))
      case rel => exact ⟨m + 1, by omega, HH2, HV2⟩
      case measure => omega
    · obtain rfl : m = zerosW n := by omega
      have q1 : ((q : Nat) : Int) % 64 = 56 := by have := zerosW_end n; omega
      clear hq hz hlt hm
      go_upto_region 9 with fail
      obtain ⟨N, hN⟩ : ∃ N : Nat, n * 8 = N := ⟨_, rfl⟩
      rw [show (n : Int) * 8 = ((N : Nat) : Int) by omega]
      have HN8 := Lib.hid hN
      obtain ⟨L1, hL1⟩ : ∃ L1, L ++ [128] ++ List.replicate (zerosW n) 0 = L1 := ⟨_, rfl⟩
      rw [hL1] at HH HLEN
      have HL1 := Lib.hid hL1
      obtain ⟨lb, hlb⟩ : ∃ lb, wr.heap.size = lb := ⟨_, rfl⟩
      obtain ⟨U, hU⟩ : ∃ U, wr.alloc (.cells (filC (num8 N) 8 0) 68) = U := ⟨_, rfl⟩
      have HUB : Hid (U.heap[lb]? = some (.cells (filC (num8 N) 8 0) 68 (0, 0))) := Lib.hid (by rw [← hU]; exact alloc_new_at _ hlb)
      have HUH : Hid (HshIs cb L1 U) := Lib.hid (by rw [← hU]; exact HH.out.keep (balloc (Below.refl _ _) _))
      have HUW : Hid (Below w.heap.size w U) := Lib.hid (by rw [← hU]; exact balloc HVW.out _)
      have HLB : Hid (w.heap.size ≤ lb ∧ cb < lb) := Lib.hid ⟨by rw [← hlb]; exact HVW.out.size, by rw [← hlb]; exact HH.out.lt⟩
      rw [hlb]
      change Code.wp _ _ _ _ (wr.alloc (.cells (filC (num8 N) 8 0) 68))
      rw [hU]
      clear hU hlb hL1 hN c72 q1 HH HVW
      go_wp2
      go_loopg [26, 6] 8 (fun g i _ wr => ∃ m : Nat, g + m = 8 ∧ i = .int .i64 m ∧ Hid (wr.heap[lb]? = some (.cells (filC (num8 N) 8 m) 68 (0, 0))) ∧ Hid (HshIs cb L1 wr) ∧ Hid (Below w.heap.size w wr))
      case atStart => exact ⟨0, rfl, rfl, HUB, HUH, HUW⟩
      case round =>
        clear HUB HUH HUW
        obtain ⟨m, hm, rfl, HUB, HUH, HUW⟩ := hrel
        by_cases hlt : m < 8
        · have i1 : (m : Int) < 8 := by omega
          have i2 : IntKind.i64.wrap (7 - (m : Int)) = 7 - (m : Int) := IntWalk.i64_in _ (by omega)
          have i3 : IntKind.i64.wrap (8 * (7 - (m : Int))) = 8 * (7 - (m : Int)) := IntWalk.i64_in _ (by omega)
          have i4 : ¬ 8 * (7 - (m : Int)) < 0 := by omega
          have i5 : ¬ (8 : Int) ≤ (m : Int) := by omega
          obtain ⟨W, hW⟩ : ∃ W, wr = W := ⟨_, rfl⟩
          rw [hW] at HUB HUH HUW ⊢
          have c0 : W.cell? ⟨lb, m, none⟩ = some (byV 0) := by rw [block_cell HUB.out, filC_at _ _ _ hlt (num8_len N)]
          have c1 : W.frozen? ⟨lb, m, none⟩ = false := block_free HUB.out m
          have c2 : lb < W.heap.size := lt_of_block HUB.out
          clear hW
          go_upto_region 13 with fail
          rw [num8_byte N m hlt]
          clear c0 c1 c2 i2 i3 i4 i5
          have HU2 : Hid ((W.setCell ⟨lb, m, none⟩ (byV ((num8 N).getD m 0))).heap[lb]? = some (.cells (filC (num8 N) 8 (m + 1)) 68 (0, 0))) := Lib.hid (by
            have := block_setCell HUB.out (o := m) (byV ((num8 N).getD m 0))
            rw [filC_set _ _ _ hlt (num8_len N)] at this
            exact this)
          have HU3 : Hid (HshIs cb L1 (W.setCell ⟨lb, m, none⟩ (byV ((num8 N).getD m 0)))) := Lib.hid (by
            obtain ⟨v9, r9, h1, h2⟩ := HUH.out
            exact ⟨v9, r9, h1, block_setCell_ne h2 (show cb ≠ lb by have := HLB.out.2; omega) _⟩)
          have HU4 : Hid (Below w.heap.size w (W.setCell ⟨lb, m, none⟩ (byV ((num8 N).getD m 0)))) := Lib.hid (bset HUW.out HLB.out.1 _)
          go_wp2
          go_roundg (8 - (m + 1))
          case rel => exact ⟨m + 1, by omega, by go_num, HU2, HU3, HU4⟩
          case measure => omega
        · obtain rfl : m = 8 := by omega
          have i1 : ¬ ((8 : Nat) : Int) < 8 := by decide
          have HUB := Lib.hid (by have h := HUB.out; rw [filC_all _ _ (num8_len N)] at h; exact h)
          have cv : (convert 41 9 (.slice (some ⟨lb, 0, none⟩) 8 8)).run Tryz.prog wr = .ok (.string ⟨(num8 N).toArray⟩) wr := conv_block wr lb 0 8 8 (num8 N) (num8_len N) (fun i hi => byV_block HUB.out i (by rw [num8_len]; exact hi))
          go_wp2_with fail
          have HV1 := Lib.hid (write_any cb L1 ⟨(num8 N).toArray⟩ wr HUH.out (by rw [HLEN.out]; have h1 := HL.out; have h2 := HQ.out; show _ + (num8 N).length ≤ _; rw [num8_len]; omega))
          refine HV1.out.mono ?_
          rintro e w3 ⟨rfl, hE, hH⟩
          have HW3 : Hid (Below w.heap.size w w3) := Lib.hid (below_own HUW.out HCB.out HUW.out.size hE)
          have HH3 : Hid (HshIs cb (padW L) w3) := Lib.hid (by
            have h1 := HN.out
            rw [len_eq] at h1
            have h2 : padW L = L1 ++ num8 N := by
              rw [padW_parts, ← HL1.out, h1, ← HN8.out, Nat.mod_eq_of_lt (by have := HL.out; omega), Nat.mul_comm]
            rw [h2]
            exact hH)
          clear hE hH HV1 cv HUB HUH HUW i1
          obtain ⟨z, r9, hz, hzb⟩ := HH3.out
          have HZ := Lib.hid hz
          have x0 : w3.cell? ⟨cb, 0, none⟩ = some (.int .u32 (wI z.a)) := by rw [block_cell hzb, hshC_word _ _ _ 0 (by decide)]; rfl
          have x1 : w3.cell? ⟨cb, 1, none⟩ = some (.int .u32 (wI z.b)) := by rw [block_cell hzb, hshC_word _ _ _ 1 (by decide)]; rfl
          have x2 : w3.cell? ⟨cb, 2, none⟩ = some (.int .u32 (wI z.c)) := by rw [block_cell hzb, hshC_word _ _ _ 2 (by decide)]; rfl
          have x3 : w3.cell? ⟨cb, 3, none⟩ = some (.int .u32 (wI z.d)) := by rw [block_cell hzb, hshC_word _ _ _ 3 (by decide)]; rfl
          have x4 : w3.cell? ⟨cb, 4, none⟩ = some (.int .u32 (wI z.e)) := by rw [block_cell hzb, hshC_word _ _ _ 4 (by decide)]; rfl
          have x5 : w3.cell? ⟨cb, 5, none⟩ = some (.int .u32 (wI z.f)) := by rw [block_cell hzb, hshC_word _ _ _ 5 (by decide)]; rfl
          have x6 : w3.cell? ⟨cb, 6, none⟩ = some (.int .u32 (wI z.g)) := by rw [block_cell hzb, hshC_word _ _ _ 6 (by decide)]; rfl
          have x7 : w3.cell? ⟨cb, 7, none⟩ = some (.int .u32 (wI z.h)) := by rw [block_cell hzb, hshC_word _ _ _ 7 (by decide)]; rfl
          clear hz hzb
          go_upto_region 17 with fail
          rw [show (#[.int .u32 (wI z.a), .int .u32 (wI z.b), .int .u32 (wI z.c), .int .u32 (wI z.d), .int .u32 (wI z.e), .int .u32 (wI z.f), .int .u32 (wI z.g), .int .u32 (wI z.h)] : Array Value) = wsC (stL z) from rfl]
          obtain ⟨ZC, hZC⟩ : ∃ ZC, wsC (stL z) = ZC := ⟨_, rfl⟩
          rw [hZC]
          have HZC := Lib.hid hZC
          clear hZC x0 x1 x2 x3 x4 x5 x6 x7
          obtain ⟨i0, hi, hz0, hz1, hz2⟩ := info_parts info_b8
          have HZ0 := Lib.hid hz0
          clear hz0
          go_loopg [43, 7, 9] 8 (fun g i o _ wr => ∃ m : Nat, g + m = 8 ∧ i = .int .i64 m ∧ Hid (wr.ownsRow w.heap.size 5 1 o (4 * m) ((((stL z).take m).map word4).flatten.map byV)) ∧ Hid (Below w.heap.size w wr))
          case atStart => exact ⟨0, rfl, rfl, Lib.hid (World.ownsRow_nil _ _ _ _), HW3⟩
          case round =>
            clear HW3 HH3
            obtain ⟨m, hm, rfl, HO, HW3⟩ := hrel
            by_cases hlt : m < 8
            · have i1 : (m : Int) < 8 := by omega
              obtain ⟨X, hX⟩ : ∃ X, wth (stL z) m = X := ⟨_, rfl⟩
              have hk : ∀ w', (Instr.index 246 (.agg ZC) (.int .i64 (m : Int))).run Tryz.prog w' = .ok (.int .u32 (wI X)) w' := fun w' => by rw [← HZC.out, index_8 z m hlt, hX]
              have HX := Lib.hid hX
              obtain ⟨W, hW⟩ : ∃ W, wr = W := ⟨_, rfl⟩
              rw [hW] at HO HW3 ⊢
              clear hX hW
              go_upto_region 19 with fail
              have hmm : 4 * m ≤ 32 := by omega
              go_upto_region 20 with (at_builtin; refine wpList_append_own _ rfl _ _ 41 rfl w.heap.size 5 i0 (.int .u8 0) 1 1 Tryz.underlying41 hi HZ0.out hz1 hz2 rfl (by decide) _ _ _ rfl (HO.out.alloc _) ⟨W.heap.size, 0, none⟩ 4 4 [.int .u8 (wI X / 16777216 % 256), .int .u8 (wI X / 65536 % 256), .int .u8 (wI X / 256 % 256), .int .u8 (wI X % 256)] rfl rfl (World.news_of_block (heap_alloc_new _ _)) (by intro u hu; simp at hu; rcases hu with rfl | rfl | rfl | rfl <;> rfl) (by unfold maxLen; omega) (by omega) (by have := HW3.out.size; simp; omega) ?_; intro v2 w4 hown2 hgrow2 _)
              have HO2 : Hid (w4.ownsRow w.heap.size 5 1 v2 (4 * (m + 1)) ((((stL z).take (m + 1)).map word4).flatten.map byV)) := Lib.hid (by
                rw [outW_snoc z m hlt, HX.out, List.map_append, ← word4_vals]
                exact hown2)
              have HW4 : Hid (Below w.heap.size w w4) := Lib.hid (grownBy_below (balloc HW3.out _) hgrow2 (fun k hk' => (HO.out.lt k hk').1))
              clear hown2 hgrow2 hk
              go_wp2
              go_roundg (8 - (m + 1))
              case rel => exact ⟨m + 1, by omega, by go_num, HO2, HW4⟩
              case measure => omega
            · obtain rfl : m = 8 := by omega
              have i1 : ¬ ((8 : Nat) : Int) < 8 := by decide
              have HO2 : Hid (wr.ownsRow w.heap.size 5 1 u7 32 ((shaL L).map byV)) := Lib.hid (by
                have h1 := HO.out
                rw [show (stL z).take 8 = stL z from rfl, outW_eq, HZ.out.sum] at h1
                exact h1)
              have cv := conv_own HO2.out (shaL_len L) (by decide)
              go_wp2
              go_ret
              exact ⟨rfl, HW3.out⟩
set_option maxRecDepth 100000 in
set_option maxHeartbeats 4000000 in
theorem sha_any (s : ByteArray) (w : World) (hl : s.size ≤ 1152921504606846976) : Calls Tryz.prog 97 #[.string s] w fun e w' => e = .returned (.string (shaP s)) ∧ Below w.heap.size w w' := by
  have HL := Lib.hid hl
  clear hl
  go_enter Tryz.func97, Tryz.ntmps97
  go_wp2_with fail
  refine (hnew_any _).mono ?_
  rintro e w1 ⟨b, rfl, hb0, hh, hw1⟩
  have HH := Lib.hid hh
  have HW1 := Lib.hid hw1
  have HB0 := Lib.hid hb0
  clear hh hw1 hb0
  go_wp2_with fail
  refine (write_any b [] s w1 HH.out (by have := HL.out; show 0 + s.size ≤ _; omega)).mono ?_
  rintro e w2 ⟨rfl, hE, hH⟩
  have HW2 : Hid (Below w.heap.size w w2) := Lib.hid (below_own HW1.out HB0.out HW1.out.size hE)
  have HH2 := Lib.hid hH
  clear hE hH
  go_wp2_with fail
  refine (hsum_any b s.data.toList w2 HH2.out (by rw [len_eq, Array.length_toList]; exact HL.out)).mono ?_
  rintro e w3 ⟨rfl, hE⟩
  have HW3 : Hid (Below w.heap.size w w3) := Lib.hid (bnext HW2.out hE)
  clear hE
  go_wp2
  go_ret
  exact ⟨rfl, HW3.out⟩
end Go.Proofs.YtpobhbdomldecaaGreatDoor
namespace Go.Proofs.YtpobhbdomldecaaGreatDoor
open Go.RowKit
set_option linter.unusedSimpArgs false
set_option linter.unusedVariables false
def num8S (n : Nat) : ByteArray := ⟨(num8 n).toArray⟩
theorem num8S_size (n : Nat) : (num8S n).size = 8 := by
  show (num8 n).toArray.size = 8
  rw [List.size_toArray, num8_len]
set_option maxRecDepth 100000 in
set_option maxHeartbeats 4000000 in
theorem dnum_any (N : Nat) (w : World) (hN : N < 18446744073709551616) : Calls Tryz.prog 157 #[.int .u64 (N : Nat)] w fun e w' => e = .returned (.string (num8S N)) ∧ Below w.heap.size w w' := by
  have HNN := Lib.hid hN
  clear hN
  go_enter Tryz.func157, Tryz.ntmps157
  go_upto_region 2 with fail
  obtain ⟨lb, hlb⟩ : ∃ lb, w.heap.size = lb := ⟨_, rfl⟩
  obtain ⟨U, hU⟩ : ∃ U, w.alloc (.cells (filC (num8 N) 8 0) 68) = U := ⟨_, rfl⟩
  have HUB : Hid (U.heap[lb]? = some (.cells (filC (num8 N) 8 0) 68 (0, 0))) := Lib.hid (by rw [← hU]; exact alloc_new_at _ hlb)
  have HUW : Hid (Below w.heap.size w U) := Lib.hid (by rw [← hU]; exact balloc (Below.refl _ _) _)
  have HLB : Hid (w.heap.size ≤ lb) := Lib.hid (Nat.le_of_eq hlb)
  rw [hlb]
  change Code.wp _ _ _ _ (w.alloc (.cells (filC (num8 N) 8 0) 68))
  rw [hU]
  clear hU hlb
  go_wp2
  go_loopg [5, 4] 8 (fun g i _ wr => ∃ m : Nat, g + m = 8 ∧ i = .int .i64 m ∧ Hid (wr.heap[lb]? = some (.cells (filC (num8 N) 8 m) 68 (0, 0))) ∧ Hid (Below w.heap.size w wr))
  case atStart => exact ⟨0, rfl, rfl, HUB, HUW⟩
  case round =>
    clear HUB HUW
    obtain ⟨m, hm, rfl, HUB, HUW⟩ := hrel
    by_cases hlt : m < 8
    · have i1 : (m : Int) < 8 := by omega
      have i2 : IntKind.i64.wrap (7 - (m : Int)) = 7 - (m : Int) := IntWalk.i64_in _ (by omega)
      have i3 : IntKind.i64.wrap (8 * (7 - (m : Int))) = 8 * (7 - (m : Int)) := IntWalk.i64_in _ (by omega)
      have i4 : ¬ 8 * (7 - (m : Int)) < 0 := by omega
      have i5 : ¬ (8 : Int) ≤ (m : Int) := by omega
      obtain ⟨W, hW⟩ : ∃ W, wr = W := ⟨_, rfl⟩
      rw [hW] at HUB HUW ⊢
      have c0 : W.cell? ⟨lb, m, none⟩ = some (byV 0) := by rw [block_cell HUB.out, filC_at _ _ _ hlt (num8_len N)]
      have c1 : W.frozen? ⟨lb, m, none⟩ = false := block_free HUB.out m
      have c2 : lb < W.heap.size := lt_of_block HUB.out
      clear hW
      go_upto_region 6 with fail
      rw [num8_byte N m hlt]
      clear c0 c1 c2 i2 i3 i4 i5
      have HU2 : Hid ((W.setCell ⟨lb, m, none⟩ (byV ((num8 N).getD m 0))).heap[lb]? = some (.cells (filC (num8 N) 8 (m + 1)) 68 (0, 0))) := Lib.hid (by
        have := block_setCell HUB.out (o := m) (byV ((num8 N).getD m 0))
        rw [filC_set _ _ _ hlt (num8_len N)] at this
        exact this)
      have HU4 : Hid (Below w.heap.size w (W.setCell ⟨lb, m, none⟩ (byV ((num8 N).getD m 0)))) := Lib.hid (bset HUW.out HLB.out _)
      go_wp2
      go_roundg (8 - (m + 1))
      case rel => exact ⟨m + 1, by omega, by go_num, HU2, HU4⟩
      case measure => omega
    · obtain rfl : m = 8 := by omega
      have i1 : ¬ ((8 : Nat) : Int) < 8 := by decide
      have HUB := Lib.hid (by have h := HUB.out; rw [filC_all _ _ (num8_len N)] at h; exact h)
      have cv : (convert 41 9 (.slice (some ⟨lb, 0, none⟩) 8 8)).run Tryz.prog wr = .ok (.string (num8S N)) wr := conv_block wr lb 0 8 8 (num8 N) (num8_len N) (fun i hi => byV_block HUB.out i (by rw [num8_len]; exact hi))
      go_wp2
      go_ret
      exact ⟨rfl, HUW.out⟩
end Go.Proofs.YtpobhbdomldecaaGreatDoor
namespace Go.Proofs.YtpobhbdomldecaaGreatDoor
open Go.RowKit
set_option linter.unusedSimpArgs false
set_option linter.unusedVariables false
theorem bld_size : (Tryz.prog.info? 172).map (·.size) = some 2 := by kernel_rfl
theorem bld_lies : liesAt Tryz.prog Tryz.prog.depth 172 (2 / Tryz.prog.cellsOf 172) 0 172 1 = true := by kernel_rfl
theorem bld_b8 : (Tryz.prog.info? 5).map (fun i => (i.zero, i.size, i.bytes)) = some (some (.int .u8 0), 1, 1) := by kernel_rfl
set_option maxHeartbeats 1000000 in
set_option maxRecDepth 100000 in
theorem bcheck_used (b : Nat) (w : World) (h0 : w.cell? ⟨b, 0, none⟩ = some (.pointer (some ⟨b, 0, none⟩))) :
    Calls Tryz.prog 193 #[.pointer (some ⟨b, 0, none⟩)] w fun e w' => e = .returned (.tuple #[]) ∧ w' = w := by
  obtain ⟨j, hj, _⟩ := Option.map_eq_some_iff.1 bld_size
  go_enter Tryz.func193, Tryz.ntmps193
  go_wp2
  rw [Lib.run_neq_ptr_same w _ Tryz.underlying170 hj]
  go_wp2
  go_end0
  exact ⟨rfl, rfl⟩
set_option maxHeartbeats 1000000 in
set_option maxRecDepth 100000 in
theorem bcheck_fresh (b : Nat) (w : World) (h0 : w.cell? ⟨b, 0, none⟩ = some (.pointer none)) (hsh : w.shape? b = some (172, 2)) (hfz : w.frozen? ⟨b, 0, none⟩ = false) :
    Calls Tryz.prog 193 #[.pointer (some ⟨b, 0, none⟩)] w fun e w' => e = .returned (.tuple #[]) ∧ w' = w.setCell ⟨b, 0, none⟩ (.pointer (some ⟨b, 0, none⟩)) := by
  obtain ⟨j, hj, hjs⟩ := Option.map_eq_some_iff.1 bld_size
  go_enter Tryz.func193, Tryz.ntmps193
  go_wp2
  rw [Lib.run_to_unsafe w ⟨b, 0, none⟩ Tryz.underlying170 Tryz.underlying297 hj (by rw [hjs]; decide) hsh (Nat.zero_lt_succ 1)]
  simp only [Result.andThen]
  rw [Oper.upon_value]
  go_wp2
  rw [run_callFunc_extern Tryz.func259 (by kernel_rfl) (by kernel_rfl) (by kernel_rfl) (e := Extern.AbiNoEscape.same) (by kernel_rfl)]
  rw [Lib.run_noEscape]
  simp only [Result.andThen]
  rw [Oper.upon_value]
  go_wp2
  rw [Lib.run_from_unsafe w ⟨b, 0, none⟩ Tryz.underlying297 Tryz.underlying170 hj hsh bld_lies]
  simp only [Result.andThen]
  rw [Oper.upon_value]
  go_wp2
  go_end0
  exact ⟨rfl, rfl⟩
theorem bcheck_any (B b : Nat) (bs : List Value) (w : World) (h : Lib.IsBuilder 172 5 B b bs w) :
    Calls Tryz.prog 193 #[.pointer (some ⟨b, 0, none⟩)] w fun e w' => e = .returned (.tuple #[]) ∧ (Lib.BuilderAt 172 5 B b (.pointer (some ⟨b, 0, none⟩)) bs w' ∧ Below B w w') := by
  rcases h with h | h
  · refine (bcheck_fresh b w h.cell0 h.shape h.frozen0).mono ?_
    rintro e w' ⟨rfl, rfl⟩
    exact ⟨rfl, h.used _, (Below.refl B w).setCell (p := ⟨b, 0, none⟩) h.1 _⟩
  · refine (bcheck_used b w h.cell0).mono ?_
    rintro e w' ⟨rfl, rfl⟩
    exact ⟨rfl, h, Below.refl B _⟩
set_option maxHeartbeats 2000000 in
set_option maxRecDepth 100000 in
theorem bbyte_any (B b : Nat) (bs : List Value) (c : Int) (w : World) (h : Lib.IsBuilder 172 5 B b bs w) (hlen : bs.length + 1 ≤ 140737488355328) (hBw : B ≤ w.heap.size) :
    Calls Tryz.prog 155 #[.pointer (some ⟨b, 0, none⟩), .int .u8 c] w fun e w' => e = .returned .nilIface ∧ (Lib.BuilderAt 172 5 B b (.pointer (some ⟨b, 0, none⟩)) (bs ++ [.int .u8 c]) w' ∧ Below B w w') := by
  obtain ⟨i0, hi, hz0, hz1, hz2⟩ := info_parts bld_b8
  go_enter Tryz.func155, Tryz.ntmps155
  go_wp2_with fail
  refine (bcheck_any B b bs _ h).mono ?_
  rintro e w1 ⟨rfl, h1, hb1⟩
  obtain ⟨hB, v, hbk, hown, hne⟩ := h1
  have c0 : w1.cell? ⟨b, 0, none⟩ = some (.pointer (some ⟨b, 0, none⟩)) := by rw [Lib.cell_of_heap hbk]; rfl
  have c1 : w1.cell? ⟨b, 1, none⟩ = some v := by rw [Lib.cell_of_heap hbk]; rfl
  go_wp2_with (at_builtin; refine wpList_append_own _ rfl _ _ 41 rfl B 5 i0 (.int .u8 0) 1 1 Tryz.underlying41 hi hz0 hz1 hz2 rfl (by decide) _ _ _ rfl (hown.alloc _) ⟨w1.heap.size, 0, none⟩ 1 1 [.int .u8 c] rfl rfl ?c1 ?c2 ?c3 ?c4 ?c5 ?_)
  case c1 =>
    intro j u hj
    match j, hj with
    | 0, hj => simp at hj; subst hj; simp [Addr.add]
  case c2 => intro u hu; simp at hu; subst hu; rfl
  case c3 => unfold maxLen; omega
  case c4 => omega
  case c5 => have := hb1.size; simp; omega
  intro v' w2 hown' hgrow _
  have hlt : b < w1.heap.size := lt_of_block hbk
  have hb2 : w2.heap[b]? = some (.cells #[.pointer (some ⟨b, 0, none⟩), v] 172 (0, 0)) := by
    rw [hgrow.block b (by simp; omega) (fun e => hne e.symm), Lib.alloc_old w1 _ b hlt]
    exact hbk
  have d0 : w2.cell? ⟨b, 0, none⟩ = some (.pointer (some ⟨b, 0, none⟩)) := by rw [Lib.cell_of_heap hb2]; rfl
  have d1 : w2.cell? ⟨b, 1, none⟩ = some v := by rw [Lib.cell_of_heap hb2]; rfl
  have f1 : w2.frozen? ⟨b, 1, none⟩ = false := Lib.frozen_of_heap hb2 1
  obtain ⟨g, cap, rfl⟩ : ∃ g cap, v' = .slice (some ⟨g, 0, none⟩) (bs.length + 1) cap := by
    rcases hown'.2 with ⟨_, h0⟩ | ⟨g, cap, cur, hv, _⟩
    · omega
    · exact ⟨g, cap, hv⟩
  go_wp2
  go_ret
  refine ⟨rfl, ?_, ?_⟩
  · exact Lib.BuilderAt.put (T := 172) (e := 5) hB hb2 (bs' := bs ++ [.int .u8 c]) (by simpa using hown') (by decide)
  · exact ((hb1.alloc (by have := hb1.size; omega) _).grown hgrow (by have := hb1.size; simp; omega) (fun k hk => (hown.lt k hk).1)).setCell (p := ⟨b, 1, none⟩) hB _
set_option maxHeartbeats 2000000 in
set_option maxRecDepth 100000 in
theorem bstr_any (B b : Nat) (bs : List Value) (s : ByteArray) (w : World) (h : Lib.IsBuilder 172 5 B b bs w) (hlen : bs.length + s.size ≤ 140737488355328) (hBw : B ≤ w.heap.size) :
    Calls Tryz.prog 144 #[.pointer (some ⟨b, 0, none⟩), .string s] w fun e w' => e = .returned (.tuple #[.int .i64 s.size, .nilIface]) ∧ (Lib.BuilderAt 172 5 B b (.pointer (some ⟨b, 0, none⟩)) (bs ++ Lib.strCells s) w' ∧ Below B w w') := by
  obtain ⟨i0, hi, hz0, hz1, hz2⟩ := info_parts bld_b8
  go_enter Tryz.func144, Tryz.ntmps144
  go_wp2_with fail
  refine (bcheck_any B b bs _ h).mono ?_
  rintro e w1 ⟨rfl, h1, hb1⟩
  obtain ⟨hB, v, hbk, hown, hne⟩ := h1
  have c0 : w1.cell? ⟨b, 0, none⟩ = some (.pointer (some ⟨b, 0, none⟩)) := by rw [Lib.cell_of_heap hbk]; rfl
  have c1 : w1.cell? ⟨b, 1, none⟩ = some v := by rw [Lib.cell_of_heap hbk]; rfl
  go_wp2_with (at_builtin; refine Lib.wpList_append_own_string _ rfl _ _ 41 9 rfl B 5 i0 Tryz.underlying41 Tryz.underlying9 hi hz0 hz1 hz2 _ _ _ rfl hown s rfl ?c3 ?c4 ?c5 ?_)
  case c3 => unfold maxLen; omega
  case c4 => omega
  case c5 => have := hb1.size; omega
  intro v' w2 hown' hgrow _
  have hlt : b < w1.heap.size := lt_of_block hbk
  have hb2 : w2.heap[b]? = some (.cells #[.pointer (some ⟨b, 0, none⟩), v] 172 (0, 0)) := by
    rw [hgrow.block b hlt (fun e => hne e.symm)]
    exact hbk
  have d0 : w2.cell? ⟨b, 0, none⟩ = some (.pointer (some ⟨b, 0, none⟩)) := by rw [Lib.cell_of_heap hb2]; rfl
  have d1 : w2.cell? ⟨b, 1, none⟩ = some v := by rw [Lib.cell_of_heap hb2]; rfl
  have f1 : w2.frozen? ⟨b, 1, none⟩ = false := Lib.frozen_of_heap hb2 1
  obtain ⟨ao, n', cap, rfl⟩ : ∃ ao n' cap, v' = .slice ao n' cap := by
    rcases hown'.2 with ⟨hv, _⟩ | ⟨g, cap, cur, hv, _⟩
    · exact ⟨_, _, _, hv⟩
    · exact ⟨_, _, _, hv⟩
  go_wp2
  go_ret2
  refine ⟨rfl, ?_, ?_⟩
  · exact Lib.BuilderAt.put (T := 172) (e := 5) hB hb2 (bs' := bs ++ Lib.strCells s) (by simpa [Lib.strCells_length] using hown') (by decide)
  · exact (hb1.grown hgrow (by have := hb1.size; omega) (fun k hk => (hown.lt k hk).1)).setCell (p := ⟨b, 1, none⟩) hB _
end Go.Proofs.YtpobhbdomldecaaGreatDoor
namespace Go.Proofs.YtpobhbdomldecaaGreatDoor
open Go.RowKit
set_option linter.unusedSimpArgs false
set_option linter.unusedVariables false
abbrev BlAt (B b : Nat) (L : List UInt8) (w : World) : Prop := Lib.BuilderAt 172 5 B b (.pointer (some ⟨b, 0, none⟩)) (Lib.byteCells L) w
theorem bc_app (L M : List UInt8) : Lib.byteCells (L ++ M) = Lib.byteCells L ++ Lib.byteCells M := by unfold Lib.byteCells; rw [List.map_append]
theorem bc_len (L : List UInt8) : (Lib.byteCells L).length = L.length := by unfold Lib.byteCells; rw [List.length_map]
def LayIs (B b : Nat) (L : List UInt8) (w : World) (e : Ending) (w' : World) : Prop := e = .returned (.tuple #[]) ∧ BlAt B b L w' ∧ Below B w w'
set_option maxRecDepth 100000 in
set_option maxHeartbeats 4000000 in
theorem lay_part (B b : Nat) (L : List UInt8) (p : ByteArray) (w : World) (h : BlAt B b L w) (hl : L.length + (8 + p.size) ≤ 140737488355328) (hB : B ≤ w.heap.size) :
    Calls Tryz.prog 156 #[.string p, .pointer (some ⟨b, 0, none⟩)] w (LayIs B b (L ++ partL p) w) := by
  have H := Lib.hid h
  have HL := Lib.hid hl
  have HB := Lib.hid hB
  clear h hl hB
  have i1 : IntKind.u64.wrap ((p.size : Nat) : Int) = ((p.size : Nat) : Int) := IntWalk.u64_in _ (by have := HL.out; omega)
  go_enter Tryz.func156, Tryz.ntmps156
  go_wp2_with fail
  refine (dnum_any p.size w (by have := HL.out; omega)).mono ?_
  rintro e w1 ⟨rfl, hb1⟩
  have HB1 := Lib.hid hb1
  have H1 : Hid (BlAt B b L w1) := Lib.hid (by
    obtain ⟨h1, v, h2, h3, h4⟩ := H.out
    exact ⟨h1, v, (hb1.block _ (lt_of_block h2)).trans h2, own_below h3 hb1, h4⟩)
  clear hb1
  go_wp2_with fail
  refine (bstr_any B b _ (num8S p.size) w1 (Or.inr H1.out) (by rw [bc_len, num8S_size]; have := HL.out; omega) (Nat.le_trans HB.out HB1.out.size)).mono ?_
  rintro e w2 ⟨rfl, h2, hb2⟩
  have H2 : Hid (BlAt B b (L ++ num8 p.size) w2) := Lib.hid (by show Lib.BuilderAt _ _ _ _ _ (Lib.byteCells _) _; rw [bc_app]; exact h2)
  have HB2 : Hid (Below B w w2) := Lib.hid ((HB1.out.mono HB.out).trans hb2)
  have HBS : Hid (B ≤ w2.heap.size) := Lib.hid (Nat.le_trans HB.out HB2.out.size)
  clear h2 hb2
  go_wp2_with fail
  refine (bstr_any B b _ p w2 (Or.inr H2.out) (by rw [bc_len, List.length_append, num8_len]; have := HL.out; omega) HBS.out).mono ?_
  rintro e w3 ⟨rfl, h3, hb3⟩
  have H3 : Hid (BlAt B b (L ++ partL p) w3) := Lib.hid (by show Lib.BuilderAt _ _ _ _ _ (Lib.byteCells _) _; unfold partL; rw [← List.append_assoc, bc_app]; exact h3)
  have HB3 : Hid (Below B w w3) := Lib.hid (HB2.out.trans hb3)
  clear h3 hb3
  go_wp2
  go_end0
  exact ⟨rfl, H3.out, HB3.out⟩
theorem fullT {t : ByteArray} (h : t.size ≠ 0) : t.toList.isEmpty = false := by
  rw [ByteArray.toList_eq]; cases t with | mk d => simp_all [ByteArray.size]
theorem headL_cells (tag : ByteArray) (h : tag.size ≤ 16) : Lib.byteCells (headL tag) = [.int .u8 ((tag.size : Nat) : Int)] ++ Lib.strCells tag := by
  unfold headL Lib.strCells Lib.byteCells
  rw [List.map_cons]
  congr 1
  rw [UInt8.toNat_ofNat', Nat.mod_eq_of_lt (by omega)]
set_option maxRecDepth 100000 in
set_option maxHeartbeats 4000000 in
theorem frame_any (tag : ByteArray) (parts : List ByteArray) (a : Option Addr) (cap : Nat) (w : World) (h1 : 1 ≤ tag.size) (h2 : tag.size ≤ 16) (hp : Txts w a parts) (hs : (partsL parts).length ≤ 140737488355300) :
    Calls Tryz.prog 96 #[.string tag, .slice a (len parts) cap] w fun e w' => e = .returned (.string (frameS tag parts)) ∧ Below w.heap.size w w' := by
  have HP := Lib.hid hp
  have HS := Lib.hid hs
  have HT2 := Lib.hid h2
  have HT1 := Lib.hid h1
  have HPL : Hid (len parts ≤ 140737488355300) := Lib.hid (by have := partsL_ge parts; rw [len_eq]; omega)
  have t1 : tag.toList.isEmpty = false := fullT (by omega)
  have t2 : ¬ (16 : Int) < (tag.size : Int) := by omega
  have t3 : IntKind.u8.wrap ((tag.size : Nat) : Int) = ((tag.size : Nat) : Int) := IntWalk.u8_in _ (by omega)
  clear hp hs h1 h2
  go_enter Tryz.func96, Tryz.ntmps96
  go_upto_region 4 with fail
  obtain ⟨b, hb⟩ : ∃ b, w.heap.size = b := ⟨_, rfl⟩
  rw [hb]
  obtain ⟨V, hV⟩ : ∃ V, w.alloc (.cells #[.pointer none, .slice none 0 0] 172) = V := ⟨_, rfl⟩
  rw [hV]
  have HBW : Hid (w.heap.size ≤ b) := Lib.hid (Nat.le_of_eq hb)
  have HI : Hid (Lib.IsBuilder 172 5 b b [] V) := Lib.hid (Or.inl ⟨Nat.le_refl _, _, by rw [← hV]; exact alloc_new_at _ hb, World.ownsRow_nil _ _ _ _, by simp [Value.ownBlock]⟩)
  have HVW : Hid (Below w.heap.size w V) := Lib.hid (by rw [← hV]; exact balloc (Below.refl _ _) _)
  have HVS : Hid (b ≤ V.heap.size) := Lib.hid (by rw [← hb]; exact HVW.out.size)
  clear hV hb
  go_wp2_with fail
  refine (bbyte_any b b [] _ V HI.out (by decide) HVS.out).mono ?_
  rintro e w1 ⟨rfl, hb1, hB1⟩
  have H1 := Lib.hid hb1
  have HS1 : Hid (b ≤ w1.heap.size) := Lib.hid (Nat.le_trans HVS.out hB1.size)
  have HW1 : Hid (Below w.heap.size w w1) := Lib.hid (HVW.out.trans (hB1.mono HBW.out))
  clear hb1 hB1 t1 t2 t3
  go_wp2_with fail
  refine (bstr_any b b _ tag w1 (Or.inr H1.out) (by have := HT2.out; show 1 + tag.size ≤ _; omega) HS1.out).mono ?_
  rintro e w2 ⟨rfl, hb2, hB2⟩
  have H2 : Hid (BlAt b b (headL tag ++ partsL (parts.take 0)) w2) := Lib.hid (by
    show Lib.BuilderAt _ _ _ _ _ (Lib.byteCells _) _
    rw [List.take_zero, show partsL [] = [] from rfl, List.append_nil, headL_cells tag HT2.out]
    exact hb2)
  have HS2 : Hid (b ≤ w2.heap.size) := Lib.hid (Nat.le_trans HS1.out hB2.size)
  have HW2 : Hid (Below w.heap.size w w2) := Lib.hid (HW1.out.trans (hB2.mono HBW.out))
  clear hb2 hB2
  go_wp2
  go_loopg [25, 8] (len parts) (fun g i _ wr => ∃ m : Nat, g + m = len parts ∧ i = .int .i64 m ∧ Hid (BlAt b b (headL tag ++ partsL (parts.take m)) wr) ∧ Hid (b ≤ wr.heap.size) ∧ Hid (Below w.heap.size w wr))
  case atStart => exact ⟨0, rfl, rfl, H2, HS2, HW2⟩
  case round =>
    clear H2 HS2 HW2
    obtain ⟨m, hm, rfl, H2, HS2, HW2⟩ := hrel
    have HPB := HPL.out
    by_cases hlt : m < len parts
    · have i1 : (m : Int) < (len parts : Nat) := by omega
      obtain ⟨pb, po, rfl, hpc⟩ := (HP.out.below HW2.out) m hlt
      obtain ⟨x, hx⟩ : ∃ x, tth parts m = x := ⟨_, rfl⟩
      rw [hx] at hpc
      have HX := Lib.hid hx
      clear hx
      go_wp2_with fail
      refine (lay_part b b _ x wr H2.out (by
        have h1 := HS.out
        have h2 := partsL_le parts (m + 1)
        have h3 := HT2.out
        rw [partsL_snoc _ _ hlt, List.length_append, HX.out, partL_len] at h2
        rw [List.length_append, headL_len]
        omega) HS2.out).mono ?_
      rintro e w3 ⟨rfl, h3, hb3⟩
      have H3 : Hid (BlAt b b (headL tag ++ partsL (parts.take (m + 1))) w3) := Lib.hid (by rw [partsL_snoc _ _ hlt, HX.out, ← List.append_assoc]; exact h3)
      have HS3 : Hid (b ≤ w3.heap.size) := Lib.hid (Nat.le_trans HS2.out hb3.size)
      have HW3 : Hid (Below w.heap.size w w3) := Lib.hid (HW2.out.trans (hb3.mono HBW.out))
      clear h3 hb3 hpc
      go_wp2
      go_roundg (len parts - (m + 1))
      case rel => exact ⟨m + 1, by omega, by go_num, H3, HS3, HW3⟩
      case measure => omega
    · obtain rfl : m = len parts := by omega
      have i1 : ¬ ((len parts : Nat) : Int) < (len parts : Nat) := by omega
      have H4 : Hid (BlAt b b (framL tag parts) wr) := Lib.hid (by have h := H2.out; rw [take_len] at h; exact h)
      clear H2 hm hlt
      go_wp2_with fail
      refine (Tryz.Builder_String_any b b _ wr (Or.inr H4.out) HS2.out).mono ?_
      rintro e w4 ⟨rfl, hB4⟩
      have HW4 : Hid (Below w.heap.size w w4) := Lib.hid (HW2.out.trans (hB4.mono HBW.out))
      clear hB4
      go_wp2
      go_ret
      exact ⟨rfl, HW4.out⟩
set_option maxRecDepth 100000 in
set_option maxHeartbeats 4000000 in
theorem hash_any (tag : ByteArray) (parts : List ByteArray) (a : Option Addr) (cap : Nat) (w : World) (h1 : 1 ≤ tag.size) (h2 : tag.size ≤ 16) (hp : Txts w a parts) (hs : (partsL parts).length ≤ 140737488355300) :
    Calls Tryz.prog 45 #[.string tag, .slice a (len parts) cap] w fun e w' => e = .returned (.string (hashP tag parts)) ∧ Below w.heap.size w w' := by
  have HF := Lib.hid (frame_any tag parts a cap w h1 h2 hp hs)
  have HS : Hid (1 ≤ (frameS tag parts).size ∧ (frameS tag parts).size ≤ 140737488355328) := Lib.hid (by rw [frameS_size]; omega)
  clear h1 h2 hp hs
  go_enter Tryz.func45, Tryz.ntmps45
  go_wp2_with fail
  refine HF.out.mono ?_
  rintro e w1 ⟨rfl, hb1⟩
  have HB1 := Lib.hid hb1
  have t1 : (frameS tag parts).toList.isEmpty = false := fullT (by have := HS.out; omega)
  clear hb1
  go_wp2_with fail
  refine (sha_any (frameS tag parts) w1 (by have := HS.out; omega)).mono ?_
  rintro e w2 ⟨rfl, hb2⟩
  have HB2 : Hid (Below w.heap.size w w2) := Lib.hid (bnext HB1.out hb2)
  clear hb2
  go_wp2
  go_ret
  exact ⟨rfl, HB2.out⟩
end Go.Proofs.YtpobhbdomldecaaGreatDoor
namespace Go.Proofs.YtpobhbdomldecaaGreatDoor
open Go.RowKit
set_option linter.unusedSimpArgs false
set_option linter.unusedVariables false
def NodeAt (b : Nat) (d : ByteArray) (k0 k1 : Option Addr) (w : World) : Prop := w.heap[b]? = some (.cells #[.string d, .pointer k0, .pointer k1] 118 (0, 0))
theorem NodeAt.below {b : Nat} {d : ByteArray} {k0 k1 : Option Addr} {w w' : World} (h : NodeAt b d k0 k1 w) (hb : Below w.heap.size w w') : NodeAt b d k0 k1 w' := (hb.block _ (lt_of_block h)).trans h
theorem NodeAt.digest {b : Nat} {d : ByteArray} {k0 k1 : Option Addr} {w : World} (h : NodeAt b d k0 k1 w) : w.cell? ⟨b, 0, none⟩ = some (.string d) := by rw [block_cell h]; rfl
def LeafIs (d : ByteArray) (w : World) (e : Ending) (w' : World) : Prop := ∃ b, e = .returned (.pointer (some ⟨b, 0, none⟩)) ∧ w.heap.size ≤ b ∧ NodeAt b d none none w' ∧ Below w.heap.size w w'
theorem txts_cells {w : World} {g : Nat} {cs : Array Value} {t : TypeId} {fr : Nat × Nat} (h : w.heap[g]? = some (.cells cs t fr)) (l : List ByteArray) (hl : ∀ i, i < len l → cs[i]? = some (.string (tth l i))) : Txts w (some ⟨g, 0, none⟩) l := fun i hi => ⟨g, 0, rfl, by rw [block_cell h, Nat.zero_add]; exact hl i hi⟩
set_option maxRecDepth 100000 in
set_option maxHeartbeats 4000000 in
theorem leaf_node (s : ByteArray) (w : World) (hs : s.size ≤ 140737488355200) : Calls Tryz.prog 94 #[.string s] w (LeafIs (hashP leafT [s]) w) := by
  have HS := Lib.hid hs
  clear hs
  go_enter Tryz.func94, Tryz.ntmps94
  go_wp2_with fail
  have hw1 : Txts (w.alloc (.cells #[.string s] 9)) (some ⟨w.heap.size, 0, none⟩) [s] := txts_cells (heap_alloc_new _ _) [s] (fun i hi => by
    have : i = 0 := by have : i < 1 := hi; omega
    subst this; rfl)
  refine (hash_any leafT [s] (some ⟨w.heap.size, 0, none⟩) 1 _ (by decide) (by decide) hw1 (by have := HS.out; show ((partL s) ++ []).length ≤ _; rw [List.append_nil, partL_len]; omega)).mono ?_
  rintro e w2 ⟨rfl, hb2⟩
  have HB2 : Hid (Below w.heap.size w w2) := Lib.hid (bnext (balloc (Below.refl _ _) _) hb2)
  clear hb2 hw1
  obtain ⟨H, hH⟩ : ∃ H, hashP leafT [s] = H := ⟨_, rfl⟩
  rw [hH]
  go_wp2
  go_ret
  exact ⟨w2.heap.size, rfl, HB2.out.size, by rw [hH]; exact heap_alloc_new _ _, balloc HB2.out _⟩
def OverIs (d : ByteArray) (b0 b1 : Nat) (w : World) (e : Ending) (w' : World) : Prop := ∃ b, e = .returned (.pointer (some ⟨b, 0, none⟩)) ∧ w.heap.size ≤ b ∧ NodeAt b d (some ⟨b0, 0, none⟩) (some ⟨b1, 0, none⟩) w' ∧ Below w.heap.size w w'
set_option maxRecDepth 100000 in
set_option maxHeartbeats 4000000 in
theorem over_any (b0 b1 : Nat) (d0 d1 : ByteArray) (w : World) (h0 : w.cell? ⟨b0, 0, none⟩ = some (.string d0)) (h1 : w.cell? ⟨b1, 0, none⟩ = some (.string d1)) (hs : d0.size ≤ 70000000000000 ∧ d1.size ≤ 70000000000000) :
    Calls Tryz.prog 92 #[.pointer (some ⟨b0, 0, none⟩), .pointer (some ⟨b1, 0, none⟩)] w (OverIs (hashP nodeT [d0, d1]) b0 b1 w) := by
  obtain ⟨H, hH⟩ : ∃ H, hashP nodeT [d0, d1] = H := ⟨_, rfl⟩
  rw [hH]
  have HH : Hid (∀ (g : Nat) (wv : World), wv.heap[g]? = some (.cells #[.string d0, .string d1] 9 (0, 0)) → Calls Tryz.prog 45 #[.string ⟨#[110, 111, 100, 101]⟩, .slice (some ⟨g, 0, none⟩) 2 2] wv fun e w' => e = .returned (.string H) ∧ Below wv.heap.size wv w') := Lib.hid (fun g wv hg => by
    rw [← hH]
    refine hash_any nodeT [d0, d1] (some ⟨g, 0, none⟩) 2 wv (by decide) (by decide) (txts_cells hg [d0, d1] (fun i hi => by
      have : i = 0 ∨ i = 1 := by have : i < 2 := hi; omega
      rcases this with rfl | rfl <;> rfl)) ?_
    show ((partL d0) ++ ((partL d1) ++ [])).length ≤ _
    rw [List.append_nil, List.length_append, partL_len, partL_len]
    omega)
  have c0 := h0
  have c1 := h1
  clear hH h0 h1 hs
  go_enter Tryz.func92, Tryz.ntmps92
  go_upto_region 1 with fail
  refine wp_region_tail 15 1000 (none) (phis [fun u _ => u = (.pointer (some ⟨b0, 0, none⟩)), fun u _ => u = (.pointer (some ⟨b0, 0, none⟩)), fun u _ => u = (.pointer (some ⟨b0, 0, none⟩)), fun u _ => u = (.string d0), fun u _ => u = (.pointer (some ⟨b1, 0, none⟩)), fun u _ => u = (.pointer (some ⟨b1, 0, none⟩)), fun u _ => u = (.pointer (some ⟨b1, 0, none⟩)), fun u _ => u = (.string d1), fun u w' => ∃ g, u = .slice (some ⟨g, 0, none⟩) 2 2 ∧ w'.heap[g]? = some (.cells #[.string d0, .string d1] 9 (0, 0)), fun u _ => u = (.string H), fun u _ => u = (.pointer (some ⟨b0, 0, none⟩)), fun u _ => u = (.pointer (some ⟨b1, 0, none⟩)), fun u _ => u = (.agg #[.pointer (some ⟨b0, 0, none⟩), .pointer (some ⟨b1, 0, none⟩)]), fun u _ => u = (.agg #[.string H, .pointer (some ⟨b0, 0, none⟩), .pointer (some ⟨b1, 0, none⟩)]), fun u w' => ∃ g, u = .pointer (some ⟨g, 0, none⟩) ∧ w.heap.size ≤ g ∧ NodeAt g H (some ⟨b0, 0, none⟩) (some ⟨b1, 0, none⟩) w']) rfl (by kernel_rfl) (by kernel_rfl) (mono_of ⟨mono_eq, mono_eq, mono_eq, mono_eq, mono_eq, mono_eq, mono_eq, mono_eq, ?m8, mono_eq, mono_eq, mono_eq, mono_eq, mono_eq, ?m14, trivial⟩) (steps_of 15 ⟨?s0, ?s1, ?s2, ?s3, ?s4, ?s5, ?s6, ?s7, ?s8, ?s9, ?s10, ?s11, ?s12, ?s13, ?s14, trivial⟩) ?_
  case m8 =>
    exact ⟨fun u w1 w' h ⟨b, h1, hb⟩ => ⟨b, h1, ext_block h hb⟩, fun _ u w1 w' h ⟨b, h1, hb⟩ => ⟨b, h1, extB_block h (by simp) hb⟩⟩
  case m14 =>
    exact ⟨fun u w1 w' h ⟨b, h1, h2, hb⟩ => ⟨b, h1, h2, ext_block h hb⟩, fun _ u w1 w' h ⟨b, h1, h2, hb⟩ => ⟨b, h1, h2, extB_block h (by simp) hb⟩⟩
  case s0 =>
    refine step_val (v := (.pointer (some ⟨b0, 0, none⟩))) (fun av wv hE hS hO hD => ?_) (fun _ => rfl)
    have h0 : av.eval (.tmp 0) = (.pointer (some ⟨b0, 0, none⟩)) := hO.2.2 0 rfl
    have f0 := (ev_form av 0).symm.trans h0
    refine ⟨rfl, ?_⟩
    simp [go_sem, f0]
  case s1 =>
    refine step_val (v := (.pointer (some ⟨b0, 0, none⟩))) (fun av wv hE hS hO hD => ?_) (fun _ => rfl)
    have d5 : av.eval (.tmp 5) = (.pointer (some ⟨b0, 0, none⟩)) := hD.1 rfl _ rfl
    have f5 := (ev_form av 5).symm.trans d5
    refine ⟨rfl, ?_⟩
    simp [go_sem, f5]
  case s2 =>
    refine step_val (v := (.pointer (some ⟨b0, 0, none⟩))) (fun av wv hE hS hO hD => ?_) (fun _ => rfl)
    have d6 : av.eval (.tmp 6) = (.pointer (some ⟨b0, 0, none⟩)) := hD.1 rfl _ rfl
    have f6 := (ev_form av 6).symm.trans d6
    refine ⟨rfl, ?_⟩
    simp [go_sem, f6]
  case s3 =>
    refine step_val (v := (.string d0)) (fun av wv hE hS hO hD => ?_) (fun _ => rfl)
    have d7 : av.eval (.tmp 7) = (.pointer (some ⟨b0, 0, none⟩)) := hD.1 rfl _ rfl
    have f7 := (ev_form av 7).symm.trans d7
    have c0 := extB_cell hE (by simp) c0
    have c1 := extB_cell hE (by simp) c1
    refine ⟨rfl, ?_⟩
    simp [go_sem, f7, c0, c1]
  case s4 =>
    refine step_val (v := (.pointer (some ⟨b1, 0, none⟩))) (fun av wv hE hS hO hD => ?_) (fun _ => rfl)
    have h1 : av.eval (.tmp 1) = (.pointer (some ⟨b1, 0, none⟩)) := hO.2.2 1 rfl
    have f1 := (ev_form av 1).symm.trans h1
    refine ⟨rfl, ?_⟩
    simp [go_sem, f1]
  case s5 =>
    refine step_val (v := (.pointer (some ⟨b1, 0, none⟩))) (fun av wv hE hS hO hD => ?_) (fun _ => rfl)
    have d9 : av.eval (.tmp 9) = (.pointer (some ⟨b1, 0, none⟩)) := hD.1 rfl _ rfl
    have f9 := (ev_form av 9).symm.trans d9
    refine ⟨rfl, ?_⟩
    simp [go_sem, f9]
  case s6 =>
    refine step_val (v := (.pointer (some ⟨b1, 0, none⟩))) (fun av wv hE hS hO hD => ?_) (fun _ => rfl)
    have d10 : av.eval (.tmp 10) = (.pointer (some ⟨b1, 0, none⟩)) := hD.1 rfl _ rfl
    have f10 := (ev_form av 10).symm.trans d10
    refine ⟨rfl, ?_⟩
    simp [go_sem, f10]
  case s7 =>
    refine step_val (v := (.string d1)) (fun av wv hE hS hO hD => ?_) (fun _ => rfl)
    have d11 : av.eval (.tmp 11) = (.pointer (some ⟨b1, 0, none⟩)) := hD.1 rfl _ rfl
    have f11 := (ev_form av 11).symm.trans d11
    have c0 := extB_cell hE (by simp) c0
    have c1 := extB_cell hE (by simp) c1
    refine ⟨rfl, ?_⟩
    simp [go_sem, f11, c0, c1]
  case s8 =>
    refine step_wp (fun av wv hE hS hO hD => ?_)
    have d8 : av.eval (.tmp 8) = (.string d0) := hD.1 rfl _ rfl
    have f8 := (ev_form av 8).symm.trans d8
    have d12 : av.eval (.tmp 12) = (.string d1) := hD.2.1 rfl _ rfl
    have f12 := (ev_form av 12).symm.trans d12
    refine ⟨rfl, ?_⟩
    refine wp_of_run (v := .slice (some ⟨wv.heap.size, 0, none⟩) 2 2) (w' := wv.alloc (.cells #[.string d0, .string d1] 9)) (by simp [go_sem, f8, f12]) ⟨_, rfl, es_of_ext (balloc (Ext_refl _) _), wv.heap.size, rfl, heap_alloc_new _ _⟩
  case s9 =>
    refine step_wp (fun av wv hE hS hO hD => ?_)
    have d13 : (fun u w' => ∃ g, u = .slice (some ⟨g, 0, none⟩) 2 2 ∧ w'.heap[g]? = some (.cells #[.string d0, .string d1] 9 (0, 0))) (av.eval (.tmp 13)) wv := hD.1 rfl _ rfl
    refine ⟨rfl, ?_⟩
    obtain ⟨g, h13, hg⟩ := d13
    have f13 := (ev_form av 13).symm.trans h13
    refine wp_of_call (v := .string H) (by simp [go_sem, f13]) (HH.out g wv hg) (fun w2 hb => ⟨_, rfl, es_of_ext hb, rfl⟩)
  case s10 =>
    refine step_val (v := (.pointer (some ⟨b0, 0, none⟩))) (fun av wv hE hS hO hD => ?_) (fun _ => rfl)
    have h0 : av.eval (.tmp 0) = (.pointer (some ⟨b0, 0, none⟩)) := hO.2.2 0 rfl
    have f0 := (ev_form av 0).symm.trans h0
    refine ⟨rfl, ?_⟩
    simp [go_sem, f0]
  case s11 =>
    refine step_val (v := (.pointer (some ⟨b1, 0, none⟩))) (fun av wv hE hS hO hD => ?_) (fun _ => rfl)
    have h1 : av.eval (.tmp 1) = (.pointer (some ⟨b1, 0, none⟩)) := hO.2.2 1 rfl
    have f1 := (ev_form av 1).symm.trans h1
    refine ⟨rfl, ?_⟩
    simp [go_sem, f1]
  case s12 =>
    refine step_val (v := (.agg #[.pointer (some ⟨b0, 0, none⟩), .pointer (some ⟨b1, 0, none⟩)])) (fun av wv hE hS hO hD => ?_) (fun _ => rfl)
    have d15 : av.eval (.tmp 15) = (.pointer (some ⟨b0, 0, none⟩)) := hD.1 rfl _ rfl
    have f15 := (ev_form av 15).symm.trans d15
    have d16 : av.eval (.tmp 16) = (.pointer (some ⟨b1, 0, none⟩)) := hD.2.1 rfl _ rfl
    have f16 := (ev_form av 16).symm.trans d16
    refine ⟨rfl, ?_⟩
    simp [go_sem, f15, f16]
  case s13 =>
    refine step_val (v := (.agg #[.string H, .pointer (some ⟨b0, 0, none⟩), .pointer (some ⟨b1, 0, none⟩)])) (fun av wv hE hS hO hD => ?_) (fun _ => rfl)
    have d14 : av.eval (.tmp 14) = (.string H) := hD.1 rfl _ rfl
    have f14 := (ev_form av 14).symm.trans d14
    have d17 : av.eval (.tmp 17) = (.agg #[.pointer (some ⟨b0, 0, none⟩), .pointer (some ⟨b1, 0, none⟩)]) := hD.2.1 rfl _ rfl
    have f17 := (ev_form av 17).symm.trans d17
    refine ⟨rfl, ?_⟩
    simp [go_sem, f14, f17]
  case s14 =>
    refine step_wp (fun av wv hE hS hO hD => ?_)
    have d18 : av.eval (.tmp 18) = (.agg #[.string H, .pointer (some ⟨b0, 0, none⟩), .pointer (some ⟨b1, 0, none⟩)]) := hD.1 rfl _ rfl
    have f18 := (ev_form av 18).symm.trans d18
    refine ⟨rfl, ?_⟩
    refine wp_of_run (v := .pointer (some ⟨wv.heap.size, 0, none⟩)) (w' := wv.alloc (.cells #[.string H, .pointer (some ⟨b0, 0, none⟩), .pointer (some ⟨b1, 0, none⟩)] 118)) (by simp [go_sem, f18]) ⟨_, rfl, es_of_ext (balloc (Ext_refl _) _), wv.heap.size, rfl, (by have := hE.size; simp at this; omega), heap_alloc_new _ _⟩
  intro a' w' hE hO hall
  have hA := act_of_outer (ds := [5, 6, 7, 8, 9, 10, 11, 12, 13, 14, 15, 16, 17, 18, 19]) rfl hO (by kernel_rfl)
  have e5 : (fun u _ => u = (.pointer (some ⟨b0, 0, none⟩))) (a'.eval (.tmp 5)) w' := hall.1 _ rfl
  have e6 : (fun u _ => u = (.pointer (some ⟨b0, 0, none⟩))) (a'.eval (.tmp 6)) w' := hall.2.1 _ rfl
  have e7 : (fun u _ => u = (.pointer (some ⟨b0, 0, none⟩))) (a'.eval (.tmp 7)) w' := hall.2.2.1 _ rfl
  have e8 : (fun u _ => u = (.string d0)) (a'.eval (.tmp 8)) w' := hall.2.2.2.1 _ rfl
  have e9 : (fun u _ => u = (.pointer (some ⟨b1, 0, none⟩))) (a'.eval (.tmp 9)) w' := hall.2.2.2.2.1 _ rfl
  have e10 : (fun u _ => u = (.pointer (some ⟨b1, 0, none⟩))) (a'.eval (.tmp 10)) w' := hall.2.2.2.2.2.1 _ rfl
  have e11 : (fun u _ => u = (.pointer (some ⟨b1, 0, none⟩))) (a'.eval (.tmp 11)) w' := hall.2.2.2.2.2.2.1 _ rfl
  have e12 : (fun u _ => u = (.string d1)) (a'.eval (.tmp 12)) w' := hall.2.2.2.2.2.2.2.1 _ rfl
  have e13 : (fun u w' => ∃ g, u = .slice (some ⟨g, 0, none⟩) 2 2 ∧ w'.heap[g]? = some (.cells #[.string d0, .string d1] 9 (0, 0))) (a'.eval (.tmp 13)) w' := hall.2.2.2.2.2.2.2.2.1 _ rfl
  have e14 : (fun u _ => u = (.string H)) (a'.eval (.tmp 14)) w' := hall.2.2.2.2.2.2.2.2.2.1 _ rfl
  have e15 : (fun u _ => u = (.pointer (some ⟨b0, 0, none⟩))) (a'.eval (.tmp 15)) w' := hall.2.2.2.2.2.2.2.2.2.2.1 _ rfl
  have e16 : (fun u _ => u = (.pointer (some ⟨b1, 0, none⟩))) (a'.eval (.tmp 16)) w' := hall.2.2.2.2.2.2.2.2.2.2.2.1 _ rfl
  have e17 : (fun u _ => u = (.agg #[.pointer (some ⟨b0, 0, none⟩), .pointer (some ⟨b1, 0, none⟩)])) (a'.eval (.tmp 17)) w' := hall.2.2.2.2.2.2.2.2.2.2.2.2.1 _ rfl
  have e18 : (fun u _ => u = (.agg #[.string H, .pointer (some ⟨b0, 0, none⟩), .pointer (some ⟨b1, 0, none⟩)])) (a'.eval (.tmp 18)) w' := hall.2.2.2.2.2.2.2.2.2.2.2.2.2.1 _ rfl
  have e19 : (fun u w' => ∃ g, u = .pointer (some ⟨g, 0, none⟩) ∧ w.heap.size ≤ g ∧ NodeAt g H (some ⟨b0, 0, none⟩) (some ⟨b1, 0, none⟩) w') (a'.eval (.tmp 19)) w' := hall.2.2.2.2.2.2.2.2.2.2.2.2.2.2.1 _ rfl
  obtain ⟨v13, hv13⟩ : ∃ v, a'.eval (.tmp 13) = v := ⟨_, rfl⟩
  rw [hv13] at e13
  obtain ⟨v19, hv19⟩ : ∃ v, a'.eval (.tmp 19) = v := ⟨_, rfl⟩
  rw [hv19] at e19
  simp only [List.foldl_cons, List.foldl_nil, Act.put, List.setIfInBounds_toArray, List.set_cons_succ, List.set_cons_zero, e5, e6, e7, e8, e9, e10, e11, e12, hv13, e14, e15, e16, e17, e18, hv19] at hA
  clear hO hall e5 e6 e7 e8 e9 e10 e11 e12 hv13 e14 e15 e16 e17 e18 hv19
  subst hA
  obtain ⟨g, rfl, hg, hn⟩ := e19
  have HN := Lib.hid hn
  have HG := Lib.hid hg
  have HW : Hid (Below w.heap.size w w') := Lib.hid (of_drew hE)
  clear hn hg hE
  go_wp2
  go_ret
  exact ⟨g, rfl, HG.out, HN.out, HW.out⟩
end Go.Proofs.YtpobhbdomldecaaGreatDoor
namespace Go.Proofs.YtpobhbdomldecaaGreatDoor
open Go.RowKit
set_option linter.unusedSimpArgs false
set_option linter.unusedVariables false
def PlaceIs (els : List ByteArray) (d : Nat) : Nat → Nat → Nat → World → Prop
  | 0, k, b, w => NodeAt b (plD els d 0 k) none none w
  | l + 1, k, b, w => ∃ b0 b1, NodeAt b (plD els d (l + 1) k) (some ⟨b0, 0, none⟩) (some ⟨b1, 0, none⟩) w ∧ PlaceIs els d l (2 * k) b0 w ∧ PlaceIs els d l (2 * k + 1) b1 w
theorem PlaceIs.below {els : List ByteArray} {d : Nat} : ∀ {l k b : Nat} {w w' : World}, PlaceIs els d l k b w → Below w.heap.size w w' → PlaceIs els d l k b w'
  | 0, _, _, _, _, h, hb => NodeAt.below h hb
  | l + 1, _, _, _, _, ⟨b0, b1, h, h0, h1⟩, hb => ⟨b0, b1, h.below hb, h0.below hb, h1.below hb⟩
theorem PlaceIs.digest {els : List ByteArray} {d : Nat} : ∀ {l k b : Nat} {w : World}, PlaceIs els d l k b w → w.cell? ⟨b, 0, none⟩ = some (.string (plD els d l k))
  | 0, _, _, _, h => NodeAt.digest h
  | l + 1, _, _, _, ⟨b0, b1, h, _, _⟩ => h.digest
theorem PlaceIs.ext {els : List ByteArray} {d l k b : Nat} {w w' : World} (h : PlaceIs els d l k b w) (hb : Ext w w') : PlaceIs els d l k b w' := h.below hb
theorem PlaceIs.extB {els : List ByteArray} {d l k b : Nat} {w w' : World} (h : PlaceIs els d l k b w) (hb : ExtB none w w') : PlaceIs els d l k b w' := h.below (extB_none hb)
structure EnvT (els : List ByteArray) (d bF bD bE bN nb : Nat) (a : Option Addr) (cap : Nat) (w : World) : Prop where
  f : w.heap[bF]? = some (.cells #[.func (.func 91) #[] #[.pointer (some ⟨bF, 0, none⟩), .pointer (some ⟨bD, 0, none⟩), .pointer (some ⟨bE, 0, none⟩), .pointer (some ⟨bN, 0, none⟩)]] 119 (0, 0))
  d : w.heap[bD]? = some (.cells #[.int .i64 (d : Nat)] 3 (0, 0))
  e : w.heap[bE]? = some (.cells #[.slice a (len els) cap] 36 (0, 0))
  n : w.heap[bN]? = some (.cells #[.pointer (some ⟨nb, 0, none⟩)] 115 (0, 0))
  nb : NodeAt nb (hashP noneT []) none none w
  t : Txts w a els
theorem EnvT.below {els : List ByteArray} {d bF bD bE bN nb : Nat} {a : Option Addr} {cap : Nat} {w w' : World} (h : EnvT els d bF bD bE bN nb a cap w) (hb : Below w.heap.size w w') : EnvT els d bF bD bE bN nb a cap w' :=
  ⟨(hb.block _ (lt_of_block h.f)).trans h.f, (hb.block _ (lt_of_block h.d)).trans h.d, (hb.block _ (lt_of_block h.e)).trans h.e, (hb.block _ (lt_of_block h.n)).trans h.n, h.nb.below hb, h.t.below hb⟩
def AtIs (els : List ByteArray) (d l k : Nat) (w : World) (e : Ending) (w' : World) : Prop := ∃ g, e = .returned (.pointer (some ⟨g, 0, none⟩)) ∧ PlaceIs els d l k g w' ∧ Below w.heap.size w w'
theorem turned_rev {k d : Nat} (hd : d ≤ 16) (hk : k < 2 ^ d) : turnedZ (k : Nat) (d : Nat) = ((revOf k d : Nat) : Int) := by
  unfold turnedZ
  rw [if_pos]
  · simp
  · refine ⟨by omega, by omega, ?_⟩
    rw [Int.toNat_natCast, pow_cast]
    exact_mod_cast hk
theorem pow_le16 {d : Nat} (hd : d ≤ 16) : 2 ^ d ≤ 65536 := Nat.pow_le_pow_right (by decide) hd
set_option maxRecDepth 100000 in
set_option maxHeartbeats 4000000 in
theorem at_zero (els : List ByteArray) (d bF bD bE bN nb : Nat) (a : Option Addr) (cap k : Nat) (w : World) (hd : d ≤ 16) (hk : k < 2 ^ d) (hn : len els ≤ 65536) (hz : ∀ i, i < len els → (tth els i).size ≤ 140737488355200) (h : EnvT els d bF bD bE bN nb a cap w) :
    Calls Tryz.prog 91 #[.int .i64 0, .int .u64 k, .pointer (some ⟨bF, 0, none⟩), .pointer (some ⟨bD, 0, none⟩), .pointer (some ⟨bE, 0, none⟩), .pointer (some ⟨bN, 0, none⟩)] w (AtIs els d 0 k w) := by
  have H := Lib.hid h
  have HK : Hid (k < 65536) := Lib.hid (Nat.lt_of_lt_of_le hk (pow_le16 hd))
  have HN := Lib.hid hn
  have HZ := Lib.hid hz
  have HEL := Lib.hid (element_any (k : Nat) (d : Nat) w (by omega) (by have := HK.out; omega))
  rw [turned_rev hd hk] at HEL
  have cd : w.cell? ⟨bD, 0, none⟩ = some (.int .i64 (d : Nat)) := by rw [block_cell h.d]; rfl
  have ce : w.cell? ⟨bE, 0, none⟩ = some (.slice a (len els) cap) := by rw [block_cell h.e]; rfl
  have cn : w.cell? ⟨bN, 0, none⟩ = some (.pointer (some ⟨nb, 0, none⟩)) := by rw [block_cell h.n]; rfl
  have HPL : Hid (plD els d 0 k = if revOf k d < len els then hashP leafT [tth els (revOf k d)] else hashP noneT []) := Lib.hid rfl
  have HRL : Hid (revOf k d < 65536) := Lib.hid (Nat.lt_of_lt_of_le (revOf_lt k d) (pow_le16 hd))
  obtain ⟨i, hi⟩ : ∃ i, revOf k d = i := ⟨_, rfl⟩
  rw [hi] at HEL HPL HRL
  clear h hi hd hk hn hz
  go_enter Tryz.func91, Tryz.ntmps91
  go_wp2_with fail
  refine HEL.out.mono ?_
  rintro e w1 ⟨rfl, rfl⟩
  have HNB := HN.out
  have hil := HRL.out
  by_cases hlt : i < len els
  · have i1 : (i : Int) < (len els : Nat) := by omega
    have i2 : IntKind.u64.wrap ((len els : Nat) : Int) = ((len els : Nat) : Int) := IntWalk.u64_in _ (by omega)
    obtain ⟨pb, po, rfl, hpc⟩ := H.out.t i hlt
    obtain ⟨x, hx⟩ : ∃ x, tth els i = x := ⟨_, rfl⟩
    rw [hx] at hpc
    have HX := Lib.hid hx
    clear hx
    go_wp2_with fail
    refine (leaf_node x w (by rw [← HX.out]; exact HZ.out i hlt)).mono ?_
    rintro e w2 ⟨g, rfl, hg, hn2, hb2⟩
    have HE2 : Hid (PlaceIs els d 0 k g w2) := Lib.hid (by
      show NodeAt g (plD els d 0 k) none none w2
      rw [HPL.out, if_pos hlt, HX.out]; exact hn2)
    have HB2 := Lib.hid hb2
    clear hg hn2 hb2 hpc
    go_wp2
    go_ret
    exact ⟨g, rfl, HE2.out, HB2.out⟩
  · have i1 : ¬ (i : Int) < (len els : Nat) := by omega
    have i2 : IntKind.u64.wrap ((len els : Nat) : Int) = ((len els : Nat) : Int) := IntWalk.u64_in _ (by omega)
    have HE2 : Hid (PlaceIs els d 0 k nb w) := Lib.hid (by
      show NodeAt nb (plD els d 0 k) none none w
      rw [HPL.out, if_neg hlt]; exact H.out.nb)
    clear hlt
    go_wp2
    go_ret
    exact ⟨nb, rfl, HE2.out, Below.refl _ _⟩
set_option maxRecDepth 100000 in
set_option maxHeartbeats 4000000 in
theorem at_step (els : List ByteArray) (d bF bD bE bN nb : Nat) (a : Option Addr) (cap l k : Nat) (w : World) (hd : l + 1 ≤ 16) (hk : k < 65536) (h : EnvT els d bF bD bE bN nb a cap w)
    (hr : ∀ (k' : Nat) (wv : World), Below w.heap.size w wv → (k' = 2 * k ∨ k' = 2 * k + 1) → Calls Tryz.prog 91 #[.int .i64 (l : Nat), .int .u64 ((k' : Nat) : Int), .pointer (some ⟨bF, 0, none⟩), .pointer (some ⟨bD, 0, none⟩), .pointer (some ⟨bE, 0, none⟩), .pointer (some ⟨bN, 0, none⟩)] wv (AtIs els d l k' wv)) :
    Calls Tryz.prog 91 #[.int .i64 ((l + 1 : Nat) : Int), .int .u64 k, .pointer (some ⟨bF, 0, none⟩), .pointer (some ⟨bD, 0, none⟩), .pointer (some ⟨bE, 0, none⟩), .pointer (some ⟨bN, 0, none⟩)] w (AtIs els d (l + 1) k w) := by
  have HR := Lib.hid hr
  have K1 : 2 * k = 2 * k ∨ 2 * k = 2 * k + 1 := Or.inl rfl
  have K2 : 2 * k + 1 = 2 * k ∨ 2 * k + 1 = 2 * k + 1 := Or.inr rfl
  have cf : w.cell? ⟨bF, 0, none⟩ = some (.func (.func 91) #[] #[.pointer (some ⟨bF, 0, none⟩), .pointer (some ⟨bD, 0, none⟩), .pointer (some ⟨bE, 0, none⟩), .pointer (some ⟨bN, 0, none⟩)]) := by rw [block_cell h.f]; rfl
  have l1 : (0 : Int) < ((l + 1 : Nat) : Int) := by omega
  have s1 : IntKind.i64.wrap (l : Int) = (l : Int) := IntWalk.i64_in _ (by omega)
  have m1 : IntKind.u64.wrap (2 * (k : Int)) = 2 * (k : Int) := IntWalk.u64_in _ (by omega)
  have m2 : IntKind.u64.wrap (2 * (k : Int) + 1) = 2 * (k : Int) + 1 := IntWalk.u64_in _ (by omega)
  clear hr h
  go_enter Tryz.func91, Tryz.ntmps91
  go_upto_region 2 with fail
  refine wp_region_tail 14 1000 (none) (phis [fun u _ => u = (.func (.func 91) #[] #[.pointer (some ⟨bF, 0, none⟩), .pointer (some ⟨bD, 0, none⟩), .pointer (some ⟨bE, 0, none⟩), .pointer (some ⟨bN, 0, none⟩)]), fun u _ => u = (.int .i64 ((l + 1 : Nat) : Int)), fun u _ => u = (.int .i64 (l : Nat)), fun u _ => u = (.int .u64 k), fun u _ => u = (.int .u64 ((2 * k : Nat) : Int)), fun u w' => ∃ g, u = .pointer (some ⟨g, 0, none⟩) ∧ PlaceIs els d l (2 * k) g w', fun u _ => u = (.func (.func 91) #[] #[.pointer (some ⟨bF, 0, none⟩), .pointer (some ⟨bD, 0, none⟩), .pointer (some ⟨bE, 0, none⟩), .pointer (some ⟨bN, 0, none⟩)]), fun u _ => u = (.int .i64 ((l + 1 : Nat) : Int)), fun u _ => u = (.int .i64 (l : Nat)), fun u _ => u = (.int .u64 k), fun u _ => u = (.int .u64 ((2 * k : Nat) : Int)), fun u _ => u = (.int .u64 ((2 * k + 1 : Nat) : Int)), fun u w' => ∃ g, u = .pointer (some ⟨g, 0, none⟩) ∧ PlaceIs els d l (2 * k + 1) g w', fun u w' => ∃ g, u = .pointer (some ⟨g, 0, none⟩) ∧ PlaceIs els d (l + 1) k g w']) rfl (by kernel_rfl) (by kernel_rfl) (mono_of ⟨mono_eq, mono_eq, mono_eq, mono_eq, mono_eq, ?m5, mono_eq, mono_eq, mono_eq, mono_eq, mono_eq, mono_eq, ?m12, ?m13, trivial⟩) (steps_of 14 ⟨?s0, ?s1, ?s2, ?s3, ?s4, ?s5, ?s6, ?s7, ?s8, ?s9, ?s10, ?s11, ?s12, ?s13, trivial⟩) ?_
  case m5 =>
    exact ⟨fun u w1 w' h ⟨b, h1, hb⟩ => ⟨b, h1, hb.ext h⟩, fun _ u w1 w' h ⟨b, h1, hb⟩ => ⟨b, h1, hb.extB h⟩⟩
  case m12 =>
    exact ⟨fun u w1 w' h ⟨b, h1, hb⟩ => ⟨b, h1, hb.ext h⟩, fun _ u w1 w' h ⟨b, h1, hb⟩ => ⟨b, h1, hb.extB h⟩⟩
  case m13 =>
    exact ⟨fun u w1 w' h ⟨b, h1, hb⟩ => ⟨b, h1, hb.ext h⟩, fun _ u w1 w' h ⟨b, h1, hb⟩ => ⟨b, h1, hb.extB h⟩⟩
  case s0 =>
    refine step_val (v := (.func (.func 91) #[] #[.pointer (some ⟨bF, 0, none⟩), .pointer (some ⟨bD, 0, none⟩), .pointer (some ⟨bE, 0, none⟩), .pointer (some ⟨bN, 0, none⟩)])) (fun av wv hE hS hO hD => ?_) (fun _ => rfl)
    have h2 : av.eval (.tmp 2) = (.pointer (some ⟨bF, 0, none⟩)) := hO.2.2 2 rfl
    have f2 := (ev_form av 2).symm.trans h2
    have cf := extB_cell hE (by simp) cf
    refine ⟨rfl, ?_⟩
    simp [go_sem, f2, cf, s1, m1, m2]
  case s1 =>
    refine step_val (v := (.int .i64 ((l + 1 : Nat) : Int))) (fun av wv hE hS hO hD => ?_) (fun _ => rfl)
    have h0 : av.eval (.tmp 0) = (.int .i64 ((l + 1 : Nat) : Int)) := hO.2.2 0 rfl
    have f0 := (ev_form av 0).symm.trans h0
    refine ⟨rfl, ?_⟩
    simp [go_sem, f0, s1, m1, m2]
  case s2 =>
    refine step_val (v := (.int .i64 (l : Nat))) (fun av wv hE hS hO hD => ?_) (fun _ => rfl)
    have d13 : av.eval (.tmp 13) = (.int .i64 ((l + 1 : Nat) : Int)) := hD.1 rfl _ rfl
    have f13 := (ev_form av 13).symm.trans d13
    refine ⟨rfl, ?_⟩
    simp [go_sem, f13, s1, m1, m2]
  case s3 =>
    refine step_val (v := (.int .u64 k)) (fun av wv hE hS hO hD => ?_) (fun _ => rfl)
    have h1 : av.eval (.tmp 1) = (.int .u64 k) := hO.2.2 1 rfl
    have f1 := (ev_form av 1).symm.trans h1
    refine ⟨rfl, ?_⟩
    simp [go_sem, f1, s1, m1, m2]
  case s4 =>
    refine step_val (v := (.int .u64 ((2 * k : Nat) : Int))) (fun av wv hE hS hO hD => ?_) (fun _ => rfl)
    have d15 : av.eval (.tmp 15) = (.int .u64 k) := hD.1 rfl _ rfl
    have f15 := (ev_form av 15).symm.trans d15
    refine ⟨rfl, ?_⟩
    simp [go_sem, f15, s1, m1, m2]
  case s5 =>
    refine step_wp (fun av wv hE hS hO hD => ?_)
    have d12 : av.eval (.tmp 12) = (.func (.func 91) #[] #[.pointer (some ⟨bF, 0, none⟩), .pointer (some ⟨bD, 0, none⟩), .pointer (some ⟨bE, 0, none⟩), .pointer (some ⟨bN, 0, none⟩)]) := hD.1 rfl _ rfl
    have f12 := (ev_form av 12).symm.trans d12
    have d14 : av.eval (.tmp 14) = (.int .i64 (l : Nat)) := hD.2.1 rfl _ rfl
    have f14 := (ev_form av 14).symm.trans d14
    have d16 : av.eval (.tmp 16) = (.int .u64 ((2 * k : Nat) : Int)) := hD.2.2.1 rfl _ rfl
    have f16 := (ev_form av 16).symm.trans d16
    refine ⟨rfl, ?_⟩
    refine wp_of_callV (R := fun u w2 => (∃ g, u = .pointer (some ⟨g, 0, none⟩) ∧ PlaceIs els d l (2 * k) g w2) ∧ Below wv.heap.size wv w2) (f := 91) (args := #[.int .i64 (l : Nat), .int .u64 ((2 * k : Nat) : Int), .pointer (some ⟨bF, 0, none⟩), .pointer (some ⟨bD, 0, none⟩), .pointer (some ⟨bE, 0, none⟩), .pointer (some ⟨bN, 0, none⟩)]) (by simp [go_sem, f12, f14, f16]) ((HR.out (2 * k) wv (of_drew hE) K1).mono (fun e w2 ⟨g, h1, h2, h3⟩ => ⟨_, h1, ⟨g, rfl, h2⟩, h3⟩)) (fun u w2 ⟨h1, h2⟩ => ⟨_, rfl, es_of_ext h2, h1⟩)
  case s6 =>
    refine step_val (v := (.func (.func 91) #[] #[.pointer (some ⟨bF, 0, none⟩), .pointer (some ⟨bD, 0, none⟩), .pointer (some ⟨bE, 0, none⟩), .pointer (some ⟨bN, 0, none⟩)])) (fun av wv hE hS hO hD => ?_) (fun _ => rfl)
    have h2 : av.eval (.tmp 2) = (.pointer (some ⟨bF, 0, none⟩)) := hO.2.2 2 rfl
    have f2 := (ev_form av 2).symm.trans h2
    have cf := extB_cell hE (by simp) cf
    refine ⟨rfl, ?_⟩
    simp [go_sem, f2, cf, s1, m1, m2]
  case s7 =>
    refine step_val (v := (.int .i64 ((l + 1 : Nat) : Int))) (fun av wv hE hS hO hD => ?_) (fun _ => rfl)
    have h0 : av.eval (.tmp 0) = (.int .i64 ((l + 1 : Nat) : Int)) := hO.2.2 0 rfl
    have f0 := (ev_form av 0).symm.trans h0
    refine ⟨rfl, ?_⟩
    simp [go_sem, f0, s1, m1, m2]
  case s8 =>
    refine step_val (v := (.int .i64 (l : Nat))) (fun av wv hE hS hO hD => ?_) (fun _ => rfl)
    have d19 : av.eval (.tmp 19) = (.int .i64 ((l + 1 : Nat) : Int)) := hD.1 rfl _ rfl
    have f19 := (ev_form av 19).symm.trans d19
    refine ⟨rfl, ?_⟩
    simp [go_sem, f19, s1, m1, m2]
  case s9 =>
    refine step_val (v := (.int .u64 k)) (fun av wv hE hS hO hD => ?_) (fun _ => rfl)
    have h1 : av.eval (.tmp 1) = (.int .u64 k) := hO.2.2 1 rfl
    have f1 := (ev_form av 1).symm.trans h1
    refine ⟨rfl, ?_⟩
    simp [go_sem, f1, s1, m1, m2]
  case s10 =>
    refine step_val (v := (.int .u64 ((2 * k : Nat) : Int))) (fun av wv hE hS hO hD => ?_) (fun _ => rfl)
    have d21 : av.eval (.tmp 21) = (.int .u64 k) := hD.1 rfl _ rfl
    have f21 := (ev_form av 21).symm.trans d21
    refine ⟨rfl, ?_⟩
    simp [go_sem, f21, s1, m1, m2]
  case s11 =>
    refine step_val (v := (.int .u64 ((2 * k + 1 : Nat) : Int))) (fun av wv hE hS hO hD => ?_) (fun _ => rfl)
    have d22 : av.eval (.tmp 22) = (.int .u64 ((2 * k : Nat) : Int)) := hD.1 rfl _ rfl
    have f22 := (ev_form av 22).symm.trans d22
    refine ⟨rfl, ?_⟩
    simp [go_sem, f22, s1, m1, m2]
  case s12 =>
    refine step_wp (fun av wv hE hS hO hD => ?_)
    have d18 : av.eval (.tmp 18) = (.func (.func 91) #[] #[.pointer (some ⟨bF, 0, none⟩), .pointer (some ⟨bD, 0, none⟩), .pointer (some ⟨bE, 0, none⟩), .pointer (some ⟨bN, 0, none⟩)]) := hD.1 rfl _ rfl
    have f18 := (ev_form av 18).symm.trans d18
    have d20 : av.eval (.tmp 20) = (.int .i64 (l : Nat)) := hD.2.1 rfl _ rfl
    have f20 := (ev_form av 20).symm.trans d20
    have d23 : av.eval (.tmp 23) = (.int .u64 ((2 * k + 1 : Nat) : Int)) := hD.2.2.1 rfl _ rfl
    have f23 := (ev_form av 23).symm.trans d23
    refine ⟨rfl, ?_⟩
    refine wp_of_callV (R := fun u w2 => (∃ g, u = .pointer (some ⟨g, 0, none⟩) ∧ PlaceIs els d l (2 * k + 1) g w2) ∧ Below wv.heap.size wv w2) (f := 91) (args := #[.int .i64 (l : Nat), .int .u64 ((2 * k + 1 : Nat) : Int), .pointer (some ⟨bF, 0, none⟩), .pointer (some ⟨bD, 0, none⟩), .pointer (some ⟨bE, 0, none⟩), .pointer (some ⟨bN, 0, none⟩)]) (by simp [go_sem, f18, f20, f23]) ((HR.out (2 * k + 1) wv (of_drew hE) K2).mono (fun e w2 ⟨g, h1, h2, h3⟩ => ⟨_, h1, ⟨g, rfl, h2⟩, h3⟩)) (fun u w2 ⟨h1, h2⟩ => ⟨_, rfl, es_of_ext h2, h1⟩)
  case s13 =>
    refine step_wp (fun av wv hE hS hO hD => ?_)
    have d17 : (fun u w' => ∃ g, u = .pointer (some ⟨g, 0, none⟩) ∧ PlaceIs els d l (2 * k) g w') (av.eval (.tmp 17)) wv := hD.1 rfl _ rfl
    have d24 : (fun u w' => ∃ g, u = .pointer (some ⟨g, 0, none⟩) ∧ PlaceIs els d l (2 * k + 1) g w') (av.eval (.tmp 24)) wv := hD.2.1 rfl _ rfl
    refine ⟨rfl, ?_⟩
    obtain ⟨g0, h17, hg0⟩ := d17
    obtain ⟨g1, h24, hg1⟩ := d24
    have f17 := (ev_form av 17).symm.trans h17
    have f24 := (ev_form av 24).symm.trans h24
    refine wp_of_callV (R := fun u w2 => ∃ g, u = .pointer (some ⟨g, 0, none⟩) ∧ NodeAt g (plD els d (l + 1) k) (some ⟨g0, 0, none⟩) (some ⟨g1, 0, none⟩) w2 ∧ Below wv.heap.size wv w2) (f := 92) (args := #[.pointer (some ⟨g0, 0, none⟩), .pointer (some ⟨g1, 0, none⟩)]) (by simp [go_sem, f17, f24]) ((over_any g0 g1 (plD els d l (2 * k)) (plD els d l (2 * k + 1)) wv hg0.digest hg1.digest ⟨by rw [plD_size]; decide, by rw [plD_size]; decide⟩).mono (fun e w2 ⟨g, h1, _, h2, h3⟩ => ⟨_, h1, g, rfl, h2, h3⟩)) (fun u w2 ⟨g, h1, h2, h3⟩ => ⟨_, rfl, es_of_ext h3, g, h1, g0, g1, h2, hg0.below h3, hg1.below h3⟩)
  intro a' w' hE hO hall
  have hA := act_of_outer (ds := [12, 13, 14, 15, 16, 17, 18, 19, 20, 21, 22, 23, 24, 25]) rfl hO (by kernel_rfl)
  have e12 : (fun u _ => u = (.func (.func 91) #[] #[.pointer (some ⟨bF, 0, none⟩), .pointer (some ⟨bD, 0, none⟩), .pointer (some ⟨bE, 0, none⟩), .pointer (some ⟨bN, 0, none⟩)])) (a'.eval (.tmp 12)) w' := hall.1 _ rfl
  have e13 : (fun u _ => u = (.int .i64 ((l + 1 : Nat) : Int))) (a'.eval (.tmp 13)) w' := hall.2.1 _ rfl
  have e14 : (fun u _ => u = (.int .i64 (l : Nat))) (a'.eval (.tmp 14)) w' := hall.2.2.1 _ rfl
  have e15 : (fun u _ => u = (.int .u64 k)) (a'.eval (.tmp 15)) w' := hall.2.2.2.1 _ rfl
  have e16 : (fun u _ => u = (.int .u64 ((2 * k : Nat) : Int))) (a'.eval (.tmp 16)) w' := hall.2.2.2.2.1 _ rfl
  have e17 : (fun u w' => ∃ g, u = .pointer (some ⟨g, 0, none⟩) ∧ PlaceIs els d l (2 * k) g w') (a'.eval (.tmp 17)) w' := hall.2.2.2.2.2.1 _ rfl
  have e18 : (fun u _ => u = (.func (.func 91) #[] #[.pointer (some ⟨bF, 0, none⟩), .pointer (some ⟨bD, 0, none⟩), .pointer (some ⟨bE, 0, none⟩), .pointer (some ⟨bN, 0, none⟩)])) (a'.eval (.tmp 18)) w' := hall.2.2.2.2.2.2.1 _ rfl
  have e19 : (fun u _ => u = (.int .i64 ((l + 1 : Nat) : Int))) (a'.eval (.tmp 19)) w' := hall.2.2.2.2.2.2.2.1 _ rfl
  have e20 : (fun u _ => u = (.int .i64 (l : Nat))) (a'.eval (.tmp 20)) w' := hall.2.2.2.2.2.2.2.2.1 _ rfl
  have e21 : (fun u _ => u = (.int .u64 k)) (a'.eval (.tmp 21)) w' := hall.2.2.2.2.2.2.2.2.2.1 _ rfl
  have e22 : (fun u _ => u = (.int .u64 ((2 * k : Nat) : Int))) (a'.eval (.tmp 22)) w' := hall.2.2.2.2.2.2.2.2.2.2.1 _ rfl
  have e23 : (fun u _ => u = (.int .u64 ((2 * k + 1 : Nat) : Int))) (a'.eval (.tmp 23)) w' := hall.2.2.2.2.2.2.2.2.2.2.2.1 _ rfl
  have e24 : (fun u w' => ∃ g, u = .pointer (some ⟨g, 0, none⟩) ∧ PlaceIs els d l (2 * k + 1) g w') (a'.eval (.tmp 24)) w' := hall.2.2.2.2.2.2.2.2.2.2.2.2.1 _ rfl
  have e25 : (fun u w' => ∃ g, u = .pointer (some ⟨g, 0, none⟩) ∧ PlaceIs els d (l + 1) k g w') (a'.eval (.tmp 25)) w' := hall.2.2.2.2.2.2.2.2.2.2.2.2.2.1 _ rfl
  obtain ⟨v17, hv17⟩ : ∃ v, a'.eval (.tmp 17) = v := ⟨_, rfl⟩
  rw [hv17] at e17
  obtain ⟨v24, hv24⟩ : ∃ v, a'.eval (.tmp 24) = v := ⟨_, rfl⟩
  rw [hv24] at e24
  obtain ⟨v25, hv25⟩ : ∃ v, a'.eval (.tmp 25) = v := ⟨_, rfl⟩
  rw [hv25] at e25
  simp only [List.foldl_cons, List.foldl_nil, Act.put, List.setIfInBounds_toArray, List.set_cons_succ, List.set_cons_zero, e12, e13, e14, e15, e16, hv17, e18, e19, e20, e21, e22, e23, hv24, hv25] at hA
  clear hO hall e12 e13 e14 e15 e16 hv17 e18 e19 e20 e21 e22 e23 hv24 hv25
  subst hA
  obtain ⟨g, rfl, hg⟩ := e25
  have HG := Lib.hid hg
  have HW : Hid (Below w.heap.size w w') := Lib.hid (of_drew hE)
  clear hg hE e17 e24
  go_wp2
  go_ret
  exact ⟨g, rfl, HG.out, HW.out⟩
theorem at_any (els : List ByteArray) (d bF bD bE bN nb : Nat) (a : Option Addr) (cap : Nat) (hd : d ≤ 16) (hn : len els ≤ 65536) (hz : ∀ i, i < len els → (tth els i).size ≤ 140737488355200) :
    ∀ (l k : Nat) (w : World), l ≤ d → k < 2 ^ (d - l) → EnvT els d bF bD bE bN nb a cap w →
    Calls Tryz.prog 91 #[.int .i64 (l : Nat), .int .u64 k, .pointer (some ⟨bF, 0, none⟩), .pointer (some ⟨bD, 0, none⟩), .pointer (some ⟨bE, 0, none⟩), .pointer (some ⟨bN, 0, none⟩)] w (AtIs els d l k w)
  | 0, k, w, _, hk, h => at_zero els d bF bD bE bN nb a cap k w hd (by simpa using hk) hn hz h
  | l + 1, k, w, hl, hk, h => by
    have h2 : 2 ^ (d - (l + 1)) ≤ 65536 := Nat.le_trans (Nat.pow_le_pow_right (by decide) (show d - (l + 1) ≤ 16 by omega)) (by decide)
    refine at_step els d bF bD bE bN nb a cap l k w (by omega) (by omega) h fun k' wv hb hk' => ?_
    refine at_any els d bF bD bE bN nb a cap hd hn hz l k' wv (by omega) ?_ (h.below hb)
    have : 2 ^ (d - l) = 2 * 2 ^ (d - (l + 1)) := by rw [show d - l = (d - (l + 1)) + 1 by omega, Nat.pow_succ]; omega
    rcases hk' with rfl | rfl <;> omega
end Go.Proofs.YtpobhbdomldecaaGreatDoor
namespace Go.Proofs.YtpobhbdomldecaaGreatDoor
open Go.RowKit
set_option linter.unusedSimpArgs false
set_option linter.unusedVariables false
def depN (els : List ByteArray) : Nat := Lib.bitLen (len els - 1)
theorem depN_le {els : List ByteArray} (h : len els ≤ 65536) : depN els ≤ 16 := (depth_bd (len els) h).1
theorem depthZ_len {els : List ByteArray} (h : len els ≤ 65536) : depthZ (len els : Nat) = ((depN els : Nat) : Int) := by
  unfold depthZ depN
  rw [if_neg (by omega), Int.toNat_natCast]
def TreeAt (els : List ByteArray) (b : Nat) (w : World) : Prop := ∃ p, w.heap[b]? = some (.cells #[.pointer (some ⟨p, 0, none⟩), .int .i64 (depN els : Nat), .int .i64 (len els : Nat)] 124 (0, 0)) ∧ PlaceIs els (depN els) (depN els) 0 p w
theorem TreeAt.below {els : List ByteArray} {b : Nat} {w w' : World} (h : TreeAt els b w) (hb : Below w.heap.size w w') : TreeAt els b w' := by
  obtain ⟨p, h1, h2⟩ := h
  exact ⟨p, (hb.block _ (lt_of_block h1)).trans h1, h2.below hb⟩
def BuildIs (els : List ByteArray) (w : World) (e : Ending) (w' : World) : Prop := ∃ b, e = .returned (.tuple #[.pointer (some ⟨b, 0, none⟩), .int .i64 0]) ∧ w.heap.size ≤ b ∧ TreeAt els b w' ∧ Below w.heap.size w w'
set_option maxRecDepth 100000 in
set_option maxHeartbeats 4000000 in
theorem build_any (els : List ByteArray) (a : Option Addr) (cap : Nat) (w : World) (ht : Txts w a els) (hn : len els ≤ 65536) (hz : ∀ i, i < len els → (tth els i).size ≤ 140737488355200) :
    Calls Tryz.prog 42 #[.slice a (len els) cap] w (BuildIs els w) := by
  have HT := Lib.hid ht
  have HN := Lib.hid hn
  have HZ := Lib.hid hz
  obtain ⟨d, hd⟩ : ∃ d, depN els = d := ⟨_, rfl⟩
  have HDD := Lib.hid hd
  have HD16 : Hid (d ≤ 16) := Lib.hid (by rw [← hd]; exact depN_le hn)
  have HDZ : Hid (depthZ (len els : Nat) = ((d : Nat) : Int)) := Lib.hid (by rw [← hd]; exact depthZ_len hn)
  have n1 : ¬ (65536 : Int) < (len els : Nat) := by omega
  clear ht hz hd
  go_enter Tryz.func42, Tryz.ntmps42
  go_wp2_with fail
  refine (depth_any (len els : Nat) _ (by omega) (by omega)).mono ?_
  rintro e w1 ⟨rfl, rfl⟩
  rw [HDZ.out]
  clear n1 hn
  go_wp2_with fail
  obtain ⟨bE, hbE⟩ : ∃ bE, w.heap.size = bE := ⟨_, rfl⟩
  obtain ⟨bD, hbD⟩ : ∃ bD, w.heap.size + 1 = bD := ⟨_, rfl⟩
  rw [hbD, hbE]
  obtain ⟨V, hV⟩ : ∃ V, (w.alloc (.cells #[.slice a (len els) cap] 36)).alloc (.cells #[.int .i64 (d : Nat)] 3) = V := ⟨_, rfl⟩
  rw [hV]
  have HVE : Hid (V.heap[bE]? = some (.cells #[.slice a (len els) cap] 36 (0, 0))) := Lib.hid (by rw [← hV]; exact block_alloc (alloc_new_at _ hbE) _)
  have HVD : Hid (V.heap[bD]? = some (.cells #[.int .i64 (d : Nat)] 3 (0, 0))) := Lib.hid (by rw [← hV]; exact alloc_new_at _ (by rw [alloc_size _ rfl]; exact hbD))
  have HVW : Hid (Below w.heap.size w V) := Lib.hid (by rw [← hV]; exact balloc (balloc (Below.refl _ _) _) _)
  clear hV hbE hbD
  refine (hash_any noneT [] none 0 V (by decide) (by decide) (Txts.nil _ _) (by decide)).mono ?_
  rintro e w2 ⟨rfl, hb2⟩
  have H2E : Hid (w2.heap[bE]? = some (.cells #[.slice a (len els) cap] 36 (0, 0))) := Lib.hid ((hb2.block _ (lt_of_block HVE.out)).trans HVE.out)
  have H2D : Hid (w2.heap[bD]? = some (.cells #[.int .i64 (d : Nat)] 3 (0, 0))) := Lib.hid ((hb2.block _ (lt_of_block HVD.out)).trans HVD.out)
  have H2W : Hid (Below w.heap.size w w2) := Lib.hid (bnext HVW.out hb2)
  obtain ⟨Hn, hHn⟩ : ∃ Hn, hashP noneT [] = Hn := ⟨_, rfl⟩
  rw [hHn]
  have HHN := Lib.hid hHn
  clear hb2 hHn HVE HVD HVW
  go_upto_region 7 with fail
  obtain ⟨nb, hnb⟩ : ∃ nb, w2.heap.size = nb := ⟨_, rfl⟩
  obtain ⟨bN, hbN⟩ : ∃ bN, w2.heap.size + 1 = bN := ⟨_, rfl⟩
  obtain ⟨bF, hbF⟩ : ∃ bF, w2.heap.size + 1 + 1 = bF := ⟨_, rfl⟩
  rw [hbF, hbN, hnb]
  obtain ⟨U, hU⟩ : ∃ U, (((w2.alloc (.cells #[.string Hn, .pointer none, .pointer none] 118)).alloc (.cells #[.pointer (some ⟨nb, 0, none⟩)] 115)).alloc (.cells #[.func (.func 91) #[] #[.pointer (some ⟨bF, 0, none⟩), .pointer (some ⟨bD, 0, none⟩), .pointer (some ⟨bE, 0, none⟩), .pointer (some ⟨bN, 0, none⟩)]] 119)) = U := ⟨_, rfl⟩
  rw [hU]
  have HEN : Hid (EnvT els d bF bD bE bN nb a cap U) := Lib.hid (by
    have hbw : Below w.heap.size w U := by rw [← hU]; exact balloc (balloc (balloc H2W.out _) _) _
    refine ⟨?_, ?_, ?_, ?_, ?_, HT.out.below hbw⟩
    · rw [← hU]; exact alloc_new_at _ (by rw [alloc_size _ (alloc_size _ rfl)]; exact hbF)
    · rw [← hU]; exact block_alloc (block_alloc (block_alloc H2D.out _) _) _
    · rw [← hU]; exact block_alloc (block_alloc (block_alloc H2E.out _) _) _
    · rw [← hU]; exact block_alloc (alloc_new_at _ (by rw [alloc_size _ rfl]; exact hbN)) _
    · rw [← hU, HHN.out]; exact block_alloc (block_alloc (alloc_new_at _ hnb) _) _)
  have HUW : Hid (Below w.heap.size w U) := Lib.hid (by rw [← hU]; exact balloc (balloc (balloc H2W.out _) _) _)
  have HVS : Hid (w.heap.size ≤ U.heap.size) := Lib.hid HUW.out.size
  have HA : Hid (∀ wv : World, Below U.heap.size U wv → Calls Tryz.prog 91 #[.int .i64 (d : Nat), .int .u64 0, .pointer (some ⟨bF, 0, none⟩), .pointer (some ⟨bD, 0, none⟩), .pointer (some ⟨bE, 0, none⟩), .pointer (some ⟨bN, 0, none⟩)] wv (AtIs els d d 0 wv)) := Lib.hid (fun wv hb => at_any els d bF bD bE bN nb a cap HD16.out HN.out HZ.out d 0 wv (Nat.le_refl _) (Nat.two_pow_pos _) (HEN.out.below hb))
  have cf : U.cell? ⟨bF, 0, none⟩ = some (.func (.func 91) #[] #[.pointer (some ⟨bF, 0, none⟩), .pointer (some ⟨bD, 0, none⟩), .pointer (some ⟨bE, 0, none⟩), .pointer (some ⟨bN, 0, none⟩)]) := by rw [block_cell HEN.out.f]; rfl
  have cd : U.cell? ⟨bD, 0, none⟩ = some (.int .i64 (d : Nat)) := by rw [block_cell HEN.out.d]; rfl
  have ce : U.cell? ⟨bE, 0, none⟩ = some (.slice a (len els) cap) := by rw [block_cell HEN.out.e]; rfl
  clear hU hnb hbN hbF H2D H2E H2W
  refine wp_region_tail 8 1000 (none) (phis [fun u _ => u = (.func (.func 91) #[] #[.pointer (some ⟨bF, 0, none⟩), .pointer (some ⟨bD, 0, none⟩), .pointer (some ⟨bE, 0, none⟩), .pointer (some ⟨bN, 0, none⟩)]), fun u _ => u = (.int .i64 (d : Nat)), fun u w' => ∃ g, u = .pointer (some ⟨g, 0, none⟩) ∧ PlaceIs els d d 0 g w', fun u _ => u = (.int .i64 (d : Nat)), fun u _ => u = (.slice a (len els) cap), fun u _ => u = (.int .i64 (len els)), fun u w' => ∃ g, u = .agg #[.pointer (some ⟨g, 0, none⟩), .int .i64 (d : Nat), .int .i64 (len els)] ∧ PlaceIs els d d 0 g w', fun u w' => ∃ b, u = .pointer (some ⟨b, 0, none⟩) ∧ w.heap.size ≤ b ∧ TreeAt els b w']) rfl (by kernel_rfl) (by kernel_rfl) (mono_of ⟨mono_eq, mono_eq, ?m2, mono_eq, mono_eq, mono_eq, ?m6, ?m7, trivial⟩) (steps_of 8 ⟨?s0, ?s1, ?s2, ?s3, ?s4, ?s5, ?s6, ?s7, trivial⟩) ?_
  case m2 =>
    exact ⟨fun u w1 w' h ⟨b, h1, hb⟩ => ⟨b, h1, hb.ext h⟩, fun _ u w1 w' h ⟨b, h1, hb⟩ => ⟨b, h1, hb.extB h⟩⟩
  case m6 =>
    exact ⟨fun u w1 w' h ⟨b, h1, hb⟩ => ⟨b, h1, hb.ext h⟩, fun _ u w1 w' h ⟨b, h1, hb⟩ => ⟨b, h1, hb.extB h⟩⟩
  case m7 =>
    exact ⟨fun u w1 w' h ⟨b, h1, h2, hb⟩ => ⟨b, h1, h2, hb.below h⟩, fun _ u w1 w' h ⟨b, h1, h2, hb⟩ => ⟨b, h1, h2, hb.below (extB_none h)⟩⟩
  case s0 =>
    refine step_val (v := (.func (.func 91) #[] #[.pointer (some ⟨bF, 0, none⟩), .pointer (some ⟨bD, 0, none⟩), .pointer (some ⟨bE, 0, none⟩), .pointer (some ⟨bN, 0, none⟩)])) (fun av wv hE hS hO hD => ?_) (fun _ => rfl)
    have h6 : av.eval (.tmp 6) = (.pointer (some ⟨bF, 0, none⟩)) := hO.2.2 6 rfl
    have f6 := (ev_form av 6).symm.trans h6
    have cf := extB_cell hE (by simp) cf
    have cd := extB_cell hE (by simp) cd
    have ce := extB_cell hE (by simp) ce
    refine ⟨rfl, ?_⟩
    simp [go_sem, f6, cf, cd, ce]
  case s1 =>
    refine step_val (v := (.int .i64 (d : Nat))) (fun av wv hE hS hO hD => ?_) (fun _ => rfl)
    have h4 : av.eval (.tmp 4) = (.pointer (some ⟨bD, 0, none⟩)) := hO.2.2 4 rfl
    have f4 := (ev_form av 4).symm.trans h4
    have cf := extB_cell hE (by simp) cf
    have cd := extB_cell hE (by simp) cd
    have ce := extB_cell hE (by simp) ce
    refine ⟨rfl, ?_⟩
    simp [go_sem, f4, cf, cd, ce]
  case s2 =>
    refine step_wp (fun av wv hE hS hO hD => ?_)
    have d17 : av.eval (.tmp 17) = (.func (.func 91) #[] #[.pointer (some ⟨bF, 0, none⟩), .pointer (some ⟨bD, 0, none⟩), .pointer (some ⟨bE, 0, none⟩), .pointer (some ⟨bN, 0, none⟩)]) := hD.1 rfl _ rfl
    have f17 := (ev_form av 17).symm.trans d17
    have d18 : av.eval (.tmp 18) = (.int .i64 (d : Nat)) := hD.2.1 rfl _ rfl
    have f18 := (ev_form av 18).symm.trans d18
    refine ⟨rfl, ?_⟩
    refine wp_of_callV (R := fun u w2 => (∃ g, u = .pointer (some ⟨g, 0, none⟩) ∧ PlaceIs els d d 0 g w2) ∧ Below wv.heap.size wv w2) (f := 91) (args := #[.int .i64 (d : Nat), .int .u64 0, .pointer (some ⟨bF, 0, none⟩), .pointer (some ⟨bD, 0, none⟩), .pointer (some ⟨bE, 0, none⟩), .pointer (some ⟨bN, 0, none⟩)]) (by simp [go_sem, f17, f18]) ((HA.out wv (of_drew hE)).mono (fun e w2 ⟨g, h1, h2, h3⟩ => ⟨_, h1, ⟨g, rfl, h2⟩, h3⟩)) (fun u w2 ⟨h1, h2⟩ => ⟨_, rfl, es_of_ext h2, h1⟩)
  case s3 =>
    refine step_val (v := (.int .i64 (d : Nat))) (fun av wv hE hS hO hD => ?_) (fun _ => rfl)
    have h4 : av.eval (.tmp 4) = (.pointer (some ⟨bD, 0, none⟩)) := hO.2.2 4 rfl
    have f4 := (ev_form av 4).symm.trans h4
    have cf := extB_cell hE (by simp) cf
    have cd := extB_cell hE (by simp) cd
    have ce := extB_cell hE (by simp) ce
    refine ⟨rfl, ?_⟩
    simp [go_sem, f4, cf, cd, ce]
  case s4 =>
    refine step_val (v := (.slice a (len els) cap)) (fun av wv hE hS hO hD => ?_) (fun _ => rfl)
    have h1 : av.eval (.tmp 1) = (.pointer (some ⟨bE, 0, none⟩)) := hO.2.2 1 rfl
    have f1 := (ev_form av 1).symm.trans h1
    have cf := extB_cell hE (by simp) cf
    have cd := extB_cell hE (by simp) cd
    have ce := extB_cell hE (by simp) ce
    refine ⟨rfl, ?_⟩
    simp [go_sem, f1, cf, cd, ce]
  case s5 =>
    refine step_val (v := (.int .i64 (len els))) (fun av wv hE hS hO hD => ?_) (fun _ => rfl)
    have d21 : av.eval (.tmp 21) = (.slice a (len els) cap) := hD.1 rfl _ rfl
    have f21 := (ev_form av 21).symm.trans d21
    refine ⟨rfl, ?_⟩
    simp [go_sem, f21]
  case s6 =>
    refine step_wp (fun av wv hE hS hO hD => ?_)
    have d19 : (fun u w' => ∃ g, u = .pointer (some ⟨g, 0, none⟩) ∧ PlaceIs els d d 0 g w') (av.eval (.tmp 19)) wv := hD.1 rfl _ rfl
    have d20 : av.eval (.tmp 20) = (.int .i64 (d : Nat)) := hD.2.1 rfl _ rfl
    have f20 := (ev_form av 20).symm.trans d20
    have d22 : av.eval (.tmp 22) = (.int .i64 (len els)) := hD.2.2.1 rfl _ rfl
    have f22 := (ev_form av 22).symm.trans d22
    refine ⟨rfl, ?_⟩
    obtain ⟨g, h19, hg⟩ := d19
    have f19 := (ev_form av 19).symm.trans h19
    exact wp_of_run (v := .agg #[.pointer (some ⟨g, 0, none⟩), .int .i64 (d : Nat), .int .i64 (len els)]) (by simp [go_sem, f19, f20, f22]) ⟨_, rfl, es_of_ext (Ext_refl _), g, rfl, hg⟩
  case s7 =>
    refine step_wp (fun av wv hE hS hO hD => ?_)
    have d23 : (fun u w' => ∃ g, u = .agg #[.pointer (some ⟨g, 0, none⟩), .int .i64 (d : Nat), .int .i64 (len els)] ∧ PlaceIs els d d 0 g w') (av.eval (.tmp 23)) wv := hD.1 rfl _ rfl
    refine ⟨rfl, ?_⟩
    obtain ⟨g, h23, hg⟩ := d23
    have f23 := (ev_form av 23).symm.trans h23
    refine wp_of_run (v := .pointer (some ⟨wv.heap.size, 0, none⟩)) (w' := wv.alloc (.cells #[.pointer (some ⟨g, 0, none⟩), .int .i64 (d : Nat), .int .i64 (len els)] 124)) (by simp [go_sem, f23]) ⟨_, rfl, es_of_ext (balloc (Ext_refl _) _), wv.heap.size, rfl, (by have := hE.size; have := HVS.out; simp at *; omega), g, ?_, ?_⟩
    · rw [HDD.out]; exact heap_alloc_new _ _
    · rw [HDD.out]; exact hg.below (balloc (Below.refl _ _) _)
  intro a' w' hE hO hall
  have hA := act_of_outer (ds := [17, 18, 19, 20, 21, 22, 23, 24]) rfl hO (by kernel_rfl)
  have e17 : (fun u _ => u = (.func (.func 91) #[] #[.pointer (some ⟨bF, 0, none⟩), .pointer (some ⟨bD, 0, none⟩), .pointer (some ⟨bE, 0, none⟩), .pointer (some ⟨bN, 0, none⟩)])) (a'.eval (.tmp 17)) w' := hall.1 _ rfl
  have e18 : (fun u _ => u = (.int .i64 (d : Nat))) (a'.eval (.tmp 18)) w' := hall.2.1 _ rfl
  have e19 : (fun u w' => ∃ g, u = .pointer (some ⟨g, 0, none⟩) ∧ PlaceIs els d d 0 g w') (a'.eval (.tmp 19)) w' := hall.2.2.1 _ rfl
  have e20 : (fun u _ => u = (.int .i64 (d : Nat))) (a'.eval (.tmp 20)) w' := hall.2.2.2.1 _ rfl
  have e21 : (fun u _ => u = (.slice a (len els) cap)) (a'.eval (.tmp 21)) w' := hall.2.2.2.2.1 _ rfl
  have e22 : (fun u _ => u = (.int .i64 (len els))) (a'.eval (.tmp 22)) w' := hall.2.2.2.2.2.1 _ rfl
  have e23 : (fun u w' => ∃ g, u = .agg #[.pointer (some ⟨g, 0, none⟩), .int .i64 (d : Nat), .int .i64 (len els)] ∧ PlaceIs els d d 0 g w') (a'.eval (.tmp 23)) w' := hall.2.2.2.2.2.2.1 _ rfl
  have e24 : (fun u w' => ∃ b, u = .pointer (some ⟨b, 0, none⟩) ∧ w.heap.size ≤ b ∧ TreeAt els b w') (a'.eval (.tmp 24)) w' := hall.2.2.2.2.2.2.2.1 _ rfl
  obtain ⟨v19, hv19⟩ : ∃ v, a'.eval (.tmp 19) = v := ⟨_, rfl⟩
  rw [hv19] at e19
  obtain ⟨v23, hv23⟩ : ∃ v, a'.eval (.tmp 23) = v := ⟨_, rfl⟩
  rw [hv23] at e23
  obtain ⟨v24, hv24⟩ : ∃ v, a'.eval (.tmp 24) = v := ⟨_, rfl⟩
  rw [hv24] at e24
  simp only [List.foldl_cons, List.foldl_nil, Act.put, List.setIfInBounds_toArray, List.set_cons_succ, List.set_cons_zero, e17, e18, hv19, e20, e21, e22, hv23, hv24] at hA
  clear hO hall e17 e18 hv19 e20 e21 e22 hv23 hv24
  subst hA
  obtain ⟨g, rfl, hg, ht⟩ := e24
  have HG : Hid (w.heap.size ≤ g) := Lib.hid hg
  have HT2 := Lib.hid ht
  have HW : Hid (Below w.heap.size w w') := Lib.hid (bnext HUW.out (of_drew hE))
  clear hg ht hE e19 e23
  go_wp2
  go_ret2
  exact ⟨g, rfl, HG.out, HT2.out, HW.out⟩
theorem root_any (els : List ByteArray) (b : Nat) (w : World) (h : TreeAt els b w) : Calls Tryz.prog 43 #[.pointer (some ⟨b, 0, none⟩)] w fun e w' => e = .returned (.string (plD els (depN els) (depN els) 0)) ∧ w = w' := by
  obtain ⟨p, h1, h2⟩ := h
  have c0 : w.cell? ⟨b, 0, none⟩ = some (.pointer (some ⟨p, 0, none⟩)) := by rw [block_cell h1]; rfl
  have c1 := h2.digest
  clear h1 h2
  go_enter Tryz.func43, Tryz.ntmps43
  go_wp2
  go_ret
  exact ⟨rfl, rfl⟩
end Go.Proofs.YtpobhbdomldecaaGreatDoor
namespace Go.Proofs.YtpobhbdomldecaaGreatDoor
open Go.RowKit Go.ChangeMaps
set_option linter.unusedSimpArgs false
set_option linter.unusedVariables false
attribute [local go_sem] Oper.semAt_some
theorem info_str : (Tryz.prog.info? 9).map (fun i => (i.zero, i.size, i.bytes)) = some (some (.string ⟨#[]⟩), 1, 16) := by kernel_rfl
end Go.Proofs.YtpobhbdomldecaaGreatDoor
namespace Go.Proofs.YtpobhbdomldecaaGreatDoor
open Go.RowKit
set_option linter.unusedSimpArgs false
set_option linter.unusedVariables false
theorem own_txts {w : World} {base n : Nat} {v : Value} {l : List ByteArray} (h : w.ownsRow base 9 1 v n (l.map Value.string)) : ∃ a cap, v = .slice a (len l) cap ∧ Txts w a l := by
  have hn : len l = n := by have := h.1; rw [len_eq]; simpa using this
  rcases h.2 with ⟨rfl, h2⟩ | ⟨g, cap, cur, rfl, hg, hh, hc1, hc2, hc3, hc4⟩
  · obtain rfl : l = [] := List.eq_nil_of_length_eq_zero (by rw [← len_eq]; omega)
    exact ⟨none, 0, rfl, Txts.nil _ _⟩
  · refine ⟨some ⟨g, 0, none⟩, cap, by rw [hn], fun i hi => ⟨g, 0, rfl, ?_⟩⟩
    have := h.cellAt i (by omega)
    have hi2 : i < l.length := hi
    rw [Nat.zero_add, this, List.getElem?_map, List.getElem?_eq_getElem hi2, tth_eq l i hi]; rfl
theorem str_beq (a b : ByteArray) : (a.toList == b.toList) = decide (a = b) := by
  rw [ByteArray.toList_eq, ByteArray.toList_eq]
  by_cases h : a = b
  · subst h; simp
  · rw [decide_eq_false h]
    rw [beq_eq_false_iff_ne]
    intro h2
    exact h (ByteArray.ext (Array.ext' h2))
theorem hash0_any (tag : ByteArray) (w : World) (h1 : 1 ≤ tag.size) (h2 : tag.size ≤ 16) : Calls Tryz.prog 45 #[.string tag, .slice none 0 0] w fun e w' => e = .returned (.string (hashP tag [])) ∧ Below w.heap.size w w' :=
  hash_any tag [] none 0 w h1 h2 (Txts.nil _ _) (by decide)
theorem hash1_any (tag s : ByteArray) (w : World) (h1 : 1 ≤ tag.size) (h2 : tag.size ≤ 16) (hs : s.size ≤ 1000000) : Calls Tryz.prog 45 #[.string tag, .slice (some ⟨w.heap.size, 0, none⟩) 1 1] (w.alloc (.cells #[.string s] 9)) fun e w' => e = .returned (.string (hashP tag [s])) ∧ Below w.heap.size w w' := by
  have hw1 : Txts (w.alloc (.cells #[.string s] 9)) (some ⟨w.heap.size, 0, none⟩) [s] := txts_cells (heap_alloc_new _ _) [s] (fun i hi => by
    have : i = 0 := by have : i < 1 := hi; omega
    subst this; rfl)
  refine (hash_any tag [s] (some ⟨w.heap.size, 0, none⟩) 1 _ h1 h2 hw1 (by show ((partL s) ++ []).length ≤ _; rw [List.append_nil, partL_len]; omega)).mono ?_
  rintro e w2 ⟨rfl, hb2⟩
  exact ⟨rfl, bnext (balloc (Below.refl _ _) _) hb2⟩
end Go.Proofs.YtpobhbdomldecaaGreatDoor
namespace Go.Proofs.YtpobhbdomldecaaGreatDoor
open Go.RowKit
set_option linter.unusedSimpArgs false
set_option linter.unusedVariables false
def SmF (g : KnF) : Prop := ∀ k d, g k = some d → d.size ≤ 1000
theorem SmF.put {g : KnF} (h : SmF g) (k : Int) (d : ByteArray) (hd : d.size ≤ 1000) : SmF (putF g k d) := fun j x hx => by
  by_cases e : j = k
  · subst e; rw [putF_same] at hx; cases hx; exact hd
  · rw [putF_other g d e] at hx; exact h j x hx
def ArgOk (n : Int) (ps : List Int) (es : List ByteArray) : Prop := SizeOk n ps ∧ len es = len ps
instance (n : Int) (ps : List Int) (es : List ByteArray) : Decidable (ArgOk n ps es) := by unfold ArgOk; exact inferInstance
end Go.Proofs.YtpobhbdomldecaaGreatDoor
namespace Go.Proofs.YtpobhbdomldecaaGreatDoor
open Go.RowKit
set_option linter.unusedSimpArgs false
set_option linter.unusedVariables false
abbrev Rising (l : List Int) : Prop := l.Pairwise (fun x y => x < y)
end Go.Proofs.YtpobhbdomldecaaGreatDoor
namespace Go.Proofs.YtpobhbdomldecaaGreatDoor
open Go.RowKit
set_option linter.unusedSimpArgs false
set_option linter.unusedVariables false
def Kn (W : World) (base : Nat) (v : Value) (l : List Int) : Prop := Rising l ∧ W.ownsRow base 23 1 v (len l) (l.map (Value.int .u64))
theorem Kn.nil (W : World) (base : Nat) : Kn W base (.slice none 0 0) [] := ⟨List.Pairwise.nil, World.ownsRow_nil _ _ _ _⟩
theorem Kn.below {W W' : World} {base : Nat} {v : Value} {l : List Int} (h : Kn W base v l) (hb : Below W.heap.size W W') : Kn W' base v l := ⟨h.1, own_below h.2 hb⟩
theorem Kn.shape {W : World} {base : Nat} {v : Value} {l : List Int} (h : Kn W base v l) : ∃ a cap, v = .slice a (len l) cap ∧ U64s W a l := by
  obtain ⟨a, cap, h1, h2, _⟩ := own_u64 h.2; exact ⟨a, cap, h1, h2⟩
theorem take_mem_succ {l : List Int} {m : Nat} (h : m < len l) (x : Int) : x ∈ l.take (m + 1) ↔ x ∈ l.take m ∨ x = nth l m := by
  have h' : m < l.length := h
  rw [List.take_succ_eq_append_getElem h', List.mem_append, List.mem_singleton, nth_eq l m h']
theorem take_all (l : List Int) : l.take (len l) = l := List.take_length
def Fill (kn nd nx : List Int) (m : Nat) : Prop := (∀ x, x ∈ nd ↔ (∃ j ∈ kn.take m, x = sib j) ∧ x ∉ kn) ∧ (∀ x, x ∈ nx ↔ ∃ j ∈ kn.take m, x = j / 2) ∧ len nd ≤ m ∧ len nx ≤ m
theorem Fill.start (kn : List Int) : Fill kn [] [] 0 := ⟨fun x => by simp, fun x => by simp, Nat.le_refl _, Nat.le_refl _⟩
theorem Fill.step {kn nd nx nd' nx' : List Int} {m : Nat} (h : Fill kn nd nx m) (hm : m < len kn) (h1 : ∀ x, x ∈ nd' ↔ x ∈ nd ∨ (x = sib (nth kn m) ∧ x ∉ kn)) (h2 : ∀ x, x ∈ nx' ↔ x ∈ nx ∨ x = nth kn m / 2) (l1 : len nd' ≤ len nd + 1) (l2 : len nx' ≤ len nx + 1) : Fill kn nd' nx' (m + 1) := by
  refine ⟨fun x => ?_, fun x => ?_, by have := h.2.2.1; omega, by have := h.2.2.2; omega⟩
  · rw [h1, h.1]
    constructor
    · rintro (⟨⟨j, hj, e⟩, hx⟩ | ⟨e, hx⟩)
      · exact ⟨⟨j, (take_mem_succ hm j).2 (.inl hj), e⟩, hx⟩
      · exact ⟨⟨_, (take_mem_succ hm _).2 (.inr rfl), e⟩, hx⟩
    · rintro ⟨⟨j, hj, e⟩, hx⟩
      rcases (take_mem_succ hm j).1 hj with hj | rfl
      · exact .inl ⟨⟨j, hj, e⟩, hx⟩
      · exact .inr ⟨e, hx⟩
  · rw [h2, h.2.1]
    constructor
    · rintro (⟨j, hj, e⟩ | e)
      · exact ⟨j, (take_mem_succ hm j).2 (.inl hj), e⟩
      · exact ⟨_, (take_mem_succ hm _).2 (.inr rfl), e⟩
    · rintro ⟨j, hj, e⟩
      rcases (take_mem_succ hm j).1 hj with hj | rfl
      · exact .inl ⟨j, hj, e⟩
      · exact .inr e
theorem Fill.row {kn nd nx : List Int} (h : Fill kn nd nx (len kn)) (hr : Rising nd) : nd = rowK kn := by
  refine rising_eq hr (srt_rising (needK_nodup kn)) (fun k => ?_)
  rw [h.1, take_all]
  unfold rowK
  rw [srt_mem, needK_mem]
def At (leaves : List Int) (lv : Nat) (kn : List Int) : Prop := ∀ x, x ∈ kn ↔ ∃ j ∈ leaves, x = j / 2 ^ lv
theorem At.row {leaves kn : List Int} {lv : Nat} (h : At leaves lv kn) : rowK kn = rowK (insAll (leaves.map (· / 2 ^ lv))) := rowK_same (fun k => by
  rw [h k, (insAll_all _).2.1, List.mem_map]
  constructor
  · rintro ⟨j, hj, e⟩; exact ⟨j, hj, e.symm⟩
  · rintro ⟨j, hj, e⟩; exact ⟨j, hj, e.symm⟩)
theorem At.next {leaves kn nd nx : List Int} {lv : Nat} (h : At leaves lv kn) (hf : Fill kn nd nx (len kn)) : At leaves (lv + 1) nx := fun x => by
  have hp : ∀ j : Int, j / 2 ^ lv / 2 = j / 2 ^ (lv + 1) := fun j => by
    rw [Int.pow_succ, Int.ediv_ediv_of_nonneg (Int.pow_nonneg (by decide))]
  rw [hf.2.1, take_all]
  constructor
  · rintro ⟨j, hj, rfl⟩
    obtain ⟨i, hi, rfl⟩ := (h j).1 hj
    exact ⟨i, hi, hp i⟩
  · rintro ⟨i, hi, rfl⟩
    exact ⟨i / 2 ^ lv, (h _).2 ⟨i, hi, rfl⟩, (hp i).symm⟩
theorem At.u64 {leaves kn : List Int} {lv : Nat} (h : At leaves lv kn) (hu : ∀ k ∈ leaves, U64 k) : ∀ k ∈ kn, U64 k := by
  intro k hk
  obtain ⟨j, hj, rfl⟩ := (h k).1 hk
  have := hu j hj
  unfold U64 at this ⊢
  have hp : (0 : Int) < 2 ^ lv := Int.pow_pos (by decide)
  exact ⟨Int.ediv_nonneg this.1 (by omega), Int.le_trans (Int.ediv_le_self _ this.1) this.2⟩
def Laid8 (W : World) (base : Nat) (v : Value) (rs : List (List Int)) : Prop := ∃ vals : List Value, W.ownsRow base 64 1 v vals.length vals ∧ RowsAre W base vals rs
theorem Laid8.nil (W : World) (base : Nat) : Laid8 W base (.slice none 0 0) [] := ⟨[], World.ownsRow_nil _ _ _ _, RowsAre.nil _ _⟩
theorem Laid8.below {W W' : World} {base : Nat} {v : Value} {rs : List (List Int)} (h : Laid8 W base v rs) (hb : Below W.heap.size W W') : Laid8 W' base v rs := by
  obtain ⟨vals, h1, h2⟩ := h; exact ⟨vals, own_below h1 hb, h2.below hb⟩
end Go.Proofs.YtpobhbdomldecaaGreatDoor
namespace Go.Proofs.YtpobhbdomldecaaGreatDoor
open Go.RowKit
set_option linter.unusedSimpArgs false
set_option linter.unusedVariables false
def sV (d : ByteArray) : Value := .agg #[.string d]
structure MapG (L : List (Int × Value)) (g : KnF) : Prop where
  get : ∀ k, mGet L k = (g k).map sV
theorem MapG.nil : MapG [] noF := ⟨fun k => rfl⟩
theorem MapG.put {L : List (Int × Value)} {g : KnF} (h : MapG L g) (k : Int) (d : ByteArray) : MapG (mPut L k (sV d)) (putF g k d) :=
  ⟨fun j => by
    rw [mGet_put, h.get]
    unfold putF
    by_cases e : j = k
    · rw [if_pos e, if_pos e]; rfl
    · rw [if_neg e, if_neg e]⟩
def AtK (lv : List Int) (i : Nat) (k : Int) : Prop := ∃ y ∈ lv, k = y / 2 ^ i
instance (lv : List Int) (i : Nat) (k : Int) : Decidable (AtK lv i k) := by unfold AtK; exact List.decidableBEx _ _
def Cut (row : List Int) (j : Nat) (b : Int) : Prop := j ≤ len row ∧ (∀ x ∈ row.take j, x < b) ∧ ∀ x ∈ row.drop j, b ≤ x
theorem Cut.start {row : List Int} (h : ∀ x ∈ row, 0 ≤ x) : Cut row 0 0 := ⟨Nat.zero_le _, fun x hx => by simp at hx, fun x hx => h x (by simpa using hx)⟩
end Go.Proofs.YtpobhbdomldecaaGreatDoor
namespace Go.Proofs.YtpobhbdomldecaaGreatDoor
open Go.RowKit
set_option linter.unusedSimpArgs false
set_option linter.unusedVariables false
structure Agree (els own : List ByteArray) (ps : List Int) : Prop where
  len_ : len own = len els
  off : ∀ i : Nat, ((i : Nat) : Int) ∉ ps → tth els i = tth own i
theorem Agree.refl (els : List ByteArray) (ps : List Int) : Agree els els ps := ⟨rfl, fun _ _ => rfl⟩
end Go.Proofs.YtpobhbdomldecaaGreatDoor
namespace Go.Proofs.YtpobhbdomldecaaGreatDoor
open Go.RowKit Go.ChangeMaps
set_option linter.unusedSimpArgs false
set_option linter.unusedVariables false
theorem Ranging.keep {w w' : World} {b r n : Nat} {q : IntKind} {l : List (Int × Value)} {seen : Array Nat} (h : Ranging w b r q n l seen) (h1 : w'.heap[b]? = w.heap[b]?) (h2 : w'.heap[r]? = w.heap[r]?) : Ranging w' b r q n l seen := ⟨h1.trans h.map, h2.trans h.iter⟩
def KnownAt (b n : Nat) (g : KnF) (w : World) : Prop := ∃ L, w.heap[b]? = some (mObj .u64 n L) ∧ MapF L g
end Go.Proofs.YtpobhbdomldecaaGreatDoor
namespace Go.Proofs.YtpobhbdomldecaaGreatDoor
open Go.RowKit Go.ChangeMaps
set_option linter.unusedSimpArgs false
set_option linter.unusedVariables false
structure LvAt (mb : Nat) (g : KnF) (w : World) : Prop where
  at_ : KnownAt mb 0 g w
  small : SmF g
theorem LvAt.keep {mb : Nat} {g : KnF} {w w' : World} (h : LvAt mb g w) (hk : w'.heap[mb]? = w.heap[mb]?) : LvAt mb g w' := by
  obtain ⟨⟨L, h1, h2⟩, h3⟩ := h
  exact ⟨⟨L, hk.trans h1, h2⟩, h3⟩
theorem LvAt.lt {mb : Nat} {g : KnF} {w : World} (h : LvAt mb g w) : mb < w.heap.size := by
  obtain ⟨⟨L, h1, h2⟩, h3⟩ := h
  exact lt_of_block h1
def Upper (B : Nat) (w w' : World) : Prop := ∀ b, B ≤ b → b < w.heap.size → w'.heap[b]? = w.heap[b]?
theorem Upper.refl (B : Nat) (w : World) : Upper B w w := fun b _ _ => rfl
theorem Upper.cell {B : Nat} {w w' : World} (h : Upper B w w') {b o : Nat} {v : Value} (hb : B ≤ b) (hc : w.cell? ⟨b, o, none⟩ = some v) : w'.cell? ⟨b, o, none⟩ = some v :=
  (World.cell?_of_block (w := w) (h b hb (lt_of_cell hc))).trans hc
theorem Upper.bel {B : Nat} {w w' w2 : World} (h : Upper B w w') (hs : w.heap.size ≤ w'.heap.size) (hb : Below w'.heap.size w' w2) : Upper B w w2 := fun b h1 h2 => (hb.block b (by omega)).trans (h b h1 h2)
theorem Upper.set {B : Nat} {w w' : World} (h : Upper B w w') {p : Nat} (hp : p < B) (k : Nat) (v : Value) : Upper B w (w'.setCell ⟨p, k, none⟩ v) := fun b h1 h2 => (Below.heap_setCell _ _ _ _ (show b ≠ p by omega)).trans (h b h1 h2)
theorem Upper.map {B : Nat} {w w' : World} (h : Upper B w w') {p : Nat} (hp : p < B ∨ w.heap.size ≤ p) (o : Obj) : Upper B w (setBlock w' p o) := fun b h1 h2 => (setBlock_other (by omega)).trans (h b h1 h2)
theorem LvAt.put {mb : Nat} {g : KnF} {w : World} {L : List (Int × Value)} (hl : w.heap[mb]? = some (mObj .u64 0 L)) (hm : MapF L g) (hs : SmF g) {t : Int} {D : ByteArray} (ht : U64 t) (hd : D.size ≤ 1000) : LvAt mb (putF g t D) (setBlock w mb (mObj .u64 0 (mPut L t (.string D)))) :=
  ⟨⟨_, setBlock_same hl, hm.put t D ht⟩, hs.put t D hd⟩
end Go.Proofs.YtpobhbdomldecaaGreatDoor
namespace Go.Proofs.YtpobhbdomldecaaGreatDoor
open Go.RowKit
set_option linter.unusedSimpArgs false
set_option linter.unusedVariables false
structure Plc where
  K : Int
  d : ByteArray
abbrev Plc.val (r : Plc) : Value := .agg #[.int .u64 r.K, .string r.d]
def Plc.cells (r : Plc) : List Value := [.int .u64 r.K, .string r.d]
theorem Plc.cells_len (r : Plc) : r.cells.length = 2 := rfl
theorem Plc.cells_one (r : Plc) : ∀ u ∈ r.cells, u.oneCell' = true := by intro u hu; simp only [Plc.cells, List.mem_cons, List.not_mem_nil, or_false] at hu; rcases hu with rfl | rfl <;> rfl
def Plc.zero : Plc := ⟨0, ByteArray.empty⟩
def plth (l : List Plc) (i : Nat) : Plc := l.getD i Plc.zero
theorem plth_eq (l : List Plc) (i : Nat) (h : i < l.length) : plth l i = l[i] := by unfold plth; rw [List.getD_eq_getElem?_getD, List.getElem?_eq_getElem h]; rfl
structure PlcAt (w : World) (b o : Nat) (r : Plc) : Prop where
  c0 : w.cell? ⟨b, o, none⟩ = some (.int .u64 r.K)
  c1 : w.cell? ⟨b, o + 1, none⟩ = some (.string r.d)
theorem PlcAt.below {w w' : World} {b o : Nat} {r : Plc} (h : PlcAt w b o r) (hb : Below w.heap.size w w') : PlcAt w' b o r := by
  have hl := lt_of_cell h.c0
  have e : ∀ q, w'.cell? ⟨b, q, none⟩ = w.cell? ⟨b, q, none⟩ := fun q => hb.cell (p := ⟨b, q, none⟩) hl
  obtain ⟨c0, c1⟩ := h
  constructor <;> (rw [e]; assumption)
def Plcs (w : World) (a : Option Addr) (l : List Plc) : Prop := ∀ i, i < len l → ∃ b off, a = some ⟨b, off, none⟩ ∧ PlcAt w b (off + i * 2) (plth l i)
theorem Plcs.nil (w : World) (a : Option Addr) : Plcs w a [] := fun i hi => absurd hi (by simp [len])
theorem Plcs.below {w w' : World} {a : Option Addr} {l : List Plc} (h : Plcs w a l) (hb : Below w.heap.size w w') : Plcs w' a l := fun i hi => by
  obtain ⟨b, off, rfl, hc⟩ := h i hi
  exact ⟨b, off, rfl, hc.below hb⟩
theorem Plcs.drew {w w' : World} {a : Option Addr} {l : List Plc} (h : Plcs w a l) (hb : Drew w w') : Plcs w' a l := h.below (hb.below _)
theorem Plcs.take {w : World} {a : Option Addr} {l : List Plc} (h : Plcs w a l) (k : Nat) : Plcs w a (l.take k) := fun i hi => by
  have hi2 : i < l.length ∧ i < k := by simp only [len, List.length_take] at hi; omega
  have hi3 : i < (l.take k).length := hi
  have e : plth (l.take k) i = plth l i := by rw [plth_eq l i hi2.1, plth_eq _ i hi3, List.getElem_take]
  rw [e]; exact h i hi2.1
theorem Plcs.drop {w : World} {b off : Nat} {l : List Plc} (h : Plcs w (some ⟨b, off, none⟩) l) (k : Nat) : Plcs w (some ⟨b, off + k * 2, none⟩) (l.drop k) := fun i hi => by
  have hi2 : k + i < l.length := by simp only [len, List.length_drop] at hi; omega
  have hi3 : i < (l.drop k).length := hi
  have e : plth (l.drop k) i = plth l (k + i) := by rw [plth_eq l _ hi2, plth_eq _ i hi3, List.getElem_drop]
  obtain ⟨b', off', e2, hc⟩ := h (k + i) hi2
  cases e2
  exact ⟨b, _, rfl, by rw [e, show off + k * 2 + i * 2 = off + (k + i) * 2 by omega]; exact hc⟩
theorem Plcs.own {w : World} {base e n : Nat} {v : Value} {l : List Plc} (h : w.ownsRow base e 2 v n (l.flatMap Plc.cells)) : ∃ a cap, v = .slice a (len l) cap ∧ Plcs w a l ∧ len l ≤ cap := by
  have hn : len l = n := by have := h.1; rw [flat_length Plc.cells 2 Plc.cells_len] at this; rw [len_eq]; omega
  obtain ⟨h1, h2⟩ := h
  rcases h2 with ⟨rfl, h2⟩ | ⟨g, cap, cur, rfl, hg, hh, hc1, hc2, hc3, hc4⟩
  · obtain rfl : l = [] := List.eq_nil_of_length_eq_zero (by rw [← len_eq]; omega)
    exact ⟨none, 0, rfl, Plcs.nil _ _, Nat.le_refl _⟩
  · refine ⟨some ⟨g, 0, none⟩, cap, by rw [hn], fun i hi => ⟨g, 0, rfl, ?_⟩, by omega⟩
    have hown : w.ownsRow base e 2 (.slice (some ⟨g, 0, none⟩) n cap) n (l.flatMap Plc.cells) := ⟨h1, .inr ⟨g, cap, cur, rfl, hg, hh, hc1, hc2, hc3, hc4⟩⟩
    have key : ∀ r, r < 2 → w.cell? ⟨g, 0 + i * 2 + r, none⟩ = (plth l i).cells[r]? := fun r hr => by
      have := hown.cellAt (i * 2 + r) (by rw [← hn]; omega)
      rw [Nat.zero_add, this, flat_get Plc.cells 2 Plc.cells_len l i r hi hr, plth_eq l i hi]
    exact ⟨key 0 (by decide), key 1 (by decide)⟩
theorem Plcs.block {w : World} {g : Nat} {l : List Plc} {t : TypeId} {fr : Nat × Nat} (h : w.heap[g]? = some (.cells (l.flatMap Plc.cells).toArray t fr)) : Plcs w (some ⟨g, 0, none⟩) l := fun i hi => ⟨g, 0, rfl, by
  have key : ∀ r, r < 2 → w.cell? ⟨g, 0 + i * 2 + r, none⟩ = (plth l i).cells[r]? := fun r hr => by
    rw [Nat.zero_add, block_cell h, List.getElem?_toArray, flat_get Plc.cells 2 Plc.cells_len l i r hi hr, plth_eq l i hi]
  exact ⟨key 0 (by decide), key 1 (by decide)⟩⟩
end Go.Proofs.YtpobhbdomldecaaGreatDoor
namespace Go.Proofs.YtpobhbdomldecaaGreatDoor
open Go.RowKit
set_option linter.unusedSimpArgs false
set_option linter.unusedVariables false
set_option maxRecDepth 100000 in
theorem rturned_any (x : W32) (n : Nat) (w : World) (h1 : 1 ≤ n) (h2 : n ≤ 31) : Calls Tryz.prog 257 #[.int .u32 (wI x), .int .i64 (n : Nat)] w fun e w' => e = .returned (.int .u32 (wI (rotr x n))) ∧ Drew w w' := by
  have s1 := bv_shrm x n
  have s2 := bv_shlm x (32 - n)
  have s3 : bits .or .u32 (wI (x >>> n)) (wI (x <<< (32 - n))) = wI (rotr x n) := by rw [bv_or]; rfl
  have m1 : min n 32 = n := by omega
  have m2 : min (32 - n) 32 = 32 - n := by omega
  have a1 : ¬ ((n : Nat) : Int) < 0 := by omega
  have a2 : ¬ (32 : Int) - ((n : Nat) : Int) < 0 := by omega
  have a3 : IntKind.i64.wrap (32 - ((n : Nat) : Int)) = 32 - ((n : Nat) : Int) := IntWalk.i64_in _ (by omega)
  have a4 : ((32 : Int) - ((n : Nat) : Int)).toNat = 32 - n := by omega
  go_enter Tryz.func257, Tryz.ntmps257
  go_wp2
  go_quiet (fail)
  go_wp2
  go_ret
  exact ⟨rfl, _, rfl⟩
theorem app_data (a b : ByteArray) : (a ++ b).data.toList = a.data.toList ++ b.data.toList := by rw [ByteArray.data_append, Array.toList_append]
theorem data_size (a : ByteArray) : a.data.toList.length = a.size := by rw [Array.length_toList]; rfl
theorem ba_eq {a : ByteArray} {L : List UInt8} (h : a.data.toList = L) : a = ⟨L.toArray⟩ := by
  refine ByteArray.ext (Array.ext' ?_)
  rw [h]
def padS (s : ByteArray) : ByteArray := ⟨(padW s.data.toList).toArray⟩
set_option maxRecDepth 100000 in
set_option maxHeartbeats 4000000 in
theorem rpadded_any (s : ByteArray) (w : World) (hs : s.size ≤ 1152921504606846976) : Calls Tryz.prog 187 #[.string s] w fun e w' => e = .returned (.string (padS s)) ∧ Below w.heap.size w w' := by
  obtain ⟨n, hn⟩ : ∃ n, s.size = n := ⟨_, rfl⟩
  have HN := Lib.hid hn
  rw [hn] at hs
  have HS := Lib.hid hs
  have HL : Hid (s.data.toList.length = n) := Lib.hid (by rw [data_size, hn])
  have u1 : IntKind.u64.wrap ((n : Nat) : Int) = (n : Int) := IntWalk.u64_in _ (by omega)
  have u2 : IntKind.u64.wrap (8 * ((n : Nat) : Int)) = 8 * (n : Int) := IntWalk.u64_in _ (by omega)
  have hn2 : ((s.size : Nat) : Int) = (n : Int) := by omega
  have q0 : s.size + 1 ≤ 9223372036854775807 := by omega
  clear hs
  go_enter Tryz.func187, Tryz.ntmps187
  go_upto_region 3 with fail
  obtain ⟨N, hN⟩ : ∃ N : Nat, 8 * n = N := ⟨_, rfl⟩
  have HN8 := Lib.hid hN
  rw [show 8 * ((n : Nat) : Int) = ((N : Nat) : Int) by omega]
  obtain ⟨X0, hX0⟩ : ∃ X0, s ++ (⟨#[128]⟩ : ByteArray) = X0 := ⟨_, rfl⟩
  rw [hX0]
  have HX0 : Hid (X0.data.toList = s.data.toList ++ [128] ++ List.replicate 0 0) := Lib.hid (by rw [← hX0, app_data]; simp)
  clear hX0 hN u1 u2 hn2 hn q0
  go_loopg [0] (zerosW n) (fun g x wr => ∃ (m : Nat) (X : ByteArray), g + m = zerosW n ∧ x = .string X ∧ Hid (X.data.toList = s.data.toList ++ [128] ++ List.replicate m 0) ∧ Hid (Below w.heap.size w wr))
  case atStart => exact ⟨0, X0, rfl, rfl, HX0, Lib.hid (Below.refl _ _)⟩
  case round =>
    clear HX0
    obtain ⟨m, X, hm, rfl, HX, HW⟩ := hrel
    have hz := zerosW_le n
    have HSZ : Hid (X.size = n + 1 + m) := Lib.hid (by
      have h1 := congrArg List.length HX.out
      rw [data_size] at h1
      simp only [List.length_append, List.length_replicate, List.length_singleton] at h1
      have := HL.out
      omega)
    by_cases hlt : m < zerosW n
    · have q1 : ¬ ((X.size : Nat) : Int) % 64 = 56 := by have := zerosW_not n m hlt; have := HSZ.out; omega
      have q2 : X.size + 1 ≤ 9223372036854775807 := by have := HSZ.out; have := HS.out; omega
      have HX2 : Hid ((X ++ (⟨#[0]⟩ : ByteArray)).data.toList = s.data.toList ++ [128] ++ List.replicate (m + 1) 0) := Lib.hid (by
        rw [app_data, HX.out, List.replicate_succ', List.append_assoc (s.data.toList ++ [128])])
      go_wp2
      go_roundg (zerosW n - (m + 1))
      case rel => exact ⟨m + 1, _, by omega, rfl, HX2, HW⟩
      case measure => omega
    · obtain rfl : m = zerosW n := by omega
      have q1 : ((X.size : Nat) : Int) % 64 = 56 := by have := zerosW_end n; have := HSZ.out; omega
      clear hz hlt hm
      go_upto_region 6 with fail
      have HX0 : Hid (X.data.toList = (s.data.toList ++ [128] ++ List.replicate (zerosW n) 0) ++ (num8 N).take 0) := Lib.hid (by rw [List.take_zero, List.append_nil]; exact HX.out)
      go_loopg [4, 0] 8 (fun g i x wr => ∃ (m : Nat) (X : ByteArray), g + m = 8 ∧ i = .int .i64 (56 - 8 * (m : Int)) ∧ x = .string X ∧ Hid (X.data.toList = (s.data.toList ++ [128] ++ List.replicate (zerosW n) 0) ++ (num8 N).take m) ∧ Hid (Below w.heap.size w wr))
      case atStart => exact ⟨0, X, rfl, rfl, rfl, HX0, HW⟩
      case round =>
        clear HX HX0 HW HSZ q1
        obtain ⟨m, X, hm, rfl, rfl, HX, HW⟩ := hrel
        by_cases hlt : m < 8
        · obtain ⟨e, he⟩ : ∃ e : Nat, 56 - 8 * m = e := ⟨_, rfl⟩
          rw [show (56 : Int) - 8 * (m : Int) = ((e : Nat) : Int) by omega]
          have a1 : (0 : Int) ≤ ((e : Nat) : Int) := by omega
          have a2 : ¬ ((e : Nat) : Int) < 0 := by omega
          have a3 : min e 64 = e := by omega
          have a4 : IntKind.i64.wrap (((e : Nat) : Int) - 8) = ((e : Nat) : Int) - 8 := IntWalk.i64_in _ (by omega)
          have HB9 : Hid (Value.int .u8 ((N : Int) / 2 ^ e % 256) = byV ((num8 N).getD m 0)) := Lib.hid (by
            have := num8_byte N m hlt
            rw [show 8 * (7 - m) = e by omega] at this
            exact this)
          obtain ⟨b9, hb9⟩ : ∃ b9, (num8 N).getD m 0 = b9 := ⟨_, rfl⟩
          rw [hb9] at HB9
          have cv : (convert 41 9 (.slice (some ⟨wr.heap.size, 0, none⟩) 1 1)).run Tryz.prog (wr.alloc (.cells #[.int .u8 ((N : Int) / 2 ^ e % 256)] 5)) = .ok (.string ⟨#[b9]⟩) (wr.alloc (.cells #[.int .u8 ((N : Int) / 2 ^ e % 256)] 5)) := by
            rw [HB9.out]
            exact conv_new wr 5 1 1 [b9] rfl
          have HX2 : Hid ((X ++ (⟨#[b9]⟩ : ByteArray)).data.toList = (s.data.toList ++ [128] ++ List.replicate (zerosW n) 0) ++ (num8 N).take (m + 1)) := Lib.hid (by
            have h8 : m < (num8 N).length := by rw [num8_len]; exact hlt
            rw [app_data, HX.out, List.take_succ_eq_append_getElem h8, List.append_assoc]
            congr 2
            rw [← hb9, List.getD_eq_getElem?_getD, List.getElem?_eq_getElem h8]
            rfl)
          have q2 : X.size + 1 ≤ 9223372036854775807 := by
            have h1 := congrArg List.length HX.out
            rw [data_size] at h1
            simp only [List.length_append, List.length_replicate, List.length_singleton, List.length_take] at h1
            have := HL.out
            have := HS.out
            have := zerosW_le n
            omega
          have HE := Lib.hid he
          clear he hb9
          go_wp2
          go_roundg (8 - (m + 1))
          case rel => exact ⟨m + 1, _, by omega, by have := HE.out; congr 1; omega, rfl, HX2, by (repeat (first | exact Below.refl _ _ | assumption | (refine bdrew ?_) | (refine bdrewN ?_ _) | (refine balloc ?_ _) | (refine bset ?_ (by first | omega | (simp; done) | (simp; omega)) _) | (refine bnext ?_ (by assumption))))⟩
          case measure => omega
        · obtain rfl : m = 8 := by omega
          have a1 : ¬ (0 : Int) ≤ 56 - 8 * ((8 : Nat) : Int) := by decide
          have HF : Hid (X = padS s) := Lib.hid (ba_eq (by
            rw [HX.out, padW_parts, HL.out, HN8.out, Nat.mod_eq_of_lt (by have := HN8.out; have := HS.out; omega), List.take_of_length_le (by rw [num8_len]; exact Nat.le_refl _)]))
          go_wp2
          go_ret
          exact ⟨by rw [HF.out]; rfl, HW.out⟩
end Go.Proofs.YtpobhbdomldecaaGreatDoor
namespace Go.Proofs.YtpobhbdomldecaaGreatDoor
open Go.RowKit Go.Great
set_option linter.unusedSimpArgs false
set_option linter.unusedVariables false
theorem idx_str (s : ByteArray) (i : Nat) (x : Int) (hx : x = (i : Int)) (h : i < s.size) (w : World) : (Instr.index 9 (.string s) (.int .i64 x)).run Tryz.prog w = .ok (.int .u8 (wI (bW (bth s.data.toList i)))) w := by
  subst hx
  have h2 : i < s.data.toList.length := by rw [data_size]; exact h
  have e : (s[i]).toNat = (bth s.data.toList i).toNat := by
    unfold bth
    rw [List.getD_eq_getElem?_getD, List.getElem?_eq_getElem h2]
    rfl
  have e3 : ((s[i]).toNat : Int) = wI (bW (bth s.data.toList i)) := by rw [e, wI_bW]
  rw [run_index_string (P := Tryz.prog) (w := w) 9 s .i64 ((i : Nat) : Int) Tryz.underlying9, dif_pos ⟨by omega, by omega⟩]
  have e4 : ∀ (k : Nat) (hk : k < s.size), k = i → ((s[k]'hk).toNat : Int) = wI (bW (bth s.data.toList i)) := fun k hk he => by subst he; exact e3
  rw [e4 _ _ (Int.toNat_natCast i)]
theorem bv_not2 (x : W32) : bits .xor .u32 (if IntKind.u32.signed = true then -1 else IntKind.u32.max) (wI x) = wI (~~~ x) := bv_not x
theorem wpList_build_ofR {P : Program} {ops : Array Oper} {rest : List Oper} {o : Oper} {a : Act} {w : World} {Q : Exit → Act → World → Prop} (hg : o.guard = none) (t : TypeId) (parts : Array (Nat × Operand)) (ho : o.op = .build t parts) (cs : Array Value)
    (hf : P.built t (parts.map fun (i, x) => (i, a.eval x)).toList = some cs) (h : wpList P ops Q rest (a.put o.dst (.agg cs)) w) : wpList P ops Q (o :: rest) a w :=
  wpList_build hg t parts ho (by rw [hf]; rfl) (by rw [hf]; exact h)
def Ev (a : Act) (n : Nat) (l : List (Nat × Value)) : Prop := a.tmps.size = n ∧ a.defers = [] ∧ ∀ p ∈ l, a.eval (.tmp p.1) = p.2
theorem Ev.put {a : Act} {n : Nat} {l : List (Nat × Value)} (h : Ev a n l) (d : Nat) (v : Value) (hd : d < n) (hf : l.all (fun p => p.1 != d) = true) : Ev (a.put (some d) v) n ((d, v) :: l) := by
  refine ⟨by simp [Act.put, h.1], h.2.1, ?_⟩
  intro p hp
  rcases List.mem_cons.1 hp with rfl | hp
  · exact eval_put_same (by rw [h.1]; exact hd)
  · have h1 := List.all_eq_true.1 hf p hp
    rw [eval_put_ne (by simpa using h1)]
    exact h.2.2 p hp
theorem Ev.at {a : Act} {n : Nat} {l : List (Nat × Value)} (h : Ev a n l) (k d : Nat) (v : Value) (hk : l[k]? = some (d, v)) : a.eval (.tmp d) = v := h.2.2 (d, v) (List.mem_of_getElem? hk)
theorem Ev.atf {a : Act} {n : Nat} {l : List (Nat × Value)} (h : Ev a n l) (k d : Nat) (v : Value) (hk : l[k]? = some (d, v)) : a.tmps[d]?.getD undef = v := (ev_form a d).symm.trans (h.at k d v hk)
theorem wp_of_act {P : Program} {c : Code} {Q : Exit → Act → World → Prop} {a : Act} {w : World} (h : ∀ a0 : Act, a0 = a → Code.wp P c Q a0 w) : Code.wp P c Q a w := h a rfl
def zero8R : List W32 := List.replicate 8 0
structure BlkAt (pb rb : Nat) (A9 : Array Value) (w wr : World) : Prop where
  below : Below w.heap.size w wr
  p : wr.heap[pb]? = some (.cells A9 222 (0, 0))
  r : wr.heap[rb]? = some (.cells (wsC zero8R) 222 (0, 0))
theorem BlkAt.next {pb rb : Nat} {A9 : Array Value} {w wr w' : World} (h : BlkAt pb rb A9 w wr) (hb : Below wr.heap.size wr w') : BlkAt pb rb A9 w w' :=
  ⟨bnext h.below hb, (hb.block _ (lt_of_block h.p)).trans h.p, (hb.block _ (lt_of_block h.r)).trans h.r⟩
theorem BlkAt.set {pb rb b o : Nat} {A9 : Array Value} {w wr : World} {v : Value} (h : BlkAt pb rb A9 w wr) (h0 : w.heap.size ≤ b) (h1 : pb ≠ b) (h2 : rb ≠ b) : BlkAt pb rb A9 w (wr.setCell ⟨b, o, none⟩ v) :=
  ⟨bset h.below h0 _, block_setCell_ne h.p h1 _, block_setCell_ne h.r h2 _⟩
set_option maxRecDepth 100000 in
set_option maxHeartbeats 4000000 in
theorem rconsts_any (w : World) : Calls Tryz.prog 258 #[] w fun e w' => e = .returned (.agg (wsC kW)) ∧ Below w.heap.size w w' := by
  go_enter Tryz.func258, Tryz.ntmps258
  go_upto_region 1 with fail
  obtain ⟨b, hb⟩ : ∃ b, w.heap.size = b := ⟨_, rfl⟩
  show Code.wp _ _ _ _ (w.alloc (.cells (wsC zeroW) 294))
  obtain ⟨V, hV⟩ : ∃ V, w.alloc (.cells (wsC zeroW) 294) = V := ⟨_, rfl⟩
  have HV : Hid (V.heap[b]? = some (.cells (wsC zeroW) 294 (0, 0))) := Lib.hid (by rw [← hV, ← hb]; exact heap_alloc_new _ _)
  have HS : Hid (Below w.heap.size w V) := Lib.hid (by rw [← hV]; exact balloc (Below.refl _ _) _)
  have HBW : Hid (w.heap.size ≤ b) := Lib.hid (Nat.le_of_eq hb)
  rw [hV, hb]
  clear hV hb
  apply wp_region_lit
  refine wpList_build rfl 294 _ rfl (by as_aux_lemma => kernel_rfl) ?_
  refine wpList_store_row rfl 294 _ _ rfl b (wsC kW) rfl (by as_aux_lemma => kernel_rfl) 294 (wsC zeroW) HV.out (by as_aux_lemma => kernel_rfl) (by as_aux_lemma => kernel_rfl) (by as_aux_lemma => kernel_rfl) ?_
  apply wpList_nil
  obtain ⟨U, hU⟩ : ∃ U, V.setRow b (wsC kW) = U := ⟨_, rfl⟩
  have HU : Hid (U.heap[b]? = some (.cells (wsC kW) 294 (0, 0))) := Lib.hid (by rw [← hU]; exact setRow_heap V b _ _ _ _ HV.out)
  have HUB : Hid (Below w.heap.size w U) := Lib.hid (by
    rw [← hU]
    exact ⟨HS.out.os, HS.out.tape, HS.out.output, by rw [setRow_size]; exact HS.out.size, fun i hi => by rw [setRow_other _ _ _ _ (show i ≠ b by have := HBW.out; omega)]; exact HS.out.block i hi⟩)
  rw [hU]
  rename_i Q' K hK
  refine hK _ _ ?_
  apply wp_ret
  refine bodyPost_ret (v := .agg (wsC kW)) ?_ rfl ?_
  · exact results_cell_row rfl _ _ b 294 (wsC kW) (0, 0) _ rfl HU.out rfl rfl (by as_aux_lemma => kernel_rfl)
  · exact ⟨rfl, HUB.out⟩
attribute [local go_sem] bv_xor bv_and bv_or bv_add bv_addm
set_option maxRecDepth 100000 in
set_option maxHeartbeats 8000000 in
theorem rblock_any (v : St8) (s : ByteArray) (w : World) (hs : s.size = 64) :
    Calls Tryz.prog 188 #[.agg (wsC (stL v)), .string s] w fun e w' => e = .returned (.agg (wsC (stL (pressW v s.data.toList)))) ∧ Below w.heap.size w w' := by
  have HS := Lib.hid hs
  obtain ⟨A9, hA9⟩ : ∃ A9, wsC (stL v) = A9 := ⟨_, rfl⟩
  have HA9 := Lib.hid hA9
  rw [hA9]
  clear hs hA9
  go_enter Tryz.func188, Tryz.ntmps188
  go_upto_region 3 with fail
  obtain ⟨pb, hpb⟩ : ∃ pb, w.heap.size = pb := ⟨_, rfl⟩
  obtain ⟨rb, hrb⟩ : ∃ rb, pb + 1 = rb := ⟨_, rfl⟩
  obtain ⟨wb, hwb⟩ : ∃ wb, rb + 1 = wb := ⟨_, rfl⟩
  have e1 : w.heap.size + 1 = rb := by omega
  have e2 : w.heap.size + 1 + 1 = wb := by omega
  rw [e2, e1, hpb]
  obtain ⟨L, hL⟩ : ∃ L, s.data.toList = L := ⟨_, rfl⟩
  have HLL := Lib.hid hL
  have HLN : Hid (L.length = 64) := Lib.hid (by rw [← hL, data_size]; exact HS.out)
  have HNE : Hid (w.heap.size ≤ pb ∧ w.heap.size ≤ rb ∧ w.heap.size ≤ wb ∧ pb ≠ wb ∧ rb ≠ wb ∧ pb < wb ∧ rb < wb) := Lib.hid (by omega)
  change Code.wp _ _ _ _ (((w.alloc (.cells A9 222)).alloc (.cells (wsC zero8R) 222)).alloc (.cells (wsC zeroW) 294))
  obtain ⟨U, hU⟩ : ∃ U, (((w.alloc (.cells A9 222)).alloc (.cells (wsC zero8R) 222)).alloc (.cells (wsC zeroW) 294)) = U := ⟨_, rfl⟩
  rw [hU]
  have HB0 : Hid (BlkAt pb rb A9 w U) := Lib.hid ⟨by rw [← hU]; exact balloc (balloc (balloc (Below.refl _ _) _) _) _, by rw [← hU]; exact block_alloc (block_alloc (alloc_new_at _ hpb) _) _, by rw [← hU]; exact block_alloc (alloc_new_at _ (by rw [alloc_size _ rfl]; omega)) _⟩
  have HW0 : Hid (U.heap[wb]? = some (.cells (wsC (headZ L 0)) 294 (0, 0))) := Lib.hid (by rw [← hU]; exact alloc_new_at _ (by rw [alloc_size _ (alloc_size _ rfl)]; omega))
  clear hU e1 e2 hwb hrb hpb
  go_loopg [6] 16 (fun g i wr => ∃ m : Nat, g + m = 16 ∧ i = .int .i64 m ∧ Hid (wr.heap[wb]? = some (.cells (wsC (headZ L m)) 294 (0, 0))) ∧ Hid (BlkAt pb rb A9 w wr))
  case atStart => exact ⟨0, rfl, rfl, HW0, HB0⟩
  case round =>
    clear HW0 HB0
    obtain ⟨m, hm, rfl, HW, HB⟩ := hrel
    by_cases hlt : m < 16
    · have i1 : (m : Int) < 16 := by omega
      have i4 : IntKind.i64.wrap (4 * ((m : Nat) : Int)) = 4 * ((m : Nat) : Int) := IntWalk.i64_in _ (by omega)
      have i5 : IntKind.i64.wrap (4 * ((m : Nat) : Int) + 1) = 4 * ((m : Nat) : Int) + 1 := IntWalk.i64_in _ (by omega)
      have i6 : IntKind.i64.wrap (4 * ((m : Nat) : Int) + 2) = 4 * ((m : Nat) : Int) + 2 := IntWalk.i64_in _ (by omega)
      have i7 : IntKind.i64.wrap (4 * ((m : Nat) : Int) + 3) = 4 * ((m : Nat) : Int) + 3 := IntWalk.i64_in _ (by omega)
      have m64 : ¬ (64 : Int) ≤ (m : Int) := by omega
      have m65 : ¬ 64 ≤ m := by omega
      obtain ⟨B0, hB0⟩ : ∃ B, bW (bth L (4 * m)) = B := ⟨_, rfl⟩
      obtain ⟨B1, hB1⟩ : ∃ B, bW (bth L (4 * m + 1)) = B := ⟨_, rfl⟩
      obtain ⟨B2, hB2⟩ : ∃ B, bW (bth L (4 * m + 2)) = B := ⟨_, rfl⟩
      obtain ⟨B3, hB3⟩ : ∃ B, bW (bth L (4 * m + 3)) = B := ⟨_, rfl⟩
      have hs4 := HS.out
      have x0 : ∀ wv : World, (Instr.index 9 (.string s) (.int .i64 (4 * ((m : Nat) : Int)))).run Tryz.prog wv = .ok (.int .u8 (wI B0)) wv := fun wv => by rw [idx_str s (4 * m) _ (by omega) (by omega), HLL.out, hB0]
      have x1 : ∀ wv : World, (Instr.index 9 (.string s) (.int .i64 (4 * ((m : Nat) : Int) + 1))).run Tryz.prog wv = .ok (.int .u8 (wI B1)) wv := fun wv => by rw [idx_str s (4 * m + 1) _ (by omega) (by omega), HLL.out, hB1]
      have x2 : ∀ wv : World, (Instr.index 9 (.string s) (.int .i64 (4 * ((m : Nat) : Int) + 2))).run Tryz.prog wv = .ok (.int .u8 (wI B2)) wv := fun wv => by rw [idx_str s (4 * m + 2) _ (by omega) (by omega), HLL.out, hB2]
      have x3 : ∀ wv : World, (Instr.index 9 (.string s) (.int .i64 (4 * ((m : Nat) : Int) + 3))).run Tryz.prog wv = .ok (.int .u8 (wI B3)) wv := fun wv => by rw [idx_str s (4 * m + 3) _ (by omega) (by omega), HLL.out, hB3]
      have HW4 : Hid (B0 <<< 24 ||| B1 <<< 16 ||| B2 <<< 8 ||| B3 = w4 (bth L (4 * m)) (bth L (4 * m + 1)) (bth L (4 * m + 2)) (bth L (4 * m + 3))) := Lib.hid (by rw [← hB0, ← hB1, ← hB2, ← hB3]; rfl)
      clear hB0 hB1 hB2 hB3 hs4
      go_upto_region 5 with fail
      refine wp_region_tail 31 1000 (none) (phis [fun u _ => u = (.int .i64 (m : Nat)), fun u _ => u = (.string s), fun u _ => u = (.int .i64 (m : Nat)), fun u _ => u = (.int .i64 (4 * ((m : Nat) : Int))), fun u _ => u = (.int .u8 (wI B0)), fun u _ => u = (.int .u32 (wI B0)), fun u _ => u = (.int .u32 (wI (B0 <<< 24))), fun u _ => u = (.string s), fun u _ => u = (.int .i64 (m : Nat)), fun u _ => u = (.int .i64 (4 * ((m : Nat) : Int))), fun u _ => u = (.int .i64 (4 * ((m : Nat) : Int) + 1)), fun u _ => u = (.int .u8 (wI B1)), fun u _ => u = (.int .u32 (wI B1)), fun u _ => u = (.int .u32 (wI (B1 <<< 16))), fun u _ => u = (.int .u32 (wI (B0 <<< 24 ||| B1 <<< 16))), fun u _ => u = (.string s), fun u _ => u = (.int .i64 (m : Nat)), fun u _ => u = (.int .i64 (4 * ((m : Nat) : Int))), fun u _ => u = (.int .i64 (4 * ((m : Nat) : Int) + 2)), fun u _ => u = (.int .u8 (wI B2)), fun u _ => u = (.int .u32 (wI B2)), fun u _ => u = (.int .u32 (wI (B2 <<< 8))), fun u _ => u = (.int .u32 (wI (B0 <<< 24 ||| B1 <<< 16 ||| B2 <<< 8))), fun u _ => u = (.string s), fun u _ => u = (.int .i64 (m : Nat)), fun u _ => u = (.int .i64 (4 * ((m : Nat) : Int))), fun u _ => u = (.int .i64 (4 * ((m : Nat) : Int) + 3)), fun u _ => u = (.int .u8 (wI B3)), fun u _ => u = (.int .u32 (wI B3)), fun u _ => u = (.int .u32 (wI (B0 <<< 24 ||| B1 <<< 16 ||| B2 <<< 8 ||| B3))), fun u _ => u = (.pointer (some ⟨wb, m, none⟩))]) rfl (by kernel_rfl) (by kernel_rfl) (mono_of ⟨mono_eq, mono_eq, mono_eq, mono_eq, mono_eq, mono_eq, mono_eq, mono_eq, mono_eq, mono_eq, mono_eq, mono_eq, mono_eq, mono_eq, mono_eq, mono_eq, mono_eq, mono_eq, mono_eq, mono_eq, mono_eq, mono_eq, mono_eq, mono_eq, mono_eq, mono_eq, mono_eq, mono_eq, mono_eq, mono_eq, mono_eq, trivial⟩) (steps_of 31 ⟨?s0, ?s1, ?s2, ?s3, ?s4, ?s5, ?s6, ?s7, ?s8, ?s9, ?s10, ?s11, ?s12, ?s13, ?s14, ?s15, ?s16, ?s17, ?s18, ?s19, ?s20, ?s21, ?s22, ?s23, ?s24, ?s25, ?s26, ?s27, ?s28, ?s29, ?s30, trivial⟩) ?_
      case s0 =>
        refine step_val (v := (.int .i64 (m : Nat))) (fun av wv hE hS hO hD => ?_) (fun _ => rfl)
        have h6 : av.eval (.tmp 6) = (.int .i64 (m : Nat)) := hO.2.2 6 rfl
        have f6 := (ev_form av 6).symm.trans h6
        refine ⟨rfl, ?_⟩
        simp [go_sem, f6, wI_wrap, wI_mod, bv_shl24, bv_shl16, bv_shl8, bv_or, m64, m65, x0, x1, x2, x3, i4, i5, i6, i7]
      case s1 =>
        refine step_val (v := (.string s)) (fun av wv hE hS hO hD => ?_) (fun _ => rfl)
        have h1 : av.eval (.tmp 1) = (.string s) := hO.2.2 1 rfl
        have f1 := (ev_form av 1).symm.trans h1
        refine ⟨rfl, ?_⟩
        simp [go_sem, f1, wI_wrap, wI_mod, bv_shl24, bv_shl16, bv_shl8, bv_or, m64, m65, x0, x1, x2, x3, i4, i5, i6, i7]
      case s2 =>
        refine step_val (v := (.int .i64 (m : Nat))) (fun av wv hE hS hO hD => ?_) (fun _ => rfl)
        have h6 : av.eval (.tmp 6) = (.int .i64 (m : Nat)) := hO.2.2 6 rfl
        have f6 := (ev_form av 6).symm.trans h6
        refine ⟨rfl, ?_⟩
        simp [go_sem, f6, wI_wrap, wI_mod, bv_shl24, bv_shl16, bv_shl8, bv_or, m64, m65, x0, x1, x2, x3, i4, i5, i6, i7]
      case s3 =>
        refine step_val (v := (.int .i64 (4 * ((m : Nat) : Int)))) (fun av wv hE hS hO hD => ?_) (fun _ => rfl)
        have d28 : av.eval (.tmp 28) = (.int .i64 (m : Nat)) := hD.1 rfl _ rfl
        have f28 := (ev_form av 28).symm.trans d28
        refine ⟨rfl, ?_⟩
        simp [go_sem, f28, wI_wrap, wI_mod, bv_shl24, bv_shl16, bv_shl8, bv_or, m64, m65, x0, x1, x2, x3, i4, i5, i6, i7]
      case s4 =>
        refine step_val (v := (.int .u8 (wI B0))) (fun av wv hE hS hO hD => ?_) (fun _ => rfl)
        have d27 : av.eval (.tmp 27) = (.string s) := hD.1 rfl _ rfl
        have f27 := (ev_form av 27).symm.trans d27
        have d29 : av.eval (.tmp 29) = (.int .i64 (4 * ((m : Nat) : Int))) := hD.2.1 rfl _ rfl
        have f29 := (ev_form av 29).symm.trans d29
        refine ⟨rfl, ?_⟩
        simp [go_sem, f27, f29, wI_wrap, wI_mod, bv_shl24, bv_shl16, bv_shl8, bv_or, m64, m65, x0, x1, x2, x3, i4, i5, i6, i7]
      case s5 =>
        refine step_val (v := (.int .u32 (wI B0))) (fun av wv hE hS hO hD => ?_) (fun _ => rfl)
        have d30 : av.eval (.tmp 30) = (.int .u8 (wI B0)) := hD.1 rfl _ rfl
        have f30 := (ev_form av 30).symm.trans d30
        refine ⟨rfl, ?_⟩
        simp [go_sem, f30, wI_wrap, wI_mod, bv_shl24, bv_shl16, bv_shl8, bv_or, m64, m65, x0, x1, x2, x3, i4, i5, i6, i7]
      case s6 =>
        refine step_val (v := (.int .u32 (wI (B0 <<< 24)))) (fun av wv hE hS hO hD => ?_) (fun _ => rfl)
        have d31 : av.eval (.tmp 31) = (.int .u32 (wI B0)) := hD.1 rfl _ rfl
        have f31 := (ev_form av 31).symm.trans d31
        refine ⟨rfl, ?_⟩
        simp [go_sem, f31, wI_wrap, wI_mod, bv_shl24, bv_shl16, bv_shl8, bv_or, m64, m65, x0, x1, x2, x3, i4, i5, i6, i7]
      case s7 =>
        refine step_val (v := (.string s)) (fun av wv hE hS hO hD => ?_) (fun _ => rfl)
        have h1 : av.eval (.tmp 1) = (.string s) := hO.2.2 1 rfl
        have f1 := (ev_form av 1).symm.trans h1
        refine ⟨rfl, ?_⟩
        simp [go_sem, f1, wI_wrap, wI_mod, bv_shl24, bv_shl16, bv_shl8, bv_or, m64, m65, x0, x1, x2, x3, i4, i5, i6, i7]
      case s8 =>
        refine step_val (v := (.int .i64 (m : Nat))) (fun av wv hE hS hO hD => ?_) (fun _ => rfl)
        have h6 : av.eval (.tmp 6) = (.int .i64 (m : Nat)) := hO.2.2 6 rfl
        have f6 := (ev_form av 6).symm.trans h6
        refine ⟨rfl, ?_⟩
        simp [go_sem, f6, wI_wrap, wI_mod, bv_shl24, bv_shl16, bv_shl8, bv_or, m64, m65, x0, x1, x2, x3, i4, i5, i6, i7]
      case s9 =>
        refine step_val (v := (.int .i64 (4 * ((m : Nat) : Int)))) (fun av wv hE hS hO hD => ?_) (fun _ => rfl)
        have d34 : av.eval (.tmp 34) = (.int .i64 (m : Nat)) := hD.1 rfl _ rfl
        have f34 := (ev_form av 34).symm.trans d34
        refine ⟨rfl, ?_⟩
        simp [go_sem, f34, wI_wrap, wI_mod, bv_shl24, bv_shl16, bv_shl8, bv_or, m64, m65, x0, x1, x2, x3, i4, i5, i6, i7]
      case s10 =>
        refine step_val (v := (.int .i64 (4 * ((m : Nat) : Int) + 1))) (fun av wv hE hS hO hD => ?_) (fun _ => rfl)
        have d35 : av.eval (.tmp 35) = (.int .i64 (4 * ((m : Nat) : Int))) := hD.1 rfl _ rfl
        have f35 := (ev_form av 35).symm.trans d35
        refine ⟨rfl, ?_⟩
        simp [go_sem, f35, wI_wrap, wI_mod, bv_shl24, bv_shl16, bv_shl8, bv_or, m64, m65, x0, x1, x2, x3, i4, i5, i6, i7]
      case s11 =>
        refine step_val (v := (.int .u8 (wI B1))) (fun av wv hE hS hO hD => ?_) (fun _ => rfl)
        have d33 : av.eval (.tmp 33) = (.string s) := hD.1 rfl _ rfl
        have f33 := (ev_form av 33).symm.trans d33
        have d36 : av.eval (.tmp 36) = (.int .i64 (4 * ((m : Nat) : Int) + 1)) := hD.2.1 rfl _ rfl
        have f36 := (ev_form av 36).symm.trans d36
        refine ⟨rfl, ?_⟩
        simp [go_sem, f33, f36, wI_wrap, wI_mod, bv_shl24, bv_shl16, bv_shl8, bv_or, m64, m65, x0, x1, x2, x3, i4, i5, i6, i7]
      case s12 =>
        refine step_val (v := (.int .u32 (wI B1))) (fun av wv hE hS hO hD => ?_) (fun _ => rfl)
        have d37 : av.eval (.tmp 37) = (.int .u8 (wI B1)) := hD.1 rfl _ rfl
        have f37 := (ev_form av 37).symm.trans d37
        refine ⟨rfl, ?_⟩
        simp [go_sem, f37, wI_wrap, wI_mod, bv_shl24, bv_shl16, bv_shl8, bv_or, m64, m65, x0, x1, x2, x3, i4, i5, i6, i7]
      case s13 =>
        refine step_val (v := (.int .u32 (wI (B1 <<< 16)))) (fun av wv hE hS hO hD => ?_) (fun _ => rfl)
        have d38 : av.eval (.tmp 38) = (.int .u32 (wI B1)) := hD.1 rfl _ rfl
        have f38 := (ev_form av 38).symm.trans d38
        refine ⟨rfl, ?_⟩
        simp [go_sem, f38, wI_wrap, wI_mod, bv_shl24, bv_shl16, bv_shl8, bv_or, m64, m65, x0, x1, x2, x3, i4, i5, i6, i7]
      case s14 =>
        refine step_val (v := (.int .u32 (wI (B0 <<< 24 ||| B1 <<< 16)))) (fun av wv hE hS hO hD => ?_) (fun _ => rfl)
        have d32 : av.eval (.tmp 32) = (.int .u32 (wI (B0 <<< 24))) := hD.1 rfl _ rfl
        have f32 := (ev_form av 32).symm.trans d32
        have d39 : av.eval (.tmp 39) = (.int .u32 (wI (B1 <<< 16))) := hD.2.1 rfl _ rfl
        have f39 := (ev_form av 39).symm.trans d39
        refine ⟨rfl, ?_⟩
        simp [go_sem, f32, f39, wI_wrap, wI_mod, bv_shl24, bv_shl16, bv_shl8, bv_or, m64, m65, x0, x1, x2, x3, i4, i5, i6, i7]
      case s15 =>
        refine step_val (v := (.string s)) (fun av wv hE hS hO hD => ?_) (fun _ => rfl)
        have h1 : av.eval (.tmp 1) = (.string s) := hO.2.2 1 rfl
        have f1 := (ev_form av 1).symm.trans h1
        refine ⟨rfl, ?_⟩
        simp [go_sem, f1, wI_wrap, wI_mod, bv_shl24, bv_shl16, bv_shl8, bv_or, m64, m65, x0, x1, x2, x3, i4, i5, i6, i7]
      case s16 =>
        refine step_val (v := (.int .i64 (m : Nat))) (fun av wv hE hS hO hD => ?_) (fun _ => rfl)
        have h6 : av.eval (.tmp 6) = (.int .i64 (m : Nat)) := hO.2.2 6 rfl
        have f6 := (ev_form av 6).symm.trans h6
        refine ⟨rfl, ?_⟩
        simp [go_sem, f6, wI_wrap, wI_mod, bv_shl24, bv_shl16, bv_shl8, bv_or, m64, m65, x0, x1, x2, x3, i4, i5, i6, i7]
      case s17 =>
        refine step_val (v := (.int .i64 (4 * ((m : Nat) : Int)))) (fun av wv hE hS hO hD => ?_) (fun _ => rfl)
        have d42 : av.eval (.tmp 42) = (.int .i64 (m : Nat)) := hD.1 rfl _ rfl
        have f42 := (ev_form av 42).symm.trans d42
        refine ⟨rfl, ?_⟩
        simp [go_sem, f42, wI_wrap, wI_mod, bv_shl24, bv_shl16, bv_shl8, bv_or, m64, m65, x0, x1, x2, x3, i4, i5, i6, i7]
      case s18 =>
        refine step_val (v := (.int .i64 (4 * ((m : Nat) : Int) + 2))) (fun av wv hE hS hO hD => ?_) (fun _ => rfl)
        have d43 : av.eval (.tmp 43) = (.int .i64 (4 * ((m : Nat) : Int))) := hD.1 rfl _ rfl
        have f43 := (ev_form av 43).symm.trans d43
        refine ⟨rfl, ?_⟩
        simp [go_sem, f43, wI_wrap, wI_mod, bv_shl24, bv_shl16, bv_shl8, bv_or, m64, m65, x0, x1, x2, x3, i4, i5, i6, i7]
      case s19 =>
        refine step_val (v := (.int .u8 (wI B2))) (fun av wv hE hS hO hD => ?_) (fun _ => rfl)
        have d41 : av.eval (.tmp 41) = (.string s) := hD.1 rfl _ rfl
        have f41 := (ev_form av 41).symm.trans d41
        have d44 : av.eval (.tmp 44) = (.int .i64 (4 * ((m : Nat) : Int) + 2)) := hD.2.1 rfl _ rfl
        have f44 := (ev_form av 44).symm.trans d44
        refine ⟨rfl, ?_⟩
        simp [go_sem, f41, f44, wI_wrap, wI_mod, bv_shl24, bv_shl16, bv_shl8, bv_or, m64, m65, x0, x1, x2, x3, i4, i5, i6, i7]
      case s20 =>
        refine step_val (v := (.int .u32 (wI B2))) (fun av wv hE hS hO hD => ?_) (fun _ => rfl)
        have d45 : av.eval (.tmp 45) = (.int .u8 (wI B2)) := hD.1 rfl _ rfl
        have f45 := (ev_form av 45).symm.trans d45
        refine ⟨rfl, ?_⟩
        simp [go_sem, f45, wI_wrap, wI_mod, bv_shl24, bv_shl16, bv_shl8, bv_or, m64, m65, x0, x1, x2, x3, i4, i5, i6, i7]
      case s21 =>
        refine step_val (v := (.int .u32 (wI (B2 <<< 8)))) (fun av wv hE hS hO hD => ?_) (fun _ => rfl)
        have d46 : av.eval (.tmp 46) = (.int .u32 (wI B2)) := hD.1 rfl _ rfl
        have f46 := (ev_form av 46).symm.trans d46
        refine ⟨rfl, ?_⟩
        simp [go_sem, f46, wI_wrap, wI_mod, bv_shl24, bv_shl16, bv_shl8, bv_or, m64, m65, x0, x1, x2, x3, i4, i5, i6, i7]
      case s22 =>
        refine step_val (v := (.int .u32 (wI (B0 <<< 24 ||| B1 <<< 16 ||| B2 <<< 8)))) (fun av wv hE hS hO hD => ?_) (fun _ => rfl)
        have d40 : av.eval (.tmp 40) = (.int .u32 (wI (B0 <<< 24 ||| B1 <<< 16))) := hD.1 rfl _ rfl
        have f40 := (ev_form av 40).symm.trans d40
        have d47 : av.eval (.tmp 47) = (.int .u32 (wI (B2 <<< 8))) := hD.2.1 rfl _ rfl
        have f47 := (ev_form av 47).symm.trans d47
        refine ⟨rfl, ?_⟩
        simp [go_sem, f40, f47, wI_wrap, wI_mod, bv_shl24, bv_shl16, bv_shl8, bv_or, m64, m65, x0, x1, x2, x3, i4, i5, i6, i7]
      case s23 =>
        refine step_val (v := (.string s)) (fun av wv hE hS hO hD => ?_) (fun _ => rfl)
        have h1 : av.eval (.tmp 1) = (.string s) := hO.2.2 1 rfl
        have f1 := (ev_form av 1).symm.trans h1
        refine ⟨rfl, ?_⟩
        simp [go_sem, f1, wI_wrap, wI_mod, bv_shl24, bv_shl16, bv_shl8, bv_or, m64, m65, x0, x1, x2, x3, i4, i5, i6, i7]
      case s24 =>
        refine step_val (v := (.int .i64 (m : Nat))) (fun av wv hE hS hO hD => ?_) (fun _ => rfl)
        have h6 : av.eval (.tmp 6) = (.int .i64 (m : Nat)) := hO.2.2 6 rfl
        have f6 := (ev_form av 6).symm.trans h6
        refine ⟨rfl, ?_⟩
        simp [go_sem, f6, wI_wrap, wI_mod, bv_shl24, bv_shl16, bv_shl8, bv_or, m64, m65, x0, x1, x2, x3, i4, i5, i6, i7]
      case s25 =>
        refine step_val (v := (.int .i64 (4 * ((m : Nat) : Int)))) (fun av wv hE hS hO hD => ?_) (fun _ => rfl)
        have d50 : av.eval (.tmp 50) = (.int .i64 (m : Nat)) := hD.1 rfl _ rfl
        have f50 := (ev_form av 50).symm.trans d50
        refine ⟨rfl, ?_⟩
        simp [go_sem, f50, wI_wrap, wI_mod, bv_shl24, bv_shl16, bv_shl8, bv_or, m64, m65, x0, x1, x2, x3, i4, i5, i6, i7]
      case s26 =>
        refine step_val (v := (.int .i64 (4 * ((m : Nat) : Int) + 3))) (fun av wv hE hS hO hD => ?_) (fun _ => rfl)
        have d51 : av.eval (.tmp 51) = (.int .i64 (4 * ((m : Nat) : Int))) := hD.1 rfl _ rfl
        have f51 := (ev_form av 51).symm.trans d51
        refine ⟨rfl, ?_⟩
        simp [go_sem, f51, wI_wrap, wI_mod, bv_shl24, bv_shl16, bv_shl8, bv_or, m64, m65, x0, x1, x2, x3, i4, i5, i6, i7]
      case s27 =>
        refine step_val (v := (.int .u8 (wI B3))) (fun av wv hE hS hO hD => ?_) (fun _ => rfl)
        have d49 : av.eval (.tmp 49) = (.string s) := hD.1 rfl _ rfl
        have f49 := (ev_form av 49).symm.trans d49
        have d52 : av.eval (.tmp 52) = (.int .i64 (4 * ((m : Nat) : Int) + 3)) := hD.2.1 rfl _ rfl
        have f52 := (ev_form av 52).symm.trans d52
        refine ⟨rfl, ?_⟩
        simp [go_sem, f49, f52, wI_wrap, wI_mod, bv_shl24, bv_shl16, bv_shl8, bv_or, m64, m65, x0, x1, x2, x3, i4, i5, i6, i7]
      case s28 =>
        refine step_val (v := (.int .u32 (wI B3))) (fun av wv hE hS hO hD => ?_) (fun _ => rfl)
        have d53 : av.eval (.tmp 53) = (.int .u8 (wI B3)) := hD.1 rfl _ rfl
        have f53 := (ev_form av 53).symm.trans d53
        refine ⟨rfl, ?_⟩
        simp [go_sem, f53, wI_wrap, wI_mod, bv_shl24, bv_shl16, bv_shl8, bv_or, m64, m65, x0, x1, x2, x3, i4, i5, i6, i7]
      case s29 =>
        refine step_val (v := (.int .u32 (wI (B0 <<< 24 ||| B1 <<< 16 ||| B2 <<< 8 ||| B3)))) (fun av wv hE hS hO hD => ?_) (fun _ => rfl)
        have d48 : av.eval (.tmp 48) = (.int .u32 (wI (B0 <<< 24 ||| B1 <<< 16 ||| B2 <<< 8))) := hD.1 rfl _ rfl
        have f48 := (ev_form av 48).symm.trans d48
        have d54 : av.eval (.tmp 54) = (.int .u32 (wI B3)) := hD.2.1 rfl _ rfl
        have f54 := (ev_form av 54).symm.trans d54
        refine ⟨rfl, ?_⟩
        simp [go_sem, f48, f54, wI_wrap, wI_mod, bv_shl24, bv_shl16, bv_shl8, bv_or, m64, m65, x0, x1, x2, x3, i4, i5, i6, i7]
      case s30 =>
        refine step_val (v := (.pointer (some ⟨wb, m, none⟩))) (fun av wv hE hS hO hD => ?_) (fun _ => rfl)
        have h5 : av.eval (.tmp 5) = (.pointer (some ⟨wb, 0, none⟩)) := hO.2.2 5 rfl
        have f5 := (ev_form av 5).symm.trans h5
        have d26 : av.eval (.tmp 26) = (.int .i64 (m : Nat)) := hD.1 rfl _ rfl
        have f26 := (ev_form av 26).symm.trans d26
        refine ⟨rfl, ?_⟩
        simp [go_sem, f5, f26, wI_wrap, wI_mod, bv_shl24, bv_shl16, bv_shl8, bv_or, m64, m65, x0, x1, x2, x3, i4, i5, i6, i7]
      intro a' w' hE hO hall
      have hA := act_of_outer (ds := [26, 27, 28, 29, 30, 31, 32, 33, 34, 35, 36, 37, 38, 39, 40, 41, 42, 43, 44, 45, 46, 47, 48, 49, 50, 51, 52, 53, 54, 55, 56]) rfl hO (by kernel_rfl)
      have e26 : (fun u _ => u = (.int .i64 (m : Nat))) (a'.eval (.tmp 26)) w' := hall.1 _ rfl
      have e27 : (fun u _ => u = (.string s)) (a'.eval (.tmp 27)) w' := hall.2.1 _ rfl
      have e28 : (fun u _ => u = (.int .i64 (m : Nat))) (a'.eval (.tmp 28)) w' := hall.2.2.1 _ rfl
      have e29 : (fun u _ => u = (.int .i64 (4 * ((m : Nat) : Int)))) (a'.eval (.tmp 29)) w' := hall.2.2.2.1 _ rfl
      have e30 : (fun u _ => u = (.int .u8 (wI B0))) (a'.eval (.tmp 30)) w' := hall.2.2.2.2.1 _ rfl
      have e31 : (fun u _ => u = (.int .u32 (wI B0))) (a'.eval (.tmp 31)) w' := hall.2.2.2.2.2.1 _ rfl
      have e32 : (fun u _ => u = (.int .u32 (wI (B0 <<< 24)))) (a'.eval (.tmp 32)) w' := hall.2.2.2.2.2.2.1 _ rfl
      have e33 : (fun u _ => u = (.string s)) (a'.eval (.tmp 33)) w' := hall.2.2.2.2.2.2.2.1 _ rfl
      have e34 : (fun u _ => u = (.int .i64 (m : Nat))) (a'.eval (.tmp 34)) w' := hall.2.2.2.2.2.2.2.2.1 _ rfl
      have e35 : (fun u _ => u = (.int .i64 (4 * ((m : Nat) : Int)))) (a'.eval (.tmp 35)) w' := hall.2.2.2.2.2.2.2.2.2.1 _ rfl
      have e36 : (fun u _ => u = (.int .i64 (4 * ((m : Nat) : Int) + 1))) (a'.eval (.tmp 36)) w' := hall.2.2.2.2.2.2.2.2.2.2.1 _ rfl
      have e37 : (fun u _ => u = (.int .u8 (wI B1))) (a'.eval (.tmp 37)) w' := hall.2.2.2.2.2.2.2.2.2.2.2.1 _ rfl
      have e38 : (fun u _ => u = (.int .u32 (wI B1))) (a'.eval (.tmp 38)) w' := hall.2.2.2.2.2.2.2.2.2.2.2.2.1 _ rfl
      have e39 : (fun u _ => u = (.int .u32 (wI (B1 <<< 16)))) (a'.eval (.tmp 39)) w' := hall.2.2.2.2.2.2.2.2.2.2.2.2.2.1 _ rfl
      have e40 : (fun u _ => u = (.int .u32 (wI (B0 <<< 24 ||| B1 <<< 16)))) (a'.eval (.tmp 40)) w' := hall.2.2.2.2.2.2.2.2.2.2.2.2.2.2.1 _ rfl
      have e41 : (fun u _ => u = (.string s)) (a'.eval (.tmp 41)) w' := hall.2.2.2.2.2.2.2.2.2.2.2.2.2.2.2.1 _ rfl
      have e42 : (fun u _ => u = (.int .i64 (m : Nat))) (a'.eval (.tmp 42)) w' := hall.2.2.2.2.2.2.2.2.2.2.2.2.2.2.2.2.1 _ rfl
      have e43 : (fun u _ => u = (.int .i64 (4 * ((m : Nat) : Int)))) (a'.eval (.tmp 43)) w' := hall.2.2.2.2.2.2.2.2.2.2.2.2.2.2.2.2.2.1 _ rfl
      have e44 : (fun u _ => u = (.int .i64 (4 * ((m : Nat) : Int) + 2))) (a'.eval (.tmp 44)) w' := hall.2.2.2.2.2.2.2.2.2.2.2.2.2.2.2.2.2.2.1 _ rfl
      have e45 : (fun u _ => u = (.int .u8 (wI B2))) (a'.eval (.tmp 45)) w' := hall.2.2.2.2.2.2.2.2.2.2.2.2.2.2.2.2.2.2.2.1 _ rfl
      have e46 : (fun u _ => u = (.int .u32 (wI B2))) (a'.eval (.tmp 46)) w' := hall.2.2.2.2.2.2.2.2.2.2.2.2.2.2.2.2.2.2.2.2.1 _ rfl
      have e47 : (fun u _ => u = (.int .u32 (wI (B2 <<< 8)))) (a'.eval (.tmp 47)) w' := hall.2.2.2.2.2.2.2.2.2.2.2.2.2.2.2.2.2.2.2.2.2.1 _ rfl
      have e48 : (fun u _ => u = (.int .u32 (wI (B0 <<< 24 ||| B1 <<< 16 ||| B2 <<< 8)))) (a'.eval (.tmp 48)) w' := hall.2.2.2.2.2.2.2.2.2.2.2.2.2.2.2.2.2.2.2.2.2.2.1 _ rfl
      have e49 : (fun u _ => u = (.string s)) (a'.eval (.tmp 49)) w' := hall.2.2.2.2.2.2.2.2.2.2.2.2.2.2.2.2.2.2.2.2.2.2.2.1 _ rfl
      have e50 : (fun u _ => u = (.int .i64 (m : Nat))) (a'.eval (.tmp 50)) w' := hall.2.2.2.2.2.2.2.2.2.2.2.2.2.2.2.2.2.2.2.2.2.2.2.2.1 _ rfl
      have e51 : (fun u _ => u = (.int .i64 (4 * ((m : Nat) : Int)))) (a'.eval (.tmp 51)) w' := hall.2.2.2.2.2.2.2.2.2.2.2.2.2.2.2.2.2.2.2.2.2.2.2.2.2.1 _ rfl
      have e52 : (fun u _ => u = (.int .i64 (4 * ((m : Nat) : Int) + 3))) (a'.eval (.tmp 52)) w' := hall.2.2.2.2.2.2.2.2.2.2.2.2.2.2.2.2.2.2.2.2.2.2.2.2.2.2.1 _ rfl
      have e53 : (fun u _ => u = (.int .u8 (wI B3))) (a'.eval (.tmp 53)) w' := hall.2.2.2.2.2.2.2.2.2.2.2.2.2.2.2.2.2.2.2.2.2.2.2.2.2.2.2.1 _ rfl
      have e54 : (fun u _ => u = (.int .u32 (wI B3))) (a'.eval (.tmp 54)) w' := hall.2.2.2.2.2.2.2.2.2.2.2.2.2.2.2.2.2.2.2.2.2.2.2.2.2.2.2.2.1 _ rfl
      have e55 : (fun u _ => u = (.int .u32 (wI (B0 <<< 24 ||| B1 <<< 16 ||| B2 <<< 8 ||| B3)))) (a'.eval (.tmp 55)) w' := hall.2.2.2.2.2.2.2.2.2.2.2.2.2.2.2.2.2.2.2.2.2.2.2.2.2.2.2.2.2.1 _ rfl
      have e56 : (fun u _ => u = (.pointer (some ⟨wb, m, none⟩))) (a'.eval (.tmp 56)) w' := hall.2.2.2.2.2.2.2.2.2.2.2.2.2.2.2.2.2.2.2.2.2.2.2.2.2.2.2.2.2.2.1 _ rfl
      simp only [List.foldl_cons, List.foldl_nil, Act.put, List.setIfInBounds_toArray, List.set_cons_succ, List.set_cons_zero, e26, e27, e28, e29, e30, e31, e32, e33, e34, e35, e36, e37, e38, e39, e40, e41, e42, e43, e44, e45, e46, e47, e48, e49, e50, e51, e52, e53, e54, e55, e56] at hA
      clear hO hall e26 e27 e28 e29 e30 e31 e32 e33 e34 e35 e36 e37 e38 e39 e40 e41 e42 e43 e44 e45 e46 e47 e48 e49 e50 e51 e52 e53 e54 e55 e56
      subst hA
      have hEw := of_drew hE
      have HW1 := Lib.hid ((hEw.block _ (lt_of_block HW.out)).trans HW.out)
      have HB1 := Lib.hid (HB.out.next hEw)
      have cw : w'.cell? ⟨wb, m, none⟩ = some (.int .u32 (wI (wth (headZ L m) m))) := by rw [block_cell HW1.out, wsC_at _ _ (by rw [headZ_len _ _ (by omega)]; omega)]
      have cf : w'.frozen? ⟨wb, m, none⟩ = false := block_free HW1.out m
      have cl : wb < w'.heap.size := lt_of_block HW1.out
      have HW2 : Hid ((w'.setCell ⟨wb, m, none⟩ (.int .u32 (wI (B0 <<< 24 ||| B1 <<< 16 ||| B2 <<< 8 ||| B3)))).heap[wb]? = some (.cells (wsC (headZ L (m + 1))) 294 (0, 0))) := Lib.hid (by
        have := block_setCell HW1.out (o := m) (.int .u32 (wI (B0 <<< 24 ||| B1 <<< 16 ||| B2 <<< 8 ||| B3)))
        rw [HW4.out] at this ⊢
        rw [wsC_set, headZ_next _ _ (by omega)] at this
        exact this)
      have HB2 : Hid (BlkAt pb rb A9 w (w'.setCell ⟨wb, m, none⟩ (.int .u32 (wI (B0 <<< 24 ||| B1 <<< 16 ||| B2 <<< 8 ||| B3))))) := Lib.hid (HB1.out.set HNE.out.2.2.1 HNE.out.2.2.2.1 HNE.out.2.2.2.2.1)
      clear hE hEw x0 x1 x2 x3 i4 i5 i6 i7 m64 m65
      go_wp2
      go_roundg (16 - (m + 1))
      case rel => exact ⟨m + 1, by omega, by go_num, HW2, HB2⟩
      case measure => omega
    · obtain rfl : m = 16 := by omega
      have i1 : ¬ ((16 : Nat) : Int) < 16 := by decide
      rw [headZ_more] at HW
      go_upto_region 7 with fail
      go_loopg [7, 8, 9] 48 (fun g i _ _ wr => ∃ j : Nat, g + j = 48 ∧ i = .int .i64 ((16 + j : Nat) : Int) ∧ Hid (wr.heap[wb]? = some (.cells (wsC (moreZ L j)) 294 (0, 0))) ∧ Hid (BlkAt pb rb A9 w wr))
      case atStart => exact ⟨0, rfl, rfl, HW, HB⟩
      case round =>
        clear HW HB
        obtain ⟨j, hj, rfl, HW, HB⟩ := hrel
        by_cases hlt : j < 48
        · obtain ⟨t, ht⟩ : ∃ t, 16 + j = t := ⟨_, rfl⟩
          rw [ht]
          have i1 : (t : Int) < 64 := by omega
          obtain ⟨p15, hp15⟩ : ∃ p, t = p + 15 := ⟨t - 15, by omega⟩
          obtain ⟨p2, hp2⟩ : ∃ p, t = p + 2 := ⟨t - 2, by omega⟩
          obtain ⟨p16, hp16⟩ : ∃ p, t = p + 16 := ⟨t - 16, by omega⟩
          obtain ⟨p7, hp7⟩ : ∃ p, t = p + 7 := ⟨t - 7, by omega⟩
          have k15 : IntKind.i64.wrap (((t : Nat) : Int) - 15) = ((p15 : Nat) : Int) := by rw [IntWalk.i64_in _ (by omega)]; omega
          have k2 : IntKind.i64.wrap (((t : Nat) : Int) - 2) = ((p2 : Nat) : Int) := by rw [IntWalk.i64_in _ (by omega)]; omega
          have k16 : IntKind.i64.wrap (((t : Nat) : Int) - 16) = ((p16 : Nat) : Int) := by rw [IntWalk.i64_in _ (by omega)]; omega
          have k7 : IntKind.i64.wrap (((t : Nat) : Int) - 7) = ((p7 : Nat) : Int) := by rw [IntWalk.i64_in _ (by omega)]; omega
          have b15 : ¬ (64 : Int) ≤ (p15 : Int) := by omega
          have b15n : ¬ 64 ≤ p15 := by omega
          have b2 : ¬ (64 : Int) ≤ (p2 : Int) := by omega
          have b2n : ¬ 64 ≤ p2 := by omega
          have b16 : ¬ (64 : Int) ≤ (p16 : Int) := by omega
          have b16n : ¬ 64 ≤ p16 := by omega
          have b7 : ¬ (64 : Int) ≤ (p7 : Int) := by omega
          have b7n : ¬ 64 ≤ p7 := by omega
          have bt : ¬ (64 : Int) ≤ (t : Int) := by omega
          have btn : ¬ 64 ≤ t := by omega
          have hml := moreZ_len L j (by omega)
          have HNX : Hid (nextW (moreW (headW L 16) j) (16 + j) = wth (moreZ L j) p16 + s0W (wth (moreZ L j) p15) + wth (moreZ L j) p7 + s1W (wth (moreZ L j) p2)) := Lib.hid (by
            unfold nextW
            rw [moreZ_at _ _ p16 (by omega), moreZ_at _ _ p15 (by omega), moreZ_at _ _ p7 (by omega), moreZ_at _ _ p2 (by omega), ht, show t - 16 = p16 by omega, show t - 15 = p15 by omega, show t - 7 = p7 by omega, show t - 2 = p2 by omega])
          obtain ⟨W, hW⟩ : ∃ W, wr = W := ⟨_, rfl⟩
          rw [hW] at HW HB ⊢
          obtain ⟨X15, hX15⟩ : ∃ X, wth (moreZ L j) p15 = X := ⟨_, rfl⟩
          obtain ⟨X2, hX2⟩ : ∃ X, wth (moreZ L j) p2 = X := ⟨_, rfl⟩
          obtain ⟨X16, hX16⟩ : ∃ X, wth (moreZ L j) p16 = X := ⟨_, rfl⟩
          obtain ⟨X7, hX7⟩ : ∃ X, wth (moreZ L j) p7 = X := ⟨_, rfl⟩
          have HC : Hid (∀ W9 : World, W9.heap[wb]? = some (.cells (wsC (moreZ L j)) 294 (0, 0)) → W9.cell? ⟨wb, p15, none⟩ = some (.int .u32 (wI X15)) ∧ W9.cell? ⟨wb, p2, none⟩ = some (.int .u32 (wI X2)) ∧ W9.cell? ⟨wb, p16, none⟩ = some (.int .u32 (wI X16)) ∧ W9.cell? ⟨wb, p7, none⟩ = some (.int .u32 (wI X7)) ∧ W9.cell? ⟨wb, t, none⟩ = some (.int .u32 (wI (wth (moreZ L j) t)))) := Lib.hid (fun W9 h9 => by
            refine ⟨?_, ?_, ?_, ?_, ?_⟩
            · rw [block_cell h9, wsC_at _ _ (by rw [hml]; omega), hX15]
            · rw [block_cell h9, wsC_at _ _ (by rw [hml]; omega), hX2]
            · rw [block_cell h9, wsC_at _ _ (by rw [hml]; omega), hX16]
            · rw [block_cell h9, wsC_at _ _ (by rw [hml]; omega), hX7]
            · rw [block_cell h9, wsC_at _ _ (by rw [hml]; omega)])
          rw [hX15, hX2, hX16, hX7] at HNX
          have HT := Lib.hid ht
          have bs3 : (wI X15).fdiv 8 = wI (X15 >>> 3) := bv_shr X15 3
          have bs3m : wI X15 / 8 = wI (X15 >>> 3) := bv_shrm X15 3
          have bs10 : (wI X2).fdiv 1024 = wI (X2 >>> 10) := bv_shr X2 10
          have bs10m : wI X2 / 1024 = wI (X2 >>> 10) := bv_shrm X2 10
          have c15 := (HC.out W HW.out).1
          clear hX15 hX2 hX16 hX7 hW hp15 hp2 hp16 hp7 hml ht
          go_upto_region 9 with fail
          refine wp_region_tail 17 1000 (none) (phis [fun u _ => u = (.int .i64 (t : Nat)), fun u _ => u = (.int .i64 (p15 : Nat)), fun u _ => u = (.pointer (some ⟨wb, p15, none⟩)), fun u _ => u = (.int .u32 (wI X15)), fun u _ => u = (.int .u32 (wI (rotr X15 7))), fun u _ => u = (.int .i64 (t : Nat)), fun u _ => u = (.int .i64 (p15 : Nat)), fun u _ => u = (.pointer (some ⟨wb, p15, none⟩)), fun u _ => u = (.int .u32 (wI X15)), fun u _ => u = (.int .u32 (wI (rotr X15 18))), fun u _ => u = (.int .u32 (wI (rotr X15 7 ^^^ rotr X15 18))), fun u _ => u = (.int .i64 (t : Nat)), fun u _ => u = (.int .i64 (p15 : Nat)), fun u _ => u = (.pointer (some ⟨wb, p15, none⟩)), fun u _ => u = (.int .u32 (wI X15)), fun u _ => u = (.int .u32 (wI (X15 >>> 3))), fun u _ => u = (.int .u32 (wI (rotr X15 7 ^^^ rotr X15 18 ^^^ X15 >>> 3)))]) rfl (by kernel_rfl) (by kernel_rfl) (mono_of ⟨mono_eq, mono_eq, mono_eq, mono_eq, mono_eq, mono_eq, mono_eq, mono_eq, mono_eq, mono_eq, mono_eq, mono_eq, mono_eq, mono_eq, mono_eq, mono_eq, mono_eq, trivial⟩) (steps_of 17 ⟨?s0, ?s1, ?s2, ?s3, ?s4, ?s5, ?s6, ?s7, ?s8, ?s9, ?s10, ?s11, ?s12, ?s13, ?s14, ?s15, ?s16, trivial⟩) ?_
          case s0 =>
            refine step_val (v := (.int .i64 (t : Nat))) (fun av wv hE hS hO hD => ?_) (fun _ => rfl)
            have h7 : av.eval (.tmp 7) = (.int .i64 (t : Nat)) := hO.2.2 7 rfl
            have f7 := (ev_form av 7).symm.trans h7
            refine ⟨rfl, ?_⟩
            simp [go_sem, f7, k15, b15, b15n, bv_xor, bv_shrm, bs3, bs3m]
          case s1 =>
            refine step_val (v := (.int .i64 (p15 : Nat))) (fun av wv hE hS hO hD => ?_) (fun _ => rfl)
            have d61 : av.eval (.tmp 61) = (.int .i64 (t : Nat)) := hD.1 rfl _ rfl
            have f61 := (ev_form av 61).symm.trans d61
            refine ⟨rfl, ?_⟩
            simp [go_sem, f61, k15, b15, b15n, bv_xor, bv_shrm, bs3, bs3m]
          case s2 =>
            refine step_val (v := (.pointer (some ⟨wb, p15, none⟩))) (fun av wv hE hS hO hD => ?_) (fun _ => rfl)
            have h5 : av.eval (.tmp 5) = (.pointer (some ⟨wb, 0, none⟩)) := hO.2.2 5 rfl
            have f5 := (ev_form av 5).symm.trans h5
            have d62 : av.eval (.tmp 62) = (.int .i64 (p15 : Nat)) := hD.1 rfl _ rfl
            have f62 := (ev_form av 62).symm.trans d62
            refine ⟨rfl, ?_⟩
            simp [go_sem, f5, f62, k15, b15, b15n, bv_xor, bv_shrm, bs3, bs3m]
          case s3 =>
            refine step_val (v := (.int .u32 (wI X15))) (fun av wv hE hS hO hD => ?_) (fun _ => rfl)
            have d63 : av.eval (.tmp 63) = (.pointer (some ⟨wb, p15, none⟩)) := hD.1 rfl _ rfl
            have f63 := (ev_form av 63).symm.trans d63
            have c15 := extB_cell hE (by simp) c15
            refine ⟨rfl, ?_⟩
            simp [go_sem, f63, c15, k15, b15, b15n, bv_xor, bv_shrm, bs3, bs3m]
          case s4 =>
            refine step_wp (fun av wv hE hS hO hD => ?_)
            have d64 : av.eval (.tmp 64) = (.int .u32 (wI X15)) := hD.1 rfl _ rfl
            have f64 := (ev_form av 64).symm.trans d64
            refine ⟨rfl, ?_⟩
            refine wp_of_call (v := .int .u32 (wI (rotr X15 7))) (by simp [go_sem, f64]) ((rturned_any X15 7 wv (by decide) (by decide)).mono (fun e w2 ⟨h1, h2⟩ => ⟨h1, h2.below _⟩)) (fun w2 hb => ⟨_, rfl, es_of_ext hb, rfl⟩)
          case s5 =>
            refine step_val (v := (.int .i64 (t : Nat))) (fun av wv hE hS hO hD => ?_) (fun _ => rfl)
            have h7 : av.eval (.tmp 7) = (.int .i64 (t : Nat)) := hO.2.2 7 rfl
            have f7 := (ev_form av 7).symm.trans h7
            refine ⟨rfl, ?_⟩
            simp [go_sem, f7, k15, b15, b15n, bv_xor, bv_shrm, bs3, bs3m]
          case s6 =>
            refine step_val (v := (.int .i64 (p15 : Nat))) (fun av wv hE hS hO hD => ?_) (fun _ => rfl)
            have d66 : av.eval (.tmp 66) = (.int .i64 (t : Nat)) := hD.1 rfl _ rfl
            have f66 := (ev_form av 66).symm.trans d66
            refine ⟨rfl, ?_⟩
            simp [go_sem, f66, k15, b15, b15n, bv_xor, bv_shrm, bs3, bs3m]
          case s7 =>
            refine step_val (v := (.pointer (some ⟨wb, p15, none⟩))) (fun av wv hE hS hO hD => ?_) (fun _ => rfl)
            have h5 : av.eval (.tmp 5) = (.pointer (some ⟨wb, 0, none⟩)) := hO.2.2 5 rfl
            have f5 := (ev_form av 5).symm.trans h5
            have d67 : av.eval (.tmp 67) = (.int .i64 (p15 : Nat)) := hD.1 rfl _ rfl
            have f67 := (ev_form av 67).symm.trans d67
            refine ⟨rfl, ?_⟩
            simp [go_sem, f5, f67, k15, b15, b15n, bv_xor, bv_shrm, bs3, bs3m]
          case s8 =>
            refine step_val (v := (.int .u32 (wI X15))) (fun av wv hE hS hO hD => ?_) (fun _ => rfl)
            have d68 : av.eval (.tmp 68) = (.pointer (some ⟨wb, p15, none⟩)) := hD.1 rfl _ rfl
            have f68 := (ev_form av 68).symm.trans d68
            have c15 := extB_cell hE (by simp) c15
            refine ⟨rfl, ?_⟩
            simp [go_sem, f68, c15, k15, b15, b15n, bv_xor, bv_shrm, bs3, bs3m]
          case s9 =>
            refine step_wp (fun av wv hE hS hO hD => ?_)
            have d69 : av.eval (.tmp 69) = (.int .u32 (wI X15)) := hD.1 rfl _ rfl
            have f69 := (ev_form av 69).symm.trans d69
            refine ⟨rfl, ?_⟩
            refine wp_of_call (v := .int .u32 (wI (rotr X15 18))) (by simp [go_sem, f69]) ((rturned_any X15 18 wv (by decide) (by decide)).mono (fun e w2 ⟨h1, h2⟩ => ⟨h1, h2.below _⟩)) (fun w2 hb => ⟨_, rfl, es_of_ext hb, rfl⟩)
          case s10 =>
            refine step_val (v := (.int .u32 (wI (rotr X15 7 ^^^ rotr X15 18)))) (fun av wv hE hS hO hD => ?_) (fun _ => rfl)
            have d65 : av.eval (.tmp 65) = (.int .u32 (wI (rotr X15 7))) := hD.1 rfl _ rfl
            have f65 := (ev_form av 65).symm.trans d65
            have d70 : av.eval (.tmp 70) = (.int .u32 (wI (rotr X15 18))) := hD.2.1 rfl _ rfl
            have f70 := (ev_form av 70).symm.trans d70
            refine ⟨rfl, ?_⟩
            simp [go_sem, f65, f70, k15, b15, b15n, bv_xor, bv_shrm, bs3, bs3m]
          case s11 =>
            refine step_val (v := (.int .i64 (t : Nat))) (fun av wv hE hS hO hD => ?_) (fun _ => rfl)
            have h7 : av.eval (.tmp 7) = (.int .i64 (t : Nat)) := hO.2.2 7 rfl
            have f7 := (ev_form av 7).symm.trans h7
            refine ⟨rfl, ?_⟩
            simp [go_sem, f7, k15, b15, b15n, bv_xor, bv_shrm, bs3, bs3m]
          case s12 =>
            refine step_val (v := (.int .i64 (p15 : Nat))) (fun av wv hE hS hO hD => ?_) (fun _ => rfl)
            have d72 : av.eval (.tmp 72) = (.int .i64 (t : Nat)) := hD.1 rfl _ rfl
            have f72 := (ev_form av 72).symm.trans d72
            refine ⟨rfl, ?_⟩
            simp [go_sem, f72, k15, b15, b15n, bv_xor, bv_shrm, bs3, bs3m]
          case s13 =>
            refine step_val (v := (.pointer (some ⟨wb, p15, none⟩))) (fun av wv hE hS hO hD => ?_) (fun _ => rfl)
            have h5 : av.eval (.tmp 5) = (.pointer (some ⟨wb, 0, none⟩)) := hO.2.2 5 rfl
            have f5 := (ev_form av 5).symm.trans h5
            have d73 : av.eval (.tmp 73) = (.int .i64 (p15 : Nat)) := hD.1 rfl _ rfl
            have f73 := (ev_form av 73).symm.trans d73
            refine ⟨rfl, ?_⟩
            simp [go_sem, f5, f73, k15, b15, b15n, bv_xor, bv_shrm, bs3, bs3m]
          case s14 =>
            refine step_val (v := (.int .u32 (wI X15))) (fun av wv hE hS hO hD => ?_) (fun _ => rfl)
            have d74 : av.eval (.tmp 74) = (.pointer (some ⟨wb, p15, none⟩)) := hD.1 rfl _ rfl
            have f74 := (ev_form av 74).symm.trans d74
            have c15 := extB_cell hE (by simp) c15
            refine ⟨rfl, ?_⟩
            simp [go_sem, f74, c15, k15, b15, b15n, bv_xor, bv_shrm, bs3, bs3m]
          case s15 =>
            refine step_wp (fun av wv hE hS hO hD => ?_)
            have d75 : av.eval (.tmp 75) = (.int .u32 (wI X15)) := hD.1 rfl _ rfl
            have f75 := (ev_form av 75).symm.trans d75
            refine ⟨rfl, ?_⟩
            exact wp_of_run (v := .int .u32 (wI (X15 >>> 3))) (by simp [go_sem, f75]; exact bs3m) ⟨_, rfl, es_of_ext (Ext_refl _), rfl⟩
          case s16 =>
            refine step_val (v := (.int .u32 (wI (rotr X15 7 ^^^ rotr X15 18 ^^^ X15 >>> 3)))) (fun av wv hE hS hO hD => ?_) (fun _ => rfl)
            have d71 : av.eval (.tmp 71) = (.int .u32 (wI (rotr X15 7 ^^^ rotr X15 18))) := hD.1 rfl _ rfl
            have f71 := (ev_form av 71).symm.trans d71
            have d76 : av.eval (.tmp 76) = (.int .u32 (wI (X15 >>> 3))) := hD.2.1 rfl _ rfl
            have f76 := (ev_form av 76).symm.trans d76
            refine ⟨rfl, ?_⟩
            simp [go_sem, f71, f76, k15, b15, b15n, bv_xor, bv_shrm, bs3, bs3m]
          intro a' w' hE hO hall
          have hA := act_of_outer (ds := [61, 62, 63, 64, 65, 66, 67, 68, 69, 70, 71, 72, 73, 74, 75, 76, 77]) rfl hO (by kernel_rfl)
          have e61 : (fun u _ => u = (.int .i64 (t : Nat))) (a'.eval (.tmp 61)) w' := hall.1 _ rfl
          have e62 : (fun u _ => u = (.int .i64 (p15 : Nat))) (a'.eval (.tmp 62)) w' := hall.2.1 _ rfl
          have e63 : (fun u _ => u = (.pointer (some ⟨wb, p15, none⟩))) (a'.eval (.tmp 63)) w' := hall.2.2.1 _ rfl
          have e64 : (fun u _ => u = (.int .u32 (wI X15))) (a'.eval (.tmp 64)) w' := hall.2.2.2.1 _ rfl
          have e65 : (fun u _ => u = (.int .u32 (wI (rotr X15 7)))) (a'.eval (.tmp 65)) w' := hall.2.2.2.2.1 _ rfl
          have e66 : (fun u _ => u = (.int .i64 (t : Nat))) (a'.eval (.tmp 66)) w' := hall.2.2.2.2.2.1 _ rfl
          have e67 : (fun u _ => u = (.int .i64 (p15 : Nat))) (a'.eval (.tmp 67)) w' := hall.2.2.2.2.2.2.1 _ rfl
          have e68 : (fun u _ => u = (.pointer (some ⟨wb, p15, none⟩))) (a'.eval (.tmp 68)) w' := hall.2.2.2.2.2.2.2.1 _ rfl
          have e69 : (fun u _ => u = (.int .u32 (wI X15))) (a'.eval (.tmp 69)) w' := hall.2.2.2.2.2.2.2.2.1 _ rfl
          have e70 : (fun u _ => u = (.int .u32 (wI (rotr X15 18)))) (a'.eval (.tmp 70)) w' := hall.2.2.2.2.2.2.2.2.2.1 _ rfl
          have e71 : (fun u _ => u = (.int .u32 (wI (rotr X15 7 ^^^ rotr X15 18)))) (a'.eval (.tmp 71)) w' := hall.2.2.2.2.2.2.2.2.2.2.1 _ rfl
          have e72 : (fun u _ => u = (.int .i64 (t : Nat))) (a'.eval (.tmp 72)) w' := hall.2.2.2.2.2.2.2.2.2.2.2.1 _ rfl
          have e73 : (fun u _ => u = (.int .i64 (p15 : Nat))) (a'.eval (.tmp 73)) w' := hall.2.2.2.2.2.2.2.2.2.2.2.2.1 _ rfl
          have e74 : (fun u _ => u = (.pointer (some ⟨wb, p15, none⟩))) (a'.eval (.tmp 74)) w' := hall.2.2.2.2.2.2.2.2.2.2.2.2.2.1 _ rfl
          have e75 : (fun u _ => u = (.int .u32 (wI X15))) (a'.eval (.tmp 75)) w' := hall.2.2.2.2.2.2.2.2.2.2.2.2.2.2.1 _ rfl
          have e76 : (fun u _ => u = (.int .u32 (wI (X15 >>> 3)))) (a'.eval (.tmp 76)) w' := hall.2.2.2.2.2.2.2.2.2.2.2.2.2.2.2.1 _ rfl
          have e77 : (fun u _ => u = (.int .u32 (wI (rotr X15 7 ^^^ rotr X15 18 ^^^ X15 >>> 3)))) (a'.eval (.tmp 77)) w' := hall.2.2.2.2.2.2.2.2.2.2.2.2.2.2.2.2.1 _ rfl
          simp only [List.foldl_cons, List.foldl_nil, Act.put, List.setIfInBounds_toArray, List.set_cons_succ, List.set_cons_zero, e61, e62, e63, e64, e65, e66, e67, e68, e69, e70, e71, e72, e73, e74, e75, e76, e77] at hA
          clear hO hall e61 e62 e63 e64 e65 e66 e67 e68 e69 e70 e71 e72 e73 e74 e75 e76 e77
          subst hA
          have hX := of_drew hE
          have HW := Lib.hid ((hX.block _ (lt_of_block HW.out)).trans HW.out)
          have HB := Lib.hid (HB.out.next hX)
          clear hE hX c15
          obtain ⟨W2, hW2⟩ : ∃ W2, w' = W2 := ⟨_, rfl⟩
          rw [hW2] at HW HB ⊢
          clear hW2 w'
          obtain ⟨Y15, hY15⟩ : ∃ Y, rotr X15 7 ^^^ rotr X15 18 ^^^ X15 >>> 3 = Y := ⟨_, rfl⟩
          rw [hY15]
          have HY15 := Lib.hid hY15
          clear hY15
          have c2 := (HC.out W2 HW.out).2.1
          go_upto_region 10 with fail
          refine wp_region_tail 17 1000 (none) (phis [fun u _ => u = (.int .i64 (t : Nat)), fun u _ => u = (.int .i64 (p2 : Nat)), fun u _ => u = (.pointer (some ⟨wb, p2, none⟩)), fun u _ => u = (.int .u32 (wI X2)), fun u _ => u = (.int .u32 (wI (rotr X2 17))), fun u _ => u = (.int .i64 (t : Nat)), fun u _ => u = (.int .i64 (p2 : Nat)), fun u _ => u = (.pointer (some ⟨wb, p2, none⟩)), fun u _ => u = (.int .u32 (wI X2)), fun u _ => u = (.int .u32 (wI (rotr X2 19))), fun u _ => u = (.int .u32 (wI (rotr X2 17 ^^^ rotr X2 19))), fun u _ => u = (.int .i64 (t : Nat)), fun u _ => u = (.int .i64 (p2 : Nat)), fun u _ => u = (.pointer (some ⟨wb, p2, none⟩)), fun u _ => u = (.int .u32 (wI X2)), fun u _ => u = (.int .u32 (wI (X2 >>> 10))), fun u _ => u = (.int .u32 (wI (rotr X2 17 ^^^ rotr X2 19 ^^^ X2 >>> 10)))]) rfl (by kernel_rfl) (by kernel_rfl) (mono_of ⟨mono_eq, mono_eq, mono_eq, mono_eq, mono_eq, mono_eq, mono_eq, mono_eq, mono_eq, mono_eq, mono_eq, mono_eq, mono_eq, mono_eq, mono_eq, mono_eq, mono_eq, trivial⟩) (steps_of 17 ⟨?s0, ?s1, ?s2, ?s3, ?s4, ?s5, ?s6, ?s7, ?s8, ?s9, ?s10, ?s11, ?s12, ?s13, ?s14, ?s15, ?s16, trivial⟩) ?_
          case s0 =>
            refine step_val (v := (.int .i64 (t : Nat))) (fun av wv hE hS hO hD => ?_) (fun _ => rfl)
            have h7 : av.eval (.tmp 7) = (.int .i64 (t : Nat)) := hO.2.2 7 rfl
            have f7 := (ev_form av 7).symm.trans h7
            refine ⟨rfl, ?_⟩
            simp [go_sem, f7, k2, b2, b2n, bv_xor, bv_shrm, bs10, bs10m]
          case s1 =>
            refine step_val (v := (.int .i64 (p2 : Nat))) (fun av wv hE hS hO hD => ?_) (fun _ => rfl)
            have d78 : av.eval (.tmp 78) = (.int .i64 (t : Nat)) := hD.1 rfl _ rfl
            have f78 := (ev_form av 78).symm.trans d78
            refine ⟨rfl, ?_⟩
            simp [go_sem, f78, k2, b2, b2n, bv_xor, bv_shrm, bs10, bs10m]
          case s2 =>
            refine step_val (v := (.pointer (some ⟨wb, p2, none⟩))) (fun av wv hE hS hO hD => ?_) (fun _ => rfl)
            have h5 : av.eval (.tmp 5) = (.pointer (some ⟨wb, 0, none⟩)) := hO.2.2 5 rfl
            have f5 := (ev_form av 5).symm.trans h5
            have d79 : av.eval (.tmp 79) = (.int .i64 (p2 : Nat)) := hD.1 rfl _ rfl
            have f79 := (ev_form av 79).symm.trans d79
            refine ⟨rfl, ?_⟩
            simp [go_sem, f5, f79, k2, b2, b2n, bv_xor, bv_shrm, bs10, bs10m]
          case s3 =>
            refine step_val (v := (.int .u32 (wI X2))) (fun av wv hE hS hO hD => ?_) (fun _ => rfl)
            have d80 : av.eval (.tmp 80) = (.pointer (some ⟨wb, p2, none⟩)) := hD.1 rfl _ rfl
            have f80 := (ev_form av 80).symm.trans d80
            have c2 := extB_cell hE (by simp) c2
            refine ⟨rfl, ?_⟩
            simp [go_sem, f80, c2, k2, b2, b2n, bv_xor, bv_shrm, bs10, bs10m]
          case s4 =>
            refine step_wp (fun av wv hE hS hO hD => ?_)
            have d81 : av.eval (.tmp 81) = (.int .u32 (wI X2)) := hD.1 rfl _ rfl
            have f81 := (ev_form av 81).symm.trans d81
            refine ⟨rfl, ?_⟩
            refine wp_of_call (v := .int .u32 (wI (rotr X2 17))) (by simp [go_sem, f81]) ((rturned_any X2 17 wv (by decide) (by decide)).mono (fun e w2 ⟨h1, h2⟩ => ⟨h1, h2.below _⟩)) (fun w2 hb => ⟨_, rfl, es_of_ext hb, rfl⟩)
          case s5 =>
            refine step_val (v := (.int .i64 (t : Nat))) (fun av wv hE hS hO hD => ?_) (fun _ => rfl)
            have h7 : av.eval (.tmp 7) = (.int .i64 (t : Nat)) := hO.2.2 7 rfl
            have f7 := (ev_form av 7).symm.trans h7
            refine ⟨rfl, ?_⟩
            simp [go_sem, f7, k2, b2, b2n, bv_xor, bv_shrm, bs10, bs10m]
          case s6 =>
            refine step_val (v := (.int .i64 (p2 : Nat))) (fun av wv hE hS hO hD => ?_) (fun _ => rfl)
            have d83 : av.eval (.tmp 83) = (.int .i64 (t : Nat)) := hD.1 rfl _ rfl
            have f83 := (ev_form av 83).symm.trans d83
            refine ⟨rfl, ?_⟩
            simp [go_sem, f83, k2, b2, b2n, bv_xor, bv_shrm, bs10, bs10m]
          case s7 =>
            refine step_val (v := (.pointer (some ⟨wb, p2, none⟩))) (fun av wv hE hS hO hD => ?_) (fun _ => rfl)
            have h5 : av.eval (.tmp 5) = (.pointer (some ⟨wb, 0, none⟩)) := hO.2.2 5 rfl
            have f5 := (ev_form av 5).symm.trans h5
            have d84 : av.eval (.tmp 84) = (.int .i64 (p2 : Nat)) := hD.1 rfl _ rfl
            have f84 := (ev_form av 84).symm.trans d84
            refine ⟨rfl, ?_⟩
            simp [go_sem, f5, f84, k2, b2, b2n, bv_xor, bv_shrm, bs10, bs10m]
          case s8 =>
            refine step_val (v := (.int .u32 (wI X2))) (fun av wv hE hS hO hD => ?_) (fun _ => rfl)
            have d85 : av.eval (.tmp 85) = (.pointer (some ⟨wb, p2, none⟩)) := hD.1 rfl _ rfl
            have f85 := (ev_form av 85).symm.trans d85
            have c2 := extB_cell hE (by simp) c2
            refine ⟨rfl, ?_⟩
            simp [go_sem, f85, c2, k2, b2, b2n, bv_xor, bv_shrm, bs10, bs10m]
          case s9 =>
            refine step_wp (fun av wv hE hS hO hD => ?_)
            have d86 : av.eval (.tmp 86) = (.int .u32 (wI X2)) := hD.1 rfl _ rfl
            have f86 := (ev_form av 86).symm.trans d86
            refine ⟨rfl, ?_⟩
            refine wp_of_call (v := .int .u32 (wI (rotr X2 19))) (by simp [go_sem, f86]) ((rturned_any X2 19 wv (by decide) (by decide)).mono (fun e w2 ⟨h1, h2⟩ => ⟨h1, h2.below _⟩)) (fun w2 hb => ⟨_, rfl, es_of_ext hb, rfl⟩)
          case s10 =>
            refine step_val (v := (.int .u32 (wI (rotr X2 17 ^^^ rotr X2 19)))) (fun av wv hE hS hO hD => ?_) (fun _ => rfl)
            have d82 : av.eval (.tmp 82) = (.int .u32 (wI (rotr X2 17))) := hD.1 rfl _ rfl
            have f82 := (ev_form av 82).symm.trans d82
            have d87 : av.eval (.tmp 87) = (.int .u32 (wI (rotr X2 19))) := hD.2.1 rfl _ rfl
            have f87 := (ev_form av 87).symm.trans d87
            refine ⟨rfl, ?_⟩
            simp [go_sem, f82, f87, k2, b2, b2n, bv_xor, bv_shrm, bs10, bs10m]
          case s11 =>
            refine step_val (v := (.int .i64 (t : Nat))) (fun av wv hE hS hO hD => ?_) (fun _ => rfl)
            have h7 : av.eval (.tmp 7) = (.int .i64 (t : Nat)) := hO.2.2 7 rfl
            have f7 := (ev_form av 7).symm.trans h7
            refine ⟨rfl, ?_⟩
            simp [go_sem, f7, k2, b2, b2n, bv_xor, bv_shrm, bs10, bs10m]
          case s12 =>
            refine step_val (v := (.int .i64 (p2 : Nat))) (fun av wv hE hS hO hD => ?_) (fun _ => rfl)
            have d89 : av.eval (.tmp 89) = (.int .i64 (t : Nat)) := hD.1 rfl _ rfl
            have f89 := (ev_form av 89).symm.trans d89
            refine ⟨rfl, ?_⟩
            simp [go_sem, f89, k2, b2, b2n, bv_xor, bv_shrm, bs10, bs10m]
          case s13 =>
            refine step_val (v := (.pointer (some ⟨wb, p2, none⟩))) (fun av wv hE hS hO hD => ?_) (fun _ => rfl)
            have h5 : av.eval (.tmp 5) = (.pointer (some ⟨wb, 0, none⟩)) := hO.2.2 5 rfl
            have f5 := (ev_form av 5).symm.trans h5
            have d90 : av.eval (.tmp 90) = (.int .i64 (p2 : Nat)) := hD.1 rfl _ rfl
            have f90 := (ev_form av 90).symm.trans d90
            refine ⟨rfl, ?_⟩
            simp [go_sem, f5, f90, k2, b2, b2n, bv_xor, bv_shrm, bs10, bs10m]
          case s14 =>
            refine step_val (v := (.int .u32 (wI X2))) (fun av wv hE hS hO hD => ?_) (fun _ => rfl)
            have d91 : av.eval (.tmp 91) = (.pointer (some ⟨wb, p2, none⟩)) := hD.1 rfl _ rfl
            have f91 := (ev_form av 91).symm.trans d91
            have c2 := extB_cell hE (by simp) c2
            refine ⟨rfl, ?_⟩
            simp [go_sem, f91, c2, k2, b2, b2n, bv_xor, bv_shrm, bs10, bs10m]
          case s15 =>
            refine step_wp (fun av wv hE hS hO hD => ?_)
            have d92 : av.eval (.tmp 92) = (.int .u32 (wI X2)) := hD.1 rfl _ rfl
            have f92 := (ev_form av 92).symm.trans d92
            refine ⟨rfl, ?_⟩
            exact wp_of_run (v := .int .u32 (wI (X2 >>> 10))) (by simp [go_sem, f92]; exact bs10m) ⟨_, rfl, es_of_ext (Ext_refl _), rfl⟩
          case s16 =>
            refine step_val (v := (.int .u32 (wI (rotr X2 17 ^^^ rotr X2 19 ^^^ X2 >>> 10)))) (fun av wv hE hS hO hD => ?_) (fun _ => rfl)
            have d88 : av.eval (.tmp 88) = (.int .u32 (wI (rotr X2 17 ^^^ rotr X2 19))) := hD.1 rfl _ rfl
            have f88 := (ev_form av 88).symm.trans d88
            have d93 : av.eval (.tmp 93) = (.int .u32 (wI (X2 >>> 10))) := hD.2.1 rfl _ rfl
            have f93 := (ev_form av 93).symm.trans d93
            refine ⟨rfl, ?_⟩
            simp [go_sem, f88, f93, k2, b2, b2n, bv_xor, bv_shrm, bs10, bs10m]
          intro a' w' hE hO hall
          have hA := act_of_outer (ds := [78, 79, 80, 81, 82, 83, 84, 85, 86, 87, 88, 89, 90, 91, 92, 93, 94]) rfl hO (by kernel_rfl)
          have e78 : (fun u _ => u = (.int .i64 (t : Nat))) (a'.eval (.tmp 78)) w' := hall.1 _ rfl
          have e79 : (fun u _ => u = (.int .i64 (p2 : Nat))) (a'.eval (.tmp 79)) w' := hall.2.1 _ rfl
          have e80 : (fun u _ => u = (.pointer (some ⟨wb, p2, none⟩))) (a'.eval (.tmp 80)) w' := hall.2.2.1 _ rfl
          have e81 : (fun u _ => u = (.int .u32 (wI X2))) (a'.eval (.tmp 81)) w' := hall.2.2.2.1 _ rfl
          have e82 : (fun u _ => u = (.int .u32 (wI (rotr X2 17)))) (a'.eval (.tmp 82)) w' := hall.2.2.2.2.1 _ rfl
          have e83 : (fun u _ => u = (.int .i64 (t : Nat))) (a'.eval (.tmp 83)) w' := hall.2.2.2.2.2.1 _ rfl
          have e84 : (fun u _ => u = (.int .i64 (p2 : Nat))) (a'.eval (.tmp 84)) w' := hall.2.2.2.2.2.2.1 _ rfl
          have e85 : (fun u _ => u = (.pointer (some ⟨wb, p2, none⟩))) (a'.eval (.tmp 85)) w' := hall.2.2.2.2.2.2.2.1 _ rfl
          have e86 : (fun u _ => u = (.int .u32 (wI X2))) (a'.eval (.tmp 86)) w' := hall.2.2.2.2.2.2.2.2.1 _ rfl
          have e87 : (fun u _ => u = (.int .u32 (wI (rotr X2 19)))) (a'.eval (.tmp 87)) w' := hall.2.2.2.2.2.2.2.2.2.1 _ rfl
          have e88 : (fun u _ => u = (.int .u32 (wI (rotr X2 17 ^^^ rotr X2 19)))) (a'.eval (.tmp 88)) w' := hall.2.2.2.2.2.2.2.2.2.2.1 _ rfl
          have e89 : (fun u _ => u = (.int .i64 (t : Nat))) (a'.eval (.tmp 89)) w' := hall.2.2.2.2.2.2.2.2.2.2.2.1 _ rfl
          have e90 : (fun u _ => u = (.int .i64 (p2 : Nat))) (a'.eval (.tmp 90)) w' := hall.2.2.2.2.2.2.2.2.2.2.2.2.1 _ rfl
          have e91 : (fun u _ => u = (.pointer (some ⟨wb, p2, none⟩))) (a'.eval (.tmp 91)) w' := hall.2.2.2.2.2.2.2.2.2.2.2.2.2.1 _ rfl
          have e92 : (fun u _ => u = (.int .u32 (wI X2))) (a'.eval (.tmp 92)) w' := hall.2.2.2.2.2.2.2.2.2.2.2.2.2.2.1 _ rfl
          have e93 : (fun u _ => u = (.int .u32 (wI (X2 >>> 10)))) (a'.eval (.tmp 93)) w' := hall.2.2.2.2.2.2.2.2.2.2.2.2.2.2.2.1 _ rfl
          have e94 : (fun u _ => u = (.int .u32 (wI (rotr X2 17 ^^^ rotr X2 19 ^^^ X2 >>> 10)))) (a'.eval (.tmp 94)) w' := hall.2.2.2.2.2.2.2.2.2.2.2.2.2.2.2.2.1 _ rfl
          simp only [List.foldl_cons, List.foldl_nil, Act.put, List.setIfInBounds_toArray, List.set_cons_succ, List.set_cons_zero, e78, e79, e80, e81, e82, e83, e84, e85, e86, e87, e88, e89, e90, e91, e92, e93, e94] at hA
          clear hO hall e78 e79 e80 e81 e82 e83 e84 e85 e86 e87 e88 e89 e90 e91 e92 e93 e94
          subst hA
          have hX := of_drew hE
          have HW := Lib.hid ((hX.block _ (lt_of_block HW.out)).trans HW.out)
          have HB := Lib.hid (HB.out.next hX)
          clear hE hX c2
          obtain ⟨W3, hW3⟩ : ∃ W3, w' = W3 := ⟨_, rfl⟩
          rw [hW3] at HW HB ⊢
          clear hW3 w'
          obtain ⟨Y2, hY2⟩ : ∃ Y, rotr X2 17 ^^^ rotr X2 19 ^^^ X2 >>> 10 = Y := ⟨_, rfl⟩
          rw [hY2]
          have HY2 := Lib.hid hY2
          clear hY2
          have c16 := (HC.out W3 HW.out).2.2.1
          have c7 := (HC.out W3 HW.out).2.2.2.1
          go_upto_region 11 with fail
          refine wp_region_tail 15 1000 (none) (phis [fun u _ => u = (.int .i64 (t : Nat)), fun u _ => u = (.int .i64 (t : Nat)), fun u _ => u = (.int .i64 (p16 : Nat)), fun u _ => u = (.pointer (some ⟨wb, p16, none⟩)), fun u _ => u = (.int .u32 (wI X16)), fun u _ => u = (.int .u32 (wI Y15)), fun u _ => u = (.int .u32 (wI (X16 + Y15))), fun u _ => u = (.int .i64 (t : Nat)), fun u _ => u = (.int .i64 (p7 : Nat)), fun u _ => u = (.pointer (some ⟨wb, p7, none⟩)), fun u _ => u = (.int .u32 (wI X7)), fun u _ => u = (.int .u32 (wI (X16 + Y15 + X7))), fun u _ => u = (.int .u32 (wI Y2)), fun u _ => u = (.int .u32 (wI (X16 + Y15 + X7 + Y2))), fun u _ => u = (.pointer (some ⟨wb, t, none⟩))]) rfl (by kernel_rfl) (by kernel_rfl) (mono_of ⟨mono_eq, mono_eq, mono_eq, mono_eq, mono_eq, mono_eq, mono_eq, mono_eq, mono_eq, mono_eq, mono_eq, mono_eq, mono_eq, mono_eq, mono_eq, trivial⟩) (steps_of 15 ⟨?s0, ?s1, ?s2, ?s3, ?s4, ?s5, ?s6, ?s7, ?s8, ?s9, ?s10, ?s11, ?s12, ?s13, ?s14, trivial⟩) ?_
          case s0 =>
            refine step_val (v := (.int .i64 (t : Nat))) (fun av wv hE hS hO hD => ?_) (fun _ => rfl)
            have h7 : av.eval (.tmp 7) = (.int .i64 (t : Nat)) := hO.2.2 7 rfl
            have f7 := (ev_form av 7).symm.trans h7
            refine ⟨rfl, ?_⟩
            simp [go_sem, f7, k16, k7, b16, b16n, b7, b7n, bt, btn, bv_add, bv_addm]
          case s1 =>
            refine step_val (v := (.int .i64 (t : Nat))) (fun av wv hE hS hO hD => ?_) (fun _ => rfl)
            have h7 : av.eval (.tmp 7) = (.int .i64 (t : Nat)) := hO.2.2 7 rfl
            have f7 := (ev_form av 7).symm.trans h7
            refine ⟨rfl, ?_⟩
            simp [go_sem, f7, k16, k7, b16, b16n, b7, b7n, bt, btn, bv_add, bv_addm]
          case s2 =>
            refine step_val (v := (.int .i64 (p16 : Nat))) (fun av wv hE hS hO hD => ?_) (fun _ => rfl)
            have d96 : av.eval (.tmp 96) = (.int .i64 (t : Nat)) := hD.1 rfl _ rfl
            have f96 := (ev_form av 96).symm.trans d96
            refine ⟨rfl, ?_⟩
            simp [go_sem, f96, k16, k7, b16, b16n, b7, b7n, bt, btn, bv_add, bv_addm]
          case s3 =>
            refine step_val (v := (.pointer (some ⟨wb, p16, none⟩))) (fun av wv hE hS hO hD => ?_) (fun _ => rfl)
            have h5 : av.eval (.tmp 5) = (.pointer (some ⟨wb, 0, none⟩)) := hO.2.2 5 rfl
            have f5 := (ev_form av 5).symm.trans h5
            have d97 : av.eval (.tmp 97) = (.int .i64 (p16 : Nat)) := hD.1 rfl _ rfl
            have f97 := (ev_form av 97).symm.trans d97
            refine ⟨rfl, ?_⟩
            simp [go_sem, f5, f97, k16, k7, b16, b16n, b7, b7n, bt, btn, bv_add, bv_addm]
          case s4 =>
            refine step_val (v := (.int .u32 (wI X16))) (fun av wv hE hS hO hD => ?_) (fun _ => rfl)
            have d98 : av.eval (.tmp 98) = (.pointer (some ⟨wb, p16, none⟩)) := hD.1 rfl _ rfl
            have f98 := (ev_form av 98).symm.trans d98
            have c16 := extB_cell hE (by simp) c16
            have c7 := extB_cell hE (by simp) c7
            refine ⟨rfl, ?_⟩
            simp [go_sem, f98, c16, c7, k16, k7, b16, b16n, b7, b7n, bt, btn, bv_add, bv_addm]
          case s5 =>
            refine step_val (v := (.int .u32 (wI Y15))) (fun av wv hE hS hO hD => ?_) (fun _ => rfl)
            have h8 : av.eval (.tmp 8) = (.int .u32 (wI Y15)) := hO.2.2 8 rfl
            have f8 := (ev_form av 8).symm.trans h8
            refine ⟨rfl, ?_⟩
            simp [go_sem, f8, k16, k7, b16, b16n, b7, b7n, bt, btn, bv_add, bv_addm]
          case s6 =>
            refine step_val (v := (.int .u32 (wI (X16 + Y15)))) (fun av wv hE hS hO hD => ?_) (fun _ => rfl)
            have d99 : av.eval (.tmp 99) = (.int .u32 (wI X16)) := hD.1 rfl _ rfl
            have f99 := (ev_form av 99).symm.trans d99
            have d100 : av.eval (.tmp 100) = (.int .u32 (wI Y15)) := hD.2.1 rfl _ rfl
            have f100 := (ev_form av 100).symm.trans d100
            refine ⟨rfl, ?_⟩
            simp [go_sem, f99, f100, k16, k7, b16, b16n, b7, b7n, bt, btn, bv_add, bv_addm]
          case s7 =>
            refine step_val (v := (.int .i64 (t : Nat))) (fun av wv hE hS hO hD => ?_) (fun _ => rfl)
            have h7 : av.eval (.tmp 7) = (.int .i64 (t : Nat)) := hO.2.2 7 rfl
            have f7 := (ev_form av 7).symm.trans h7
            refine ⟨rfl, ?_⟩
            simp [go_sem, f7, k16, k7, b16, b16n, b7, b7n, bt, btn, bv_add, bv_addm]
          case s8 =>
            refine step_val (v := (.int .i64 (p7 : Nat))) (fun av wv hE hS hO hD => ?_) (fun _ => rfl)
            have d102 : av.eval (.tmp 102) = (.int .i64 (t : Nat)) := hD.1 rfl _ rfl
            have f102 := (ev_form av 102).symm.trans d102
            refine ⟨rfl, ?_⟩
            simp [go_sem, f102, k16, k7, b16, b16n, b7, b7n, bt, btn, bv_add, bv_addm]
          case s9 =>
            refine step_val (v := (.pointer (some ⟨wb, p7, none⟩))) (fun av wv hE hS hO hD => ?_) (fun _ => rfl)
            have h5 : av.eval (.tmp 5) = (.pointer (some ⟨wb, 0, none⟩)) := hO.2.2 5 rfl
            have f5 := (ev_form av 5).symm.trans h5
            have d103 : av.eval (.tmp 103) = (.int .i64 (p7 : Nat)) := hD.1 rfl _ rfl
            have f103 := (ev_form av 103).symm.trans d103
            refine ⟨rfl, ?_⟩
            simp [go_sem, f5, f103, k16, k7, b16, b16n, b7, b7n, bt, btn, bv_add, bv_addm]
          case s10 =>
            refine step_val (v := (.int .u32 (wI X7))) (fun av wv hE hS hO hD => ?_) (fun _ => rfl)
            have d104 : av.eval (.tmp 104) = (.pointer (some ⟨wb, p7, none⟩)) := hD.1 rfl _ rfl
            have f104 := (ev_form av 104).symm.trans d104
            have c16 := extB_cell hE (by simp) c16
            have c7 := extB_cell hE (by simp) c7
            refine ⟨rfl, ?_⟩
            simp [go_sem, f104, c16, c7, k16, k7, b16, b16n, b7, b7n, bt, btn, bv_add, bv_addm]
          case s11 =>
            refine step_val (v := (.int .u32 (wI (X16 + Y15 + X7)))) (fun av wv hE hS hO hD => ?_) (fun _ => rfl)
            have d101 : av.eval (.tmp 101) = (.int .u32 (wI (X16 + Y15))) := hD.1 rfl _ rfl
            have f101 := (ev_form av 101).symm.trans d101
            have d105 : av.eval (.tmp 105) = (.int .u32 (wI X7)) := hD.2.1 rfl _ rfl
            have f105 := (ev_form av 105).symm.trans d105
            refine ⟨rfl, ?_⟩
            simp [go_sem, f101, f105, k16, k7, b16, b16n, b7, b7n, bt, btn, bv_add, bv_addm]
          case s12 =>
            refine step_val (v := (.int .u32 (wI Y2))) (fun av wv hE hS hO hD => ?_) (fun _ => rfl)
            have h9 : av.eval (.tmp 9) = (.int .u32 (wI Y2)) := hO.2.2 9 rfl
            have f9 := (ev_form av 9).symm.trans h9
            refine ⟨rfl, ?_⟩
            simp [go_sem, f9, k16, k7, b16, b16n, b7, b7n, bt, btn, bv_add, bv_addm]
          case s13 =>
            refine step_val (v := (.int .u32 (wI (X16 + Y15 + X7 + Y2)))) (fun av wv hE hS hO hD => ?_) (fun _ => rfl)
            have d106 : av.eval (.tmp 106) = (.int .u32 (wI (X16 + Y15 + X7))) := hD.1 rfl _ rfl
            have f106 := (ev_form av 106).symm.trans d106
            have d107 : av.eval (.tmp 107) = (.int .u32 (wI Y2)) := hD.2.1 rfl _ rfl
            have f107 := (ev_form av 107).symm.trans d107
            refine ⟨rfl, ?_⟩
            simp [go_sem, f106, f107, k16, k7, b16, b16n, b7, b7n, bt, btn, bv_add, bv_addm]
          case s14 =>
            refine step_val (v := (.pointer (some ⟨wb, t, none⟩))) (fun av wv hE hS hO hD => ?_) (fun _ => rfl)
            have h5 : av.eval (.tmp 5) = (.pointer (some ⟨wb, 0, none⟩)) := hO.2.2 5 rfl
            have f5 := (ev_form av 5).symm.trans h5
            have d95 : av.eval (.tmp 95) = (.int .i64 (t : Nat)) := hD.1 rfl _ rfl
            have f95 := (ev_form av 95).symm.trans d95
            refine ⟨rfl, ?_⟩
            simp [go_sem, f5, f95, k16, k7, b16, b16n, b7, b7n, bt, btn, bv_add, bv_addm]
          intro a' w' hE hO hall
          have hA := act_of_outer (ds := [95, 96, 97, 98, 99, 100, 101, 102, 103, 104, 105, 106, 107, 108, 109]) rfl hO (by kernel_rfl)
          have e95 : (fun u _ => u = (.int .i64 (t : Nat))) (a'.eval (.tmp 95)) w' := hall.1 _ rfl
          have e96 : (fun u _ => u = (.int .i64 (t : Nat))) (a'.eval (.tmp 96)) w' := hall.2.1 _ rfl
          have e97 : (fun u _ => u = (.int .i64 (p16 : Nat))) (a'.eval (.tmp 97)) w' := hall.2.2.1 _ rfl
          have e98 : (fun u _ => u = (.pointer (some ⟨wb, p16, none⟩))) (a'.eval (.tmp 98)) w' := hall.2.2.2.1 _ rfl
          have e99 : (fun u _ => u = (.int .u32 (wI X16))) (a'.eval (.tmp 99)) w' := hall.2.2.2.2.1 _ rfl
          have e100 : (fun u _ => u = (.int .u32 (wI Y15))) (a'.eval (.tmp 100)) w' := hall.2.2.2.2.2.1 _ rfl
          have e101 : (fun u _ => u = (.int .u32 (wI (X16 + Y15)))) (a'.eval (.tmp 101)) w' := hall.2.2.2.2.2.2.1 _ rfl
          have e102 : (fun u _ => u = (.int .i64 (t : Nat))) (a'.eval (.tmp 102)) w' := hall.2.2.2.2.2.2.2.1 _ rfl
          have e103 : (fun u _ => u = (.int .i64 (p7 : Nat))) (a'.eval (.tmp 103)) w' := hall.2.2.2.2.2.2.2.2.1 _ rfl
          have e104 : (fun u _ => u = (.pointer (some ⟨wb, p7, none⟩))) (a'.eval (.tmp 104)) w' := hall.2.2.2.2.2.2.2.2.2.1 _ rfl
          have e105 : (fun u _ => u = (.int .u32 (wI X7))) (a'.eval (.tmp 105)) w' := hall.2.2.2.2.2.2.2.2.2.2.1 _ rfl
          have e106 : (fun u _ => u = (.int .u32 (wI (X16 + Y15 + X7)))) (a'.eval (.tmp 106)) w' := hall.2.2.2.2.2.2.2.2.2.2.2.1 _ rfl
          have e107 : (fun u _ => u = (.int .u32 (wI Y2))) (a'.eval (.tmp 107)) w' := hall.2.2.2.2.2.2.2.2.2.2.2.2.1 _ rfl
          have e108 : (fun u _ => u = (.int .u32 (wI (X16 + Y15 + X7 + Y2)))) (a'.eval (.tmp 108)) w' := hall.2.2.2.2.2.2.2.2.2.2.2.2.2.1 _ rfl
          have e109 : (fun u _ => u = (.pointer (some ⟨wb, t, none⟩))) (a'.eval (.tmp 109)) w' := hall.2.2.2.2.2.2.2.2.2.2.2.2.2.2.1 _ rfl
          simp only [List.foldl_cons, List.foldl_nil, Act.put, List.setIfInBounds_toArray, List.set_cons_succ, List.set_cons_zero, e95, e96, e97, e98, e99, e100, e101, e102, e103, e104, e105, e106, e107, e108, e109] at hA
          clear hO hall e95 e96 e97 e98 e99 e100 e101 e102 e103 e104 e105 e106 e107 e108 e109
          subst hA
          have hX := of_drew hE
          have HW := Lib.hid ((hX.block _ (lt_of_block HW.out)).trans HW.out)
          have HB := Lib.hid (HB.out.next hX)
          clear hE hX c16 c7
          obtain ⟨W4, hW4⟩ : ∃ W4, w' = W4 := ⟨_, rfl⟩
          rw [hW4] at HW HB ⊢
          clear hW4 w'
          have c0 := (HC.out W4 HW.out).2.2.2.2
          have f0 : W4.frozen? ⟨wb, t, none⟩ = false := block_free HW.out t
          have l0 : wb < W4.heap.size := lt_of_block HW.out
          clear k15 k2 k16 k7 b15 b15n b2 b2n b16 b16n b7 b7n bt btn bs3 bs3m bs10 bs10m
          have iw : IntKind.i64.wrap (((t : Nat) : Int) + 1) = ((t : Nat) : Int) + 1 := IntWalk.i64_in _ (by omega)
          go_wp2
          go_roundg (48 - (j + 1))
          case rel => exact ⟨j + 1, by omega, by have := HT.out; congr 1; omega, Lib.hid (by
            have h9 := block_setCell HW.out (o := t) (wV (X16 + Y15 + X7 + Y2))
            rw [wsC_set] at h9
            rw [← moreZ_next L j hlt, HNX.out, HT.out]
            unfold s0W s1W
            rw [HY15.out, HY2.out]
            exact h9), Lib.hid (HB.out.set HNE.out.2.2.1 HNE.out.2.2.2.1 HNE.out.2.2.2.2.1)⟩
          case measure => omega
        · obtain rfl : j = 48 := by omega
          have i1 : ¬ ((16 + 48 : Nat) : Int) < 64 := by decide
          clear hj hlt i1
          obtain ⟨Ws, hWs⟩ : ∃ Ws, moreW (headW L 16) 48 = Ws := ⟨_, rfl⟩
          have HWL : Hid (Ws.length = 64) := Lib.hid (by rw [← hWs, moreW_len, headW_len])
          have HWS := Lib.hid hWs
          have HW : Hid (wr.heap[wb]? = some (.cells (wsC Ws) 294 (0, 0))) := Lib.hid (by
            have e9 : moreZ L 48 = Ws := by rw [← hWs]; unfold moreZ; rw [Nat.sub_self, List.replicate_zero, List.append_nil]
            rw [← e9]; exact HW.out)
          clear hWs
          have i1 : ¬ ((16 + 48 : Nat) : Int) < 64 := by decide
          go_upto_region 12 with fail
          go_wp2_with fail
          refine (rconsts_any wr).mono ?_
          rintro e w2 ⟨rfl, hb2⟩
          have HW2 := Lib.hid ((hb2.block _ (lt_of_block HW.out)).trans HW.out)
          have HB2 := Lib.hid (HB.out.next hb2)
          obtain ⟨KC, hKC⟩ : ∃ KC, wsC kW = KC := ⟨_, rfl⟩
          have HKC := Lib.hid hKC
          have HKS : Hid (KC.size = 64) := Lib.hid (by rw [← hKC]; rfl)
          have HON : Hid (KC.all (·.oneCell') = true) := Lib.hid (by rw [← hKC]; kernel_rfl)
          have HI : Hid ((Tryz.prog.info? 294).map (·.size) = some KC.size) := Lib.hid (by rw [HKS.out]; kernel_rfl)
          rw [hKC]
          clear hb2 hKC HW HB
          go_upto_region 13 with (first | (refine wpList_store_row ?_ 294 (.tmp 10) (.tmp 110) ?_ w2.heap.size KC ?_ ?_ 294 _ (heap_alloc_new _ _) HI.out ?_ HON.out ?_; rfl; rfl; rfl; rfl; (rw [HKS.out]; rfl); skip))
          have HKB : Hid (w.heap.size ≤ w2.heap.size ∧ pb < w2.heap.size ∧ rb < w2.heap.size ∧ wb < w2.heap.size) := Lib.hid ⟨HB2.out.below.size, lt_of_block HB2.out.p, lt_of_block HB2.out.r, lt_of_block HW2.out⟩
          change Code.wp _ _ _ _ ((w2.alloc (.cells (wsC zeroW) 294)).setRow w2.heap.size KC)
          obtain ⟨V, hV⟩ : ∃ V, (w2.alloc (.cells (wsC zeroW) 294)).setRow w2.heap.size KC = V := ⟨_, rfl⟩
          rw [hV]
          obtain ⟨kb, hkb⟩ : ∃ kb, w2.heap.size = kb := ⟨_, rfl⟩
          rw [hkb] at hV HKB ⊢
          have HVK : Hid (V.heap[kb]? = some (.cells (wsC kW) 294 (0, 0))) := Lib.hid (by rw [HKC.out, ← hV]; exact setRow_heap _ _ _ _ _ _ (by rw [← hkb]; exact heap_alloc_new _ _))
          have HVO : ∀ b c, b < kb → w2.heap[b]? = some c → V.heap[b]? = some c := fun b c hb hc => by
            rw [← hV, setRow_other _ _ _ _ (show b ≠ kb by omega)]
            exact block_alloc hc _
          have HVS : w2.heap.size ≤ V.heap.size := by rw [← hV, setRow_size]; exact (balloc (Below.refl _ w2) _).size
          have HVB : Hid (Below w.heap.size w V) := Lib.hid (by
            have h1 : Below w.heap.size w (w2.alloc (.cells (wsC zeroW) 294)) := balloc HB2.out.below _
            rw [← hV]
            exact ⟨h1.os, h1.tape, h1.output, by rw [setRow_size]; exact h1.size, fun i hi => by rw [setRow_other _ _ _ _ (show i ≠ kb by have := HKB.out; omega)]; exact h1.block i hi⟩)
          have HVW := Lib.hid (HVO wb _ HKB.out.2.2.2 HW2.out)
          have HVA : Hid (BlkAt pb rb A9 w V) := Lib.hid ⟨HVB.out, HVO pb _ HKB.out.2.1 HB2.out.p, HVO rb _ HKB.out.2.2.1 HB2.out.r⟩
          clear hV hkb HVO HVS HVB HB2 HW2 HI HON HKS
          have p0 : V.cell? ⟨pb, 0, none⟩ = some (.int .u32 (wI v.a)) := (block_cell HVA.out.p 0).trans (by rw [← HA9.out]; rfl)
          have p1 : V.cell? ⟨pb, 1, none⟩ = some (.int .u32 (wI v.b)) := (block_cell HVA.out.p 1).trans (by rw [← HA9.out]; rfl)
          have p2 : V.cell? ⟨pb, 2, none⟩ = some (.int .u32 (wI v.c)) := (block_cell HVA.out.p 2).trans (by rw [← HA9.out]; rfl)
          have p3 : V.cell? ⟨pb, 3, none⟩ = some (.int .u32 (wI v.d)) := (block_cell HVA.out.p 3).trans (by rw [← HA9.out]; rfl)
          refine wp_region_all 1000 (none) (phis [fun u _ => u = (.pointer (some ⟨pb, 0, none⟩)), fun u _ => u = (.int .u32 (wI v.a)), fun u _ => u = (.pointer (some ⟨pb, 1, none⟩)), fun u _ => u = (.int .u32 (wI v.b)), fun u _ => u = (.pointer (some ⟨pb, 2, none⟩)), fun u _ => u = (.int .u32 (wI v.c)), fun u _ => u = (.pointer (some ⟨pb, 3, none⟩)), fun u _ => u = (.int .u32 (wI v.d)), fun u _ => u = (.int .u32 (wI v.a)), fun u _ => u = (.int .u32 (wI v.b)), fun u _ => u = (.int .u32 (wI v.c)), fun u _ => u = (.int .u32 (wI v.d))]) rfl (by kernel_rfl) (mono_of ⟨mono_eq, mono_eq, mono_eq, mono_eq, mono_eq, mono_eq, mono_eq, mono_eq, mono_eq, mono_eq, mono_eq, mono_eq, trivial⟩) (steps_of 12 ⟨?s0, ?s1, ?s2, ?s3, ?s4, ?s5, ?s6, ?s7, ?s8, ?s9, ?s10, ?s11, trivial⟩) ?_
          case s0 =>
            refine step_val (v := (.pointer (some ⟨pb, 0, none⟩))) (fun av wv hE hS hO hD => ?_) (fun _ => rfl)
            have h2 : av.eval (.tmp 2) = (.pointer (some ⟨pb, 0, none⟩)) := hO.2.2 2 rfl
            have f2 := (ev_form av 2).symm.trans h2
            refine ⟨rfl, ?_⟩
            simp [go_sem, f2]
          case s1 =>
            refine step_val (v := (.int .u32 (wI v.a))) (fun av wv hE hS hO hD => ?_) (fun _ => rfl)
            have d111 : av.eval (.tmp 111) = (.pointer (some ⟨pb, 0, none⟩)) := hD.1 rfl _ rfl
            have f111 := (ev_form av 111).symm.trans d111
            have p0 := extB_cell hE (by simp) p0
            have p1 := extB_cell hE (by simp) p1
            have p2 := extB_cell hE (by simp) p2
            have p3 := extB_cell hE (by simp) p3
            refine ⟨rfl, ?_⟩
            simp [go_sem, f111, p0, p1, p2, p3]
          case s2 =>
            refine step_val (v := (.pointer (some ⟨pb, 1, none⟩))) (fun av wv hE hS hO hD => ?_) (fun _ => rfl)
            have h2 : av.eval (.tmp 2) = (.pointer (some ⟨pb, 0, none⟩)) := hO.2.2 2 rfl
            have f2 := (ev_form av 2).symm.trans h2
            refine ⟨rfl, ?_⟩
            simp [go_sem, f2]
          case s3 =>
            refine step_val (v := (.int .u32 (wI v.b))) (fun av wv hE hS hO hD => ?_) (fun _ => rfl)
            have d113 : av.eval (.tmp 113) = (.pointer (some ⟨pb, 1, none⟩)) := hD.1 rfl _ rfl
            have f113 := (ev_form av 113).symm.trans d113
            have p0 := extB_cell hE (by simp) p0
            have p1 := extB_cell hE (by simp) p1
            have p2 := extB_cell hE (by simp) p2
            have p3 := extB_cell hE (by simp) p3
            refine ⟨rfl, ?_⟩
            simp [go_sem, f113, p0, p1, p2, p3]
          case s4 =>
            refine step_val (v := (.pointer (some ⟨pb, 2, none⟩))) (fun av wv hE hS hO hD => ?_) (fun _ => rfl)
            have h2 : av.eval (.tmp 2) = (.pointer (some ⟨pb, 0, none⟩)) := hO.2.2 2 rfl
            have f2 := (ev_form av 2).symm.trans h2
            refine ⟨rfl, ?_⟩
            simp [go_sem, f2]
          case s5 =>
            refine step_val (v := (.int .u32 (wI v.c))) (fun av wv hE hS hO hD => ?_) (fun _ => rfl)
            have d115 : av.eval (.tmp 115) = (.pointer (some ⟨pb, 2, none⟩)) := hD.1 rfl _ rfl
            have f115 := (ev_form av 115).symm.trans d115
            have p0 := extB_cell hE (by simp) p0
            have p1 := extB_cell hE (by simp) p1
            have p2 := extB_cell hE (by simp) p2
            have p3 := extB_cell hE (by simp) p3
            refine ⟨rfl, ?_⟩
            simp [go_sem, f115, p0, p1, p2, p3]
          case s6 =>
            refine step_val (v := (.pointer (some ⟨pb, 3, none⟩))) (fun av wv hE hS hO hD => ?_) (fun _ => rfl)
            have h2 : av.eval (.tmp 2) = (.pointer (some ⟨pb, 0, none⟩)) := hO.2.2 2 rfl
            have f2 := (ev_form av 2).symm.trans h2
            refine ⟨rfl, ?_⟩
            simp [go_sem, f2]
          case s7 =>
            refine step_val (v := (.int .u32 (wI v.d))) (fun av wv hE hS hO hD => ?_) (fun _ => rfl)
            have d117 : av.eval (.tmp 117) = (.pointer (some ⟨pb, 3, none⟩)) := hD.1 rfl _ rfl
            have f117 := (ev_form av 117).symm.trans d117
            have p0 := extB_cell hE (by simp) p0
            have p1 := extB_cell hE (by simp) p1
            have p2 := extB_cell hE (by simp) p2
            have p3 := extB_cell hE (by simp) p3
            refine ⟨rfl, ?_⟩
            simp [go_sem, f117, p0, p1, p2, p3]
          case s8 =>
            refine step_val (v := (.int .u32 (wI v.a))) (fun av wv hE hS hO hD => ?_) (fun _ => rfl)
            have d112 : av.eval (.tmp 112) = (.int .u32 (wI v.a)) := hD.1 rfl _ rfl
            have f112 := (ev_form av 112).symm.trans d112
            refine ⟨rfl, ?_⟩
            simp [go_sem, f112]
          case s9 =>
            refine step_val (v := (.int .u32 (wI v.b))) (fun av wv hE hS hO hD => ?_) (fun _ => rfl)
            have d114 : av.eval (.tmp 114) = (.int .u32 (wI v.b)) := hD.1 rfl _ rfl
            have f114 := (ev_form av 114).symm.trans d114
            refine ⟨rfl, ?_⟩
            simp [go_sem, f114]
          case s10 =>
            refine step_val (v := (.int .u32 (wI v.c))) (fun av wv hE hS hO hD => ?_) (fun _ => rfl)
            have d116 : av.eval (.tmp 116) = (.int .u32 (wI v.c)) := hD.1 rfl _ rfl
            have f116 := (ev_form av 116).symm.trans d116
            refine ⟨rfl, ?_⟩
            simp [go_sem, f116]
          case s11 =>
            refine step_val (v := (.int .u32 (wI v.d))) (fun av wv hE hS hO hD => ?_) (fun _ => rfl)
            have d118 : av.eval (.tmp 118) = (.int .u32 (wI v.d)) := hD.1 rfl _ rfl
            have f118 := (ev_form av 118).symm.trans d118
            refine ⟨rfl, ?_⟩
            simp [go_sem, f118]
          intro a' w' hE hO hall
          have hA := act_of_outer (ds := [111, 112, 113, 114, 115, 116, 117, 118, 11, 12, 13, 14]) rfl hO (by kernel_rfl)
          have e111 : (fun u _ => u = (.pointer (some ⟨pb, 0, none⟩))) (a'.eval (.tmp 111)) w' := hall.1 _ rfl
          have e112 : (fun u _ => u = (.int .u32 (wI v.a))) (a'.eval (.tmp 112)) w' := hall.2.1 _ rfl
          have e113 : (fun u _ => u = (.pointer (some ⟨pb, 1, none⟩))) (a'.eval (.tmp 113)) w' := hall.2.2.1 _ rfl
          have e114 : (fun u _ => u = (.int .u32 (wI v.b))) (a'.eval (.tmp 114)) w' := hall.2.2.2.1 _ rfl
          have e115 : (fun u _ => u = (.pointer (some ⟨pb, 2, none⟩))) (a'.eval (.tmp 115)) w' := hall.2.2.2.2.1 _ rfl
          have e116 : (fun u _ => u = (.int .u32 (wI v.c))) (a'.eval (.tmp 116)) w' := hall.2.2.2.2.2.1 _ rfl
          have e117 : (fun u _ => u = (.pointer (some ⟨pb, 3, none⟩))) (a'.eval (.tmp 117)) w' := hall.2.2.2.2.2.2.1 _ rfl
          have e118 : (fun u _ => u = (.int .u32 (wI v.d))) (a'.eval (.tmp 118)) w' := hall.2.2.2.2.2.2.2.1 _ rfl
          have e11 : (fun u _ => u = (.int .u32 (wI v.a))) (a'.eval (.tmp 11)) w' := hall.2.2.2.2.2.2.2.2.1 _ rfl
          have e12 : (fun u _ => u = (.int .u32 (wI v.b))) (a'.eval (.tmp 12)) w' := hall.2.2.2.2.2.2.2.2.2.1 _ rfl
          have e13 : (fun u _ => u = (.int .u32 (wI v.c))) (a'.eval (.tmp 13)) w' := hall.2.2.2.2.2.2.2.2.2.2.1 _ rfl
          have e14 : (fun u _ => u = (.int .u32 (wI v.d))) (a'.eval (.tmp 14)) w' := hall.2.2.2.2.2.2.2.2.2.2.2.1 _ rfl
          simp only [List.foldl_cons, List.foldl_nil, Act.put, List.setIfInBounds_toArray, List.set_cons_succ, List.set_cons_zero, e111, e112, e113, e114, e115, e116, e117, e118, e11, e12, e13, e14] at hA
          clear hO hall e111 e112 e113 e114 e115 e116 e117 e118 e11 e12 e13 e14
          subst hA
          have hX := of_drew hE
          have HVK := Lib.hid ((hX.block _ (lt_of_block HVK.out)).trans HVK.out)
          have HVW := Lib.hid ((hX.block _ (lt_of_block HVW.out)).trans HVW.out)
          have HVA := Lib.hid (HVA.out.next hX)
          clear hE hX p0 p1 p2 p3
          obtain ⟨V2, hV2⟩ : ∃ V2, w' = V2 := ⟨_, rfl⟩
          rw [hV2] at HVK HVW HVA ⊢
          clear hV2 w'
          have p4 : V2.cell? ⟨pb, 4, none⟩ = some (.int .u32 (wI v.e)) := (block_cell HVA.out.p 4).trans (by rw [← HA9.out]; rfl)
          have p5 : V2.cell? ⟨pb, 5, none⟩ = some (.int .u32 (wI v.f)) := (block_cell HVA.out.p 5).trans (by rw [← HA9.out]; rfl)
          have p6 : V2.cell? ⟨pb, 6, none⟩ = some (.int .u32 (wI v.g)) := (block_cell HVA.out.p 6).trans (by rw [← HA9.out]; rfl)
          have p7 : V2.cell? ⟨pb, 7, none⟩ = some (.int .u32 (wI v.h)) := (block_cell HVA.out.p 7).trans (by rw [← HA9.out]; rfl)
          go_upto_region 14 with fail
          refine wp_region_all 1000 (none) (phis [fun u _ => u = (.pointer (some ⟨pb, 4, none⟩)), fun u _ => u = (.int .u32 (wI v.e)), fun u _ => u = (.pointer (some ⟨pb, 5, none⟩)), fun u _ => u = (.int .u32 (wI v.f)), fun u _ => u = (.pointer (some ⟨pb, 6, none⟩)), fun u _ => u = (.int .u32 (wI v.g)), fun u _ => u = (.pointer (some ⟨pb, 7, none⟩)), fun u _ => u = (.int .u32 (wI v.h)), fun u _ => u = (.int .u32 (wI v.e)), fun u _ => u = (.int .u32 (wI v.f)), fun u _ => u = (.int .u32 (wI v.g)), fun u _ => u = (.int .u32 (wI v.h))]) rfl (by kernel_rfl) (mono_of ⟨mono_eq, mono_eq, mono_eq, mono_eq, mono_eq, mono_eq, mono_eq, mono_eq, mono_eq, mono_eq, mono_eq, mono_eq, trivial⟩) (steps_of 12 ⟨?s0, ?s1, ?s2, ?s3, ?s4, ?s5, ?s6, ?s7, ?s8, ?s9, ?s10, ?s11, trivial⟩) ?_
          case s0 =>
            refine step_val (v := (.pointer (some ⟨pb, 4, none⟩))) (fun av wv hE hS hO hD => ?_) (fun _ => rfl)
            have h2 : av.eval (.tmp 2) = (.pointer (some ⟨pb, 0, none⟩)) := hO.2.2 2 rfl
            have f2 := (ev_form av 2).symm.trans h2
            refine ⟨rfl, ?_⟩
            simp [go_sem, f2]
          case s1 =>
            refine step_val (v := (.int .u32 (wI v.e))) (fun av wv hE hS hO hD => ?_) (fun _ => rfl)
            have d119 : av.eval (.tmp 119) = (.pointer (some ⟨pb, 4, none⟩)) := hD.1 rfl _ rfl
            have f119 := (ev_form av 119).symm.trans d119
            have p4 := extB_cell hE (by simp) p4
            have p5 := extB_cell hE (by simp) p5
            have p6 := extB_cell hE (by simp) p6
            have p7 := extB_cell hE (by simp) p7
            refine ⟨rfl, ?_⟩
            simp [go_sem, f119, p4, p5, p6, p7]
          case s2 =>
            refine step_val (v := (.pointer (some ⟨pb, 5, none⟩))) (fun av wv hE hS hO hD => ?_) (fun _ => rfl)
            have h2 : av.eval (.tmp 2) = (.pointer (some ⟨pb, 0, none⟩)) := hO.2.2 2 rfl
            have f2 := (ev_form av 2).symm.trans h2
            refine ⟨rfl, ?_⟩
            simp [go_sem, f2]
          case s3 =>
            refine step_val (v := (.int .u32 (wI v.f))) (fun av wv hE hS hO hD => ?_) (fun _ => rfl)
            have d121 : av.eval (.tmp 121) = (.pointer (some ⟨pb, 5, none⟩)) := hD.1 rfl _ rfl
            have f121 := (ev_form av 121).symm.trans d121
            have p4 := extB_cell hE (by simp) p4
            have p5 := extB_cell hE (by simp) p5
            have p6 := extB_cell hE (by simp) p6
            have p7 := extB_cell hE (by simp) p7
            refine ⟨rfl, ?_⟩
            simp [go_sem, f121, p4, p5, p6, p7]
          case s4 =>
            refine step_val (v := (.pointer (some ⟨pb, 6, none⟩))) (fun av wv hE hS hO hD => ?_) (fun _ => rfl)
            have h2 : av.eval (.tmp 2) = (.pointer (some ⟨pb, 0, none⟩)) := hO.2.2 2 rfl
            have f2 := (ev_form av 2).symm.trans h2
            refine ⟨rfl, ?_⟩
            simp [go_sem, f2]
          case s5 =>
            refine step_val (v := (.int .u32 (wI v.g))) (fun av wv hE hS hO hD => ?_) (fun _ => rfl)
            have d123 : av.eval (.tmp 123) = (.pointer (some ⟨pb, 6, none⟩)) := hD.1 rfl _ rfl
            have f123 := (ev_form av 123).symm.trans d123
            have p4 := extB_cell hE (by simp) p4
            have p5 := extB_cell hE (by simp) p5
            have p6 := extB_cell hE (by simp) p6
            have p7 := extB_cell hE (by simp) p7
            refine ⟨rfl, ?_⟩
            simp [go_sem, f123, p4, p5, p6, p7]
          case s6 =>
            refine step_val (v := (.pointer (some ⟨pb, 7, none⟩))) (fun av wv hE hS hO hD => ?_) (fun _ => rfl)
            have h2 : av.eval (.tmp 2) = (.pointer (some ⟨pb, 0, none⟩)) := hO.2.2 2 rfl
            have f2 := (ev_form av 2).symm.trans h2
            refine ⟨rfl, ?_⟩
            simp [go_sem, f2]
          case s7 =>
            refine step_val (v := (.int .u32 (wI v.h))) (fun av wv hE hS hO hD => ?_) (fun _ => rfl)
            have d125 : av.eval (.tmp 125) = (.pointer (some ⟨pb, 7, none⟩)) := hD.1 rfl _ rfl
            have f125 := (ev_form av 125).symm.trans d125
            have p4 := extB_cell hE (by simp) p4
            have p5 := extB_cell hE (by simp) p5
            have p6 := extB_cell hE (by simp) p6
            have p7 := extB_cell hE (by simp) p7
            refine ⟨rfl, ?_⟩
            simp [go_sem, f125, p4, p5, p6, p7]
          case s8 =>
            refine step_val (v := (.int .u32 (wI v.e))) (fun av wv hE hS hO hD => ?_) (fun _ => rfl)
            have d120 : av.eval (.tmp 120) = (.int .u32 (wI v.e)) := hD.1 rfl _ rfl
            have f120 := (ev_form av 120).symm.trans d120
            refine ⟨rfl, ?_⟩
            simp [go_sem, f120]
          case s9 =>
            refine step_val (v := (.int .u32 (wI v.f))) (fun av wv hE hS hO hD => ?_) (fun _ => rfl)
            have d122 : av.eval (.tmp 122) = (.int .u32 (wI v.f)) := hD.1 rfl _ rfl
            have f122 := (ev_form av 122).symm.trans d122
            refine ⟨rfl, ?_⟩
            simp [go_sem, f122]
          case s10 =>
            refine step_val (v := (.int .u32 (wI v.g))) (fun av wv hE hS hO hD => ?_) (fun _ => rfl)
            have d124 : av.eval (.tmp 124) = (.int .u32 (wI v.g)) := hD.1 rfl _ rfl
            have f124 := (ev_form av 124).symm.trans d124
            refine ⟨rfl, ?_⟩
            simp [go_sem, f124]
          case s11 =>
            refine step_val (v := (.int .u32 (wI v.h))) (fun av wv hE hS hO hD => ?_) (fun _ => rfl)
            have d126 : av.eval (.tmp 126) = (.int .u32 (wI v.h)) := hD.1 rfl _ rfl
            have f126 := (ev_form av 126).symm.trans d126
            refine ⟨rfl, ?_⟩
            simp [go_sem, f126]
          intro a' w' hE hO hall
          have hA := act_of_outer (ds := [119, 120, 121, 122, 123, 124, 125, 126, 15, 16, 17, 18]) rfl hO (by kernel_rfl)
          have e119 : (fun u _ => u = (.pointer (some ⟨pb, 4, none⟩))) (a'.eval (.tmp 119)) w' := hall.1 _ rfl
          have e120 : (fun u _ => u = (.int .u32 (wI v.e))) (a'.eval (.tmp 120)) w' := hall.2.1 _ rfl
          have e121 : (fun u _ => u = (.pointer (some ⟨pb, 5, none⟩))) (a'.eval (.tmp 121)) w' := hall.2.2.1 _ rfl
          have e122 : (fun u _ => u = (.int .u32 (wI v.f))) (a'.eval (.tmp 122)) w' := hall.2.2.2.1 _ rfl
          have e123 : (fun u _ => u = (.pointer (some ⟨pb, 6, none⟩))) (a'.eval (.tmp 123)) w' := hall.2.2.2.2.1 _ rfl
          have e124 : (fun u _ => u = (.int .u32 (wI v.g))) (a'.eval (.tmp 124)) w' := hall.2.2.2.2.2.1 _ rfl
          have e125 : (fun u _ => u = (.pointer (some ⟨pb, 7, none⟩))) (a'.eval (.tmp 125)) w' := hall.2.2.2.2.2.2.1 _ rfl
          have e126 : (fun u _ => u = (.int .u32 (wI v.h))) (a'.eval (.tmp 126)) w' := hall.2.2.2.2.2.2.2.1 _ rfl
          have e15 : (fun u _ => u = (.int .u32 (wI v.e))) (a'.eval (.tmp 15)) w' := hall.2.2.2.2.2.2.2.2.1 _ rfl
          have e16 : (fun u _ => u = (.int .u32 (wI v.f))) (a'.eval (.tmp 16)) w' := hall.2.2.2.2.2.2.2.2.2.1 _ rfl
          have e17 : (fun u _ => u = (.int .u32 (wI v.g))) (a'.eval (.tmp 17)) w' := hall.2.2.2.2.2.2.2.2.2.2.1 _ rfl
          have e18 : (fun u _ => u = (.int .u32 (wI v.h))) (a'.eval (.tmp 18)) w' := hall.2.2.2.2.2.2.2.2.2.2.2.1 _ rfl
          simp only [List.foldl_cons, List.foldl_nil, Act.put, List.setIfInBounds_toArray, List.set_cons_succ, List.set_cons_zero, e119, e120, e121, e122, e123, e124, e125, e126, e15, e16, e17, e18] at hA
          clear hO hall e119 e120 e121 e122 e123 e124 e125 e126 e15 e16 e17 e18
          subst hA
          have hX := of_drew hE
          have HVK := Lib.hid ((hX.block _ (lt_of_block HVK.out)).trans HVK.out)
          have HVW := Lib.hid ((hX.block _ (lt_of_block HVW.out)).trans HVW.out)
          have HVA := Lib.hid (HVA.out.next hX)
          clear hE hX p4 p5 p6 p7
          obtain ⟨V3, hV3⟩ : ∃ V3, w' = V3 := ⟨_, rfl⟩
          rw [hV3] at HVK HVW HVA ⊢
          clear hV3 w'
          go_upto_region 16 with fail
          go_loopg [19, 11, 12, 13, 14, 15, 16, 17, 18] 64 (fun g i xa xb xc xd xe xf xg xh wr => ∃ (m : Nat) (z8 : St8), g + m = 64 ∧ i = .int .i64 (m : Nat) ∧ xa = .int .u32 (wI z8.a) ∧ xb = .int .u32 (wI z8.b) ∧ xc = .int .u32 (wI z8.c) ∧ xd = .int .u32 (wI z8.d) ∧ xe = .int .u32 (wI z8.e) ∧ xf = .int .u32 (wI z8.f) ∧ xg = .int .u32 (wI z8.g) ∧ xh = .int .u32 (wI z8.h) ∧ Hid (roundsW kW Ws v m = z8) ∧ Hid (wr.heap[kb]? = some (.cells (wsC kW) 294 (0, 0))) ∧ Hid (wr.heap[wb]? = some (.cells (wsC Ws) 294 (0, 0))) ∧ Hid (BlkAt pb rb A9 w wr))
          case atStart => exact ⟨0, v, rfl, rfl, rfl, rfl, rfl, rfl, rfl, rfl, rfl, rfl, Lib.hid rfl, HVK, HVW, HVA⟩
          case round =>
            clear HVK HVW HVA
            obtain ⟨m, z8, hm, rfl, rfl, rfl, rfl, rfl, rfl, rfl, rfl, rfl, HZ, HVK, HVW, HVA⟩ := hrel
            by_cases hlt : m < 64
            · have i1 : (m : Int) < 64 := by omega
              have bm : ¬ (64 : Int) ≤ (m : Int) := by omega
              have bmn : ¬ 64 ≤ m := by omega
              obtain ⟨KM, hKM⟩ : ∃ X, wth kW m = X := ⟨_, rfl⟩
              obtain ⟨WM, hWM⟩ : ∃ X, wth Ws m = X := ⟨_, rfl⟩
              obtain ⟨W5, hW5⟩ : ∃ W5, wr = W5 := ⟨_, rfl⟩
              rw [hW5] at HVK HVW HVA ⊢
              clear hW5
              have ck : W5.cell? ⟨kb, m, none⟩ = some (.int .u32 (wI KM)) := by rw [block_cell HVK.out, wsC_at _ _ (show m < 64 from hlt), hKM]
              have cw : W5.cell? ⟨wb, m, none⟩ = some (.int .u32 (wI WM)) := by rw [block_cell HVW.out, wsC_at _ _ (by rw [HWL.out]; exact hlt), hWM]
              have HNZ : Hid (roundsW kW Ws v (m + 1) = stepW z8 KM WM) := Lib.hid (by rw [roundsW, HZ.out, hKM, hWM])
              clear hKM hWM
              go_upto_region 18 with fail
              refine wp_region_tail 27 1000 (none) (phis [fun u _ => u = (.int .u32 (wI z8.h)), fun u _ => u = (.int .i64 (m : Nat)), fun u _ => u = (.pointer (some ⟨kb, m, none⟩)), fun u _ => u = (.int .u32 (wI KM)), fun u _ => u = (.int .u32 (wI (z8.h + KM))), fun u _ => u = (.int .i64 (m : Nat)), fun u _ => u = (.pointer (some ⟨wb, m, none⟩)), fun u _ => u = (.int .u32 (wI WM)), fun u _ => u = (.int .u32 (wI (z8.h + KM + WM))), fun u _ => u = (.int .u32 (wI z8.e)), fun u _ => u = (.int .u32 (wI (rotr z8.e 6))), fun u _ => u = (.int .u32 (wI z8.e)), fun u _ => u = (.int .u32 (wI (rotr z8.e 11))), fun u _ => u = (.int .u32 (wI (rotr z8.e 6 ^^^ rotr z8.e 11))), fun u _ => u = (.int .u32 (wI z8.e)), fun u _ => u = (.int .u32 (wI (rotr z8.e 25))), fun u _ => u = (.int .u32 (wI (rotr z8.e 6 ^^^ rotr z8.e 11 ^^^ rotr z8.e 25))), fun u _ => u = (.int .u32 (wI (z8.h + KM + WM + (rotr z8.e 6 ^^^ rotr z8.e 11 ^^^ rotr z8.e 25)))), fun u _ => u = (.int .u32 (wI z8.e)), fun u _ => u = (.int .u32 (wI z8.f)), fun u _ => u = (.int .u32 (wI (z8.e &&& z8.f))), fun u _ => u = (.int .u32 (wI z8.e)), fun u _ => u = (.int .u32 (wI (~~~ z8.e))), fun u _ => u = (.int .u32 (wI z8.g)), fun u _ => u = (.int .u32 (wI (~~~ z8.e &&& z8.g))), fun u _ => u = (.int .u32 (wI (z8.e &&& z8.f ||| ~~~ z8.e &&& z8.g))), fun u _ => u = (.int .u32 (wI (z8.h + KM + WM + (rotr z8.e 6 ^^^ rotr z8.e 11 ^^^ rotr z8.e 25) + (z8.e &&& z8.f ||| ~~~ z8.e &&& z8.g))))]) rfl (by kernel_rfl) (by kernel_rfl) (mono_of ⟨mono_eq, mono_eq, mono_eq, mono_eq, mono_eq, mono_eq, mono_eq, mono_eq, mono_eq, mono_eq, mono_eq, mono_eq, mono_eq, mono_eq, mono_eq, mono_eq, mono_eq, mono_eq, mono_eq, mono_eq, mono_eq, mono_eq, mono_eq, mono_eq, mono_eq, mono_eq, mono_eq, trivial⟩) (steps_of 27 ⟨?s0, ?s1, ?s2, ?s3, ?s4, ?s5, ?s6, ?s7, ?s8, ?s9, ?s10, ?s11, ?s12, ?s13, ?s14, ?s15, ?s16, ?s17, ?s18, ?s19, ?s20, ?s21, ?s22, ?s23, ?s24, ?s25, ?s26, trivial⟩) ?_
              case s0 =>
                refine step_val (v := (.int .u32 (wI z8.h))) (fun av wv hE hS hO hD => ?_) (fun _ => rfl)
                have h18 : av.eval (.tmp 18) = (.int .u32 (wI z8.h)) := hO.2.2 18 rfl
                have f18 := (ev_form av 18).symm.trans h18
                refine ⟨rfl, ?_⟩
                simp [go_sem, f18, bv_add, bv_addm, bv_xor, bv_and, bv_or, bv_not2, bm, bmn]
              case s1 =>
                refine step_val (v := (.int .i64 (m : Nat))) (fun av wv hE hS hO hD => ?_) (fun _ => rfl)
                have h19 : av.eval (.tmp 19) = (.int .i64 (m : Nat)) := hO.2.2 19 rfl
                have f19 := (ev_form av 19).symm.trans h19
                refine ⟨rfl, ?_⟩
                simp [go_sem, f19, bv_add, bv_addm, bv_xor, bv_and, bv_or, bv_not2, bm, bmn]
              case s2 =>
                refine step_val (v := (.pointer (some ⟨kb, m, none⟩))) (fun av wv hE hS hO hD => ?_) (fun _ => rfl)
                have h10 : av.eval (.tmp 10) = (.pointer (some ⟨kb, 0, none⟩)) := hO.2.2 10 rfl
                have f10 := (ev_form av 10).symm.trans h10
                have d132 : av.eval (.tmp 132) = (.int .i64 (m : Nat)) := hD.1 rfl _ rfl
                have f132 := (ev_form av 132).symm.trans d132
                refine ⟨rfl, ?_⟩
                simp [go_sem, f10, f132, bv_add, bv_addm, bv_xor, bv_and, bv_or, bv_not2, bm, bmn]
              case s3 =>
                refine step_val (v := (.int .u32 (wI KM))) (fun av wv hE hS hO hD => ?_) (fun _ => rfl)
                have d133 : av.eval (.tmp 133) = (.pointer (some ⟨kb, m, none⟩)) := hD.1 rfl _ rfl
                have f133 := (ev_form av 133).symm.trans d133
                have ck := extB_cell hE (by simp) ck
                have cw := extB_cell hE (by simp) cw
                refine ⟨rfl, ?_⟩
                simp [go_sem, f133, ck, cw, bv_add, bv_addm, bv_xor, bv_and, bv_or, bv_not2, bm, bmn]
              case s4 =>
                refine step_val (v := (.int .u32 (wI (z8.h + KM)))) (fun av wv hE hS hO hD => ?_) (fun _ => rfl)
                have d131 : av.eval (.tmp 131) = (.int .u32 (wI z8.h)) := hD.1 rfl _ rfl
                have f131 := (ev_form av 131).symm.trans d131
                have d134 : av.eval (.tmp 134) = (.int .u32 (wI KM)) := hD.2.1 rfl _ rfl
                have f134 := (ev_form av 134).symm.trans d134
                refine ⟨rfl, ?_⟩
                simp [go_sem, f131, f134, bv_add, bv_addm, bv_xor, bv_and, bv_or, bv_not2, bm, bmn]
              case s5 =>
                refine step_val (v := (.int .i64 (m : Nat))) (fun av wv hE hS hO hD => ?_) (fun _ => rfl)
                have h19 : av.eval (.tmp 19) = (.int .i64 (m : Nat)) := hO.2.2 19 rfl
                have f19 := (ev_form av 19).symm.trans h19
                refine ⟨rfl, ?_⟩
                simp [go_sem, f19, bv_add, bv_addm, bv_xor, bv_and, bv_or, bv_not2, bm, bmn]
              case s6 =>
                refine step_val (v := (.pointer (some ⟨wb, m, none⟩))) (fun av wv hE hS hO hD => ?_) (fun _ => rfl)
                have h5 : av.eval (.tmp 5) = (.pointer (some ⟨wb, 0, none⟩)) := hO.2.2 5 rfl
                have f5 := (ev_form av 5).symm.trans h5
                have d136 : av.eval (.tmp 136) = (.int .i64 (m : Nat)) := hD.1 rfl _ rfl
                have f136 := (ev_form av 136).symm.trans d136
                refine ⟨rfl, ?_⟩
                simp [go_sem, f5, f136, bv_add, bv_addm, bv_xor, bv_and, bv_or, bv_not2, bm, bmn]
              case s7 =>
                refine step_val (v := (.int .u32 (wI WM))) (fun av wv hE hS hO hD => ?_) (fun _ => rfl)
                have d137 : av.eval (.tmp 137) = (.pointer (some ⟨wb, m, none⟩)) := hD.1 rfl _ rfl
                have f137 := (ev_form av 137).symm.trans d137
                have ck := extB_cell hE (by simp) ck
                have cw := extB_cell hE (by simp) cw
                refine ⟨rfl, ?_⟩
                simp [go_sem, f137, ck, cw, bv_add, bv_addm, bv_xor, bv_and, bv_or, bv_not2, bm, bmn]
              case s8 =>
                refine step_val (v := (.int .u32 (wI (z8.h + KM + WM)))) (fun av wv hE hS hO hD => ?_) (fun _ => rfl)
                have d135 : av.eval (.tmp 135) = (.int .u32 (wI (z8.h + KM))) := hD.1 rfl _ rfl
                have f135 := (ev_form av 135).symm.trans d135
                have d138 : av.eval (.tmp 138) = (.int .u32 (wI WM)) := hD.2.1 rfl _ rfl
                have f138 := (ev_form av 138).symm.trans d138
                refine ⟨rfl, ?_⟩
                simp [go_sem, f135, f138, bv_add, bv_addm, bv_xor, bv_and, bv_or, bv_not2, bm, bmn]
              case s9 =>
                refine step_val (v := (.int .u32 (wI z8.e))) (fun av wv hE hS hO hD => ?_) (fun _ => rfl)
                have h15 : av.eval (.tmp 15) = (.int .u32 (wI z8.e)) := hO.2.2 15 rfl
                have f15 := (ev_form av 15).symm.trans h15
                refine ⟨rfl, ?_⟩
                simp [go_sem, f15, bv_add, bv_addm, bv_xor, bv_and, bv_or, bv_not2, bm, bmn]
              case s10 =>
                refine step_wp (fun av wv hE hS hO hD => ?_)
                have d140 : av.eval (.tmp 140) = (.int .u32 (wI z8.e)) := hD.1 rfl _ rfl
                have f140 := (ev_form av 140).symm.trans d140
                refine ⟨rfl, ?_⟩
                refine wp_of_call (v := .int .u32 (wI (rotr z8.e 6))) (by simp [go_sem, f140]) ((rturned_any z8.e 6 wv (by decide) (by decide)).mono (fun e w2 ⟨h1, h2⟩ => ⟨h1, h2.below _⟩)) (fun w2 hb => ⟨_, rfl, es_of_ext hb, rfl⟩)
              case s11 =>
                refine step_val (v := (.int .u32 (wI z8.e))) (fun av wv hE hS hO hD => ?_) (fun _ => rfl)
                have h15 : av.eval (.tmp 15) = (.int .u32 (wI z8.e)) := hO.2.2 15 rfl
                have f15 := (ev_form av 15).symm.trans h15
                refine ⟨rfl, ?_⟩
                simp [go_sem, f15, bv_add, bv_addm, bv_xor, bv_and, bv_or, bv_not2, bm, bmn]
              case s12 =>
                refine step_wp (fun av wv hE hS hO hD => ?_)
                have d142 : av.eval (.tmp 142) = (.int .u32 (wI z8.e)) := hD.1 rfl _ rfl
                have f142 := (ev_form av 142).symm.trans d142
                refine ⟨rfl, ?_⟩
                refine wp_of_call (v := .int .u32 (wI (rotr z8.e 11))) (by simp [go_sem, f142]) ((rturned_any z8.e 11 wv (by decide) (by decide)).mono (fun e w2 ⟨h1, h2⟩ => ⟨h1, h2.below _⟩)) (fun w2 hb => ⟨_, rfl, es_of_ext hb, rfl⟩)
              case s13 =>
                refine step_val (v := (.int .u32 (wI (rotr z8.e 6 ^^^ rotr z8.e 11)))) (fun av wv hE hS hO hD => ?_) (fun _ => rfl)
                have d141 : av.eval (.tmp 141) = (.int .u32 (wI (rotr z8.e 6))) := hD.1 rfl _ rfl
                have f141 := (ev_form av 141).symm.trans d141
                have d143 : av.eval (.tmp 143) = (.int .u32 (wI (rotr z8.e 11))) := hD.2.1 rfl _ rfl
                have f143 := (ev_form av 143).symm.trans d143
                refine ⟨rfl, ?_⟩
                simp [go_sem, f141, f143, bv_add, bv_addm, bv_xor, bv_and, bv_or, bv_not2, bm, bmn]
              case s14 =>
                refine step_val (v := (.int .u32 (wI z8.e))) (fun av wv hE hS hO hD => ?_) (fun _ => rfl)
                have h15 : av.eval (.tmp 15) = (.int .u32 (wI z8.e)) := hO.2.2 15 rfl
                have f15 := (ev_form av 15).symm.trans h15
                refine ⟨rfl, ?_⟩
                simp [go_sem, f15, bv_add, bv_addm, bv_xor, bv_and, bv_or, bv_not2, bm, bmn]
              case s15 =>
                refine step_wp (fun av wv hE hS hO hD => ?_)
                have d145 : av.eval (.tmp 145) = (.int .u32 (wI z8.e)) := hD.1 rfl _ rfl
                have f145 := (ev_form av 145).symm.trans d145
                refine ⟨rfl, ?_⟩
                refine wp_of_call (v := .int .u32 (wI (rotr z8.e 25))) (by simp [go_sem, f145]) ((rturned_any z8.e 25 wv (by decide) (by decide)).mono (fun e w2 ⟨h1, h2⟩ => ⟨h1, h2.below _⟩)) (fun w2 hb => ⟨_, rfl, es_of_ext hb, rfl⟩)
              case s16 =>
                refine step_val (v := (.int .u32 (wI (rotr z8.e 6 ^^^ rotr z8.e 11 ^^^ rotr z8.e 25)))) (fun av wv hE hS hO hD => ?_) (fun _ => rfl)
                have d144 : av.eval (.tmp 144) = (.int .u32 (wI (rotr z8.e 6 ^^^ rotr z8.e 11))) := hD.1 rfl _ rfl
                have f144 := (ev_form av 144).symm.trans d144
                have d146 : av.eval (.tmp 146) = (.int .u32 (wI (rotr z8.e 25))) := hD.2.1 rfl _ rfl
                have f146 := (ev_form av 146).symm.trans d146
                refine ⟨rfl, ?_⟩
                simp [go_sem, f144, f146, bv_add, bv_addm, bv_xor, bv_and, bv_or, bv_not2, bm, bmn]
              case s17 =>
                refine step_val (v := (.int .u32 (wI (z8.h + KM + WM + (rotr z8.e 6 ^^^ rotr z8.e 11 ^^^ rotr z8.e 25))))) (fun av wv hE hS hO hD => ?_) (fun _ => rfl)
                have d139 : av.eval (.tmp 139) = (.int .u32 (wI (z8.h + KM + WM))) := hD.1 rfl _ rfl
                have f139 := (ev_form av 139).symm.trans d139
                have d147 : av.eval (.tmp 147) = (.int .u32 (wI (rotr z8.e 6 ^^^ rotr z8.e 11 ^^^ rotr z8.e 25))) := hD.2.1 rfl _ rfl
                have f147 := (ev_form av 147).symm.trans d147
                refine ⟨rfl, ?_⟩
                simp [go_sem, f139, f147, bv_add, bv_addm, bv_xor, bv_and, bv_or, bv_not2, bm, bmn]
              case s18 =>
                refine step_val (v := (.int .u32 (wI z8.e))) (fun av wv hE hS hO hD => ?_) (fun _ => rfl)
                have h15 : av.eval (.tmp 15) = (.int .u32 (wI z8.e)) := hO.2.2 15 rfl
                have f15 := (ev_form av 15).symm.trans h15
                refine ⟨rfl, ?_⟩
                simp [go_sem, f15, bv_add, bv_addm, bv_xor, bv_and, bv_or, bv_not2, bm, bmn]
              case s19 =>
                refine step_val (v := (.int .u32 (wI z8.f))) (fun av wv hE hS hO hD => ?_) (fun _ => rfl)
                have h16 : av.eval (.tmp 16) = (.int .u32 (wI z8.f)) := hO.2.2 16 rfl
                have f16 := (ev_form av 16).symm.trans h16
                refine ⟨rfl, ?_⟩
                simp [go_sem, f16, bv_add, bv_addm, bv_xor, bv_and, bv_or, bv_not2, bm, bmn]
              case s20 =>
                refine step_val (v := (.int .u32 (wI (z8.e &&& z8.f)))) (fun av wv hE hS hO hD => ?_) (fun _ => rfl)
                have d149 : av.eval (.tmp 149) = (.int .u32 (wI z8.e)) := hD.1 rfl _ rfl
                have f149 := (ev_form av 149).symm.trans d149
                have d150 : av.eval (.tmp 150) = (.int .u32 (wI z8.f)) := hD.2.1 rfl _ rfl
                have f150 := (ev_form av 150).symm.trans d150
                refine ⟨rfl, ?_⟩
                simp [go_sem, f149, f150, bv_add, bv_addm, bv_xor, bv_and, bv_or, bv_not2, bm, bmn]
              case s21 =>
                refine step_val (v := (.int .u32 (wI z8.e))) (fun av wv hE hS hO hD => ?_) (fun _ => rfl)
                have h15 : av.eval (.tmp 15) = (.int .u32 (wI z8.e)) := hO.2.2 15 rfl
                have f15 := (ev_form av 15).symm.trans h15
                refine ⟨rfl, ?_⟩
                simp [go_sem, f15, bv_add, bv_addm, bv_xor, bv_and, bv_or, bv_not2, bm, bmn]
              case s22 =>
                refine step_val (v := (.int .u32 (wI (~~~ z8.e)))) (fun av wv hE hS hO hD => ?_) (fun _ => rfl)
                have d152 : av.eval (.tmp 152) = (.int .u32 (wI z8.e)) := hD.1 rfl _ rfl
                have f152 := (ev_form av 152).symm.trans d152
                refine ⟨rfl, ?_⟩
                simp [go_sem, f152, bv_add, bv_addm, bv_xor, bv_and, bv_or, bv_not2, bm, bmn]
              case s23 =>
                refine step_val (v := (.int .u32 (wI z8.g))) (fun av wv hE hS hO hD => ?_) (fun _ => rfl)
                have h17 : av.eval (.tmp 17) = (.int .u32 (wI z8.g)) := hO.2.2 17 rfl
                have f17 := (ev_form av 17).symm.trans h17
                refine ⟨rfl, ?_⟩
                simp [go_sem, f17, bv_add, bv_addm, bv_xor, bv_and, bv_or, bv_not2, bm, bmn]
              case s24 =>
                refine step_val (v := (.int .u32 (wI (~~~ z8.e &&& z8.g)))) (fun av wv hE hS hO hD => ?_) (fun _ => rfl)
                have d153 : av.eval (.tmp 153) = (.int .u32 (wI (~~~ z8.e))) := hD.1 rfl _ rfl
                have f153 := (ev_form av 153).symm.trans d153
                have d154 : av.eval (.tmp 154) = (.int .u32 (wI z8.g)) := hD.2.1 rfl _ rfl
                have f154 := (ev_form av 154).symm.trans d154
                refine ⟨rfl, ?_⟩
                simp [go_sem, f153, f154, bv_add, bv_addm, bv_xor, bv_and, bv_or, bv_not2, bm, bmn]
              case s25 =>
                refine step_val (v := (.int .u32 (wI (z8.e &&& z8.f ||| ~~~ z8.e &&& z8.g)))) (fun av wv hE hS hO hD => ?_) (fun _ => rfl)
                have d151 : av.eval (.tmp 151) = (.int .u32 (wI (z8.e &&& z8.f))) := hD.1 rfl _ rfl
                have f151 := (ev_form av 151).symm.trans d151
                have d155 : av.eval (.tmp 155) = (.int .u32 (wI (~~~ z8.e &&& z8.g))) := hD.2.1 rfl _ rfl
                have f155 := (ev_form av 155).symm.trans d155
                refine ⟨rfl, ?_⟩
                simp [go_sem, f151, f155, bv_add, bv_addm, bv_xor, bv_and, bv_or, bv_not2, bm, bmn]
              case s26 =>
                refine step_val (v := (.int .u32 (wI (z8.h + KM + WM + (rotr z8.e 6 ^^^ rotr z8.e 11 ^^^ rotr z8.e 25) + (z8.e &&& z8.f ||| ~~~ z8.e &&& z8.g))))) (fun av wv hE hS hO hD => ?_) (fun _ => rfl)
                have d148 : av.eval (.tmp 148) = (.int .u32 (wI (z8.h + KM + WM + (rotr z8.e 6 ^^^ rotr z8.e 11 ^^^ rotr z8.e 25)))) := hD.1 rfl _ rfl
                have f148 := (ev_form av 148).symm.trans d148
                have d156 : av.eval (.tmp 156) = (.int .u32 (wI (z8.e &&& z8.f ||| ~~~ z8.e &&& z8.g))) := hD.2.1 rfl _ rfl
                have f156 := (ev_form av 156).symm.trans d156
                refine ⟨rfl, ?_⟩
                simp [go_sem, f148, f156, bv_add, bv_addm, bv_xor, bv_and, bv_or, bv_not2, bm, bmn]
              intro a' w' hE hO hall
              have hA := act_of_outer (ds := [131, 132, 133, 134, 135, 136, 137, 138, 139, 140, 141, 142, 143, 144, 145, 146, 147, 148, 149, 150, 151, 152, 153, 154, 155, 156, 157]) rfl hO (by kernel_rfl)
              have e131 : (fun u _ => u = (.int .u32 (wI z8.h))) (a'.eval (.tmp 131)) w' := hall.1 _ rfl
              have e132 : (fun u _ => u = (.int .i64 (m : Nat))) (a'.eval (.tmp 132)) w' := hall.2.1 _ rfl
              have e133 : (fun u _ => u = (.pointer (some ⟨kb, m, none⟩))) (a'.eval (.tmp 133)) w' := hall.2.2.1 _ rfl
              have e134 : (fun u _ => u = (.int .u32 (wI KM))) (a'.eval (.tmp 134)) w' := hall.2.2.2.1 _ rfl
              have e135 : (fun u _ => u = (.int .u32 (wI (z8.h + KM)))) (a'.eval (.tmp 135)) w' := hall.2.2.2.2.1 _ rfl
              have e136 : (fun u _ => u = (.int .i64 (m : Nat))) (a'.eval (.tmp 136)) w' := hall.2.2.2.2.2.1 _ rfl
              have e137 : (fun u _ => u = (.pointer (some ⟨wb, m, none⟩))) (a'.eval (.tmp 137)) w' := hall.2.2.2.2.2.2.1 _ rfl
              have e138 : (fun u _ => u = (.int .u32 (wI WM))) (a'.eval (.tmp 138)) w' := hall.2.2.2.2.2.2.2.1 _ rfl
              have e139 : (fun u _ => u = (.int .u32 (wI (z8.h + KM + WM)))) (a'.eval (.tmp 139)) w' := hall.2.2.2.2.2.2.2.2.1 _ rfl
              have e140 : (fun u _ => u = (.int .u32 (wI z8.e))) (a'.eval (.tmp 140)) w' := hall.2.2.2.2.2.2.2.2.2.1 _ rfl
              have e141 : (fun u _ => u = (.int .u32 (wI (rotr z8.e 6)))) (a'.eval (.tmp 141)) w' := hall.2.2.2.2.2.2.2.2.2.2.1 _ rfl
              have e142 : (fun u _ => u = (.int .u32 (wI z8.e))) (a'.eval (.tmp 142)) w' := hall.2.2.2.2.2.2.2.2.2.2.2.1 _ rfl
              have e143 : (fun u _ => u = (.int .u32 (wI (rotr z8.e 11)))) (a'.eval (.tmp 143)) w' := hall.2.2.2.2.2.2.2.2.2.2.2.2.1 _ rfl
              have e144 : (fun u _ => u = (.int .u32 (wI (rotr z8.e 6 ^^^ rotr z8.e 11)))) (a'.eval (.tmp 144)) w' := hall.2.2.2.2.2.2.2.2.2.2.2.2.2.1 _ rfl
              have e145 : (fun u _ => u = (.int .u32 (wI z8.e))) (a'.eval (.tmp 145)) w' := hall.2.2.2.2.2.2.2.2.2.2.2.2.2.2.1 _ rfl
              have e146 : (fun u _ => u = (.int .u32 (wI (rotr z8.e 25)))) (a'.eval (.tmp 146)) w' := hall.2.2.2.2.2.2.2.2.2.2.2.2.2.2.2.1 _ rfl
              have e147 : (fun u _ => u = (.int .u32 (wI (rotr z8.e 6 ^^^ rotr z8.e 11 ^^^ rotr z8.e 25)))) (a'.eval (.tmp 147)) w' := hall.2.2.2.2.2.2.2.2.2.2.2.2.2.2.2.2.1 _ rfl
              have e148 : (fun u _ => u = (.int .u32 (wI (z8.h + KM + WM + (rotr z8.e 6 ^^^ rotr z8.e 11 ^^^ rotr z8.e 25))))) (a'.eval (.tmp 148)) w' := hall.2.2.2.2.2.2.2.2.2.2.2.2.2.2.2.2.2.1 _ rfl
              have e149 : (fun u _ => u = (.int .u32 (wI z8.e))) (a'.eval (.tmp 149)) w' := hall.2.2.2.2.2.2.2.2.2.2.2.2.2.2.2.2.2.2.1 _ rfl
              have e150 : (fun u _ => u = (.int .u32 (wI z8.f))) (a'.eval (.tmp 150)) w' := hall.2.2.2.2.2.2.2.2.2.2.2.2.2.2.2.2.2.2.2.1 _ rfl
              have e151 : (fun u _ => u = (.int .u32 (wI (z8.e &&& z8.f)))) (a'.eval (.tmp 151)) w' := hall.2.2.2.2.2.2.2.2.2.2.2.2.2.2.2.2.2.2.2.2.1 _ rfl
              have e152 : (fun u _ => u = (.int .u32 (wI z8.e))) (a'.eval (.tmp 152)) w' := hall.2.2.2.2.2.2.2.2.2.2.2.2.2.2.2.2.2.2.2.2.2.1 _ rfl
              have e153 : (fun u _ => u = (.int .u32 (wI (~~~ z8.e)))) (a'.eval (.tmp 153)) w' := hall.2.2.2.2.2.2.2.2.2.2.2.2.2.2.2.2.2.2.2.2.2.2.1 _ rfl
              have e154 : (fun u _ => u = (.int .u32 (wI z8.g))) (a'.eval (.tmp 154)) w' := hall.2.2.2.2.2.2.2.2.2.2.2.2.2.2.2.2.2.2.2.2.2.2.2.1 _ rfl
              have e155 : (fun u _ => u = (.int .u32 (wI (~~~ z8.e &&& z8.g)))) (a'.eval (.tmp 155)) w' := hall.2.2.2.2.2.2.2.2.2.2.2.2.2.2.2.2.2.2.2.2.2.2.2.2.1 _ rfl
              have e156 : (fun u _ => u = (.int .u32 (wI (z8.e &&& z8.f ||| ~~~ z8.e &&& z8.g)))) (a'.eval (.tmp 156)) w' := hall.2.2.2.2.2.2.2.2.2.2.2.2.2.2.2.2.2.2.2.2.2.2.2.2.2.1 _ rfl
              have e157 : (fun u _ => u = (.int .u32 (wI (z8.h + KM + WM + (rotr z8.e 6 ^^^ rotr z8.e 11 ^^^ rotr z8.e 25) + (z8.e &&& z8.f ||| ~~~ z8.e &&& z8.g))))) (a'.eval (.tmp 157)) w' := hall.2.2.2.2.2.2.2.2.2.2.2.2.2.2.2.2.2.2.2.2.2.2.2.2.2.2.1 _ rfl
              simp only [List.foldl_cons, List.foldl_nil, Act.put, List.setIfInBounds_toArray, List.set_cons_succ, List.set_cons_zero, e131, e132, e133, e134, e135, e136, e137, e138, e139, e140, e141, e142, e143, e144, e145, e146, e147, e148, e149, e150, e151, e152, e153, e154, e155, e156, e157] at hA
              clear hO hall e131 e132 e133 e134 e135 e136 e137 e138 e139 e140 e141 e142 e143 e144 e145 e146 e147 e148 e149 e150 e151 e152 e153 e154 e155 e156 e157
              subst hA
              have hX := of_drew hE
              have HVK := Lib.hid ((hX.block _ (lt_of_block HVK.out)).trans HVK.out)
              have HVW := Lib.hid ((hX.block _ (lt_of_block HVW.out)).trans HVW.out)
              have HVA := Lib.hid (HVA.out.next hX)
              clear hE hX ck cw bm bmn
              obtain ⟨V4, hV4⟩ : ∃ V4, w' = V4 := ⟨_, rfl⟩
              rw [hV4] at HVK HVW HVA ⊢
              clear hV4 w'
              obtain ⟨XX, hXX⟩ : ∃ XX, z8.h + KM + WM + (rotr z8.e 6 ^^^ rotr z8.e 11 ^^^ rotr z8.e 25) + (z8.e &&& z8.f ||| ~~~ z8.e &&& z8.g) = XX := ⟨_, rfl⟩
              rw [hXX]
              have HXX := Lib.hid hXX
              clear hXX
              go_upto_region 19 with fail
              go_wp2_with fail
              refine (rturned_any z8.a 2 V4 (by decide) (by decide)).mono ?_
              rintro e wa ⟨rfl, ha⟩
              have Ha := Lib.hid ha
              clear ha
              go_wp2_with fail
              refine (rturned_any z8.a 13 wa (by decide) (by decide)).mono ?_
              rintro e wb9 ⟨rfl, hb⟩
              have Hb := Lib.hid hb
              clear hb
              go_wp2_with fail
              refine (rturned_any z8.a 22 wb9 (by decide) (by decide)).mono ?_
              rintro e wc9 ⟨rfl, hc⟩
              have hX : Below V4.heap.size V4 wc9 := ((Ha.out.below _).trans (Hb.out.below _)).trans (hc.below _)
              have HVK := Lib.hid ((hX.block _ (lt_of_block HVK.out)).trans HVK.out)
              have HVW := Lib.hid ((hX.block _ (lt_of_block HVW.out)).trans HVW.out)
              have HVA := Lib.hid (HVA.out.next hX)
              clear hX hc Ha Hb
              have HSA : Hid ((stepW z8 KM WM).a = XX + (rotr z8.a 2 ^^^ rotr z8.a 13 ^^^ rotr z8.a 22) + (z8.a &&& z8.b ||| z8.a &&& z8.c ||| z8.b &&& z8.c) ∧ (stepW z8 KM WM).a = XX + ((rotr z8.a 2 ^^^ rotr z8.a 13 ^^^ rotr z8.a 22) + (z8.a &&& z8.b ||| z8.a &&& z8.c ||| z8.b &&& z8.c))) := Lib.hid (by
                have e : xW z8 KM WM = XX := HXX.out
                have e2 : (stepW z8 KM WM).a = XX + ((rotr z8.a 2 ^^^ rotr z8.a 13 ^^^ rotr z8.a 22) + (z8.a &&& z8.b ||| z8.a &&& z8.c ||| z8.b &&& z8.c)) := by
                  show xW z8 KM WM + yW z8 = _
                  rw [e]; rfl
                exact ⟨by rw [e2, BitVec.add_assoc], e2⟩)
              have HSE : Hid ((stepW z8 KM WM).e = z8.d + XX) := Lib.hid (by
                have e : xW z8 KM WM = XX := HXX.out
                show z8.d + xW z8 KM WM = _
                rw [e])
              go_wp2
              go_roundg (64 - (m + 1))
              case rel => exact ⟨m + 1, stepW z8 KM WM, by omega, by go_num, by rw [HSA.out.2], rfl, rfl, rfl, by rw [HSE.out], rfl, rfl, rfl, HNZ, HVK, HVW, HVA⟩
              case measure => omega
            · obtain rfl : m = 64 := by omega
              have i1 : ¬ ((64 : Nat) : Int) < 64 := by decide
              go_upto_region 28 with fail
              have p0 : wr.cell? ⟨pb, 0, none⟩ = some (.int .u32 (wI v.a)) := (block_cell HVA.out.p 0).trans (by rw [← HA9.out]; rfl)
              have p1 : wr.cell? ⟨pb, 1, none⟩ = some (.int .u32 (wI v.b)) := (block_cell HVA.out.p 1).trans (by rw [← HA9.out]; rfl)
              have p2 : wr.cell? ⟨pb, 2, none⟩ = some (.int .u32 (wI v.c)) := (block_cell HVA.out.p 2).trans (by rw [← HA9.out]; rfl)
              have p3 : wr.cell? ⟨pb, 3, none⟩ = some (.int .u32 (wI v.d)) := (block_cell HVA.out.p 3).trans (by rw [← HA9.out]; rfl)
              have p4 : wr.cell? ⟨pb, 4, none⟩ = some (.int .u32 (wI v.e)) := (block_cell HVA.out.p 4).trans (by rw [← HA9.out]; rfl)
              have p5 : wr.cell? ⟨pb, 5, none⟩ = some (.int .u32 (wI v.f)) := (block_cell HVA.out.p 5).trans (by rw [← HA9.out]; rfl)
              have p6 : wr.cell? ⟨pb, 6, none⟩ = some (.int .u32 (wI v.g)) := (block_cell HVA.out.p 6).trans (by rw [← HA9.out]; rfl)
              have p7 : wr.cell? ⟨pb, 7, none⟩ = some (.int .u32 (wI v.h)) := (block_cell HVA.out.p 7).trans (by rw [← HA9.out]; rfl)
              clear HVK HVW hm hlt i1
              refine wp_of_act fun a0 ha0 => ?_
              have E0 : Ev a0 223 [(2, Value.pointer (some ⟨pb, 0, none⟩)), (4, Value.pointer (some ⟨rb, 0, none⟩)), (11, Value.int .u32 (wI z8.a)), (12, Value.int .u32 (wI z8.b)), (13, Value.int .u32 (wI z8.c)), (14, Value.int .u32 (wI z8.d)), (15, Value.int .u32 (wI z8.e)), (16, Value.int .u32 (wI z8.f)), (17, Value.int .u32 (wI z8.g)), (18, Value.int .u32 (wI z8.h))] := by
                refine ⟨by rw [ha0]; rfl, by rw [ha0], ?_⟩
                intro p hp
                simp only [List.mem_cons, List.not_mem_nil, or_false] at hp
                rw [ha0]
                rcases hp with rfl | rfl | rfl | rfl | rfl | rfl | rfl | rfl | rfl | rfl <;> rfl
              clear ha0
              apply wp_region_lit
              refine wpList_readTo rfl (some 190) rfl (Value.pointer (some ⟨pb, 0, none⟩)) ?_ ?_
              case refine_1 =>
                have g2 := E0.atf 0 2 _ rfl
                simp [go_sem, g2]
              have E1 := E0.put 190 (Value.pointer (some ⟨pb, 0, none⟩)) (by decide) rfl
              obtain ⟨a1, ha1⟩ : ∃ b : Act, a0.put (some 190) (Value.pointer (some ⟨pb, 0, none⟩)) = b := ⟨_, rfl⟩
              rw [ha1] at E1 ⊢
              clear ha1 E0
              refine wpList_readTo rfl (some 191) rfl (Value.int .u32 (wI v.a)) ?_ ?_
              case refine_1 =>
                have g190 := E1.atf 0 190 _ rfl
                simp [go_sem, g190, p0]
              have E2 := E1.put 191 (Value.int .u32 (wI v.a)) (by decide) rfl
              obtain ⟨a2, ha2⟩ : ∃ b : Act, a1.put (some 191) (Value.int .u32 (wI v.a)) = b := ⟨_, rfl⟩
              rw [ha2] at E2 ⊢
              clear ha2 E1
              refine wpList_readTo rfl (some 192) rfl (Value.int .u32 (wI z8.a)) ?_ ?_
              case refine_1 =>
                have g11 := E2.atf 4 11 _ rfl
                simp [go_sem, g11]
              have E3 := E2.put 192 (Value.int .u32 (wI z8.a)) (by decide) rfl
              obtain ⟨a3, ha3⟩ : ∃ b : Act, a2.put (some 192) (Value.int .u32 (wI z8.a)) = b := ⟨_, rfl⟩
              rw [ha3] at E3 ⊢
              clear ha3 E2
              refine wpList_readTo rfl (some 193) rfl (Value.int .u32 (wI (v.a + z8.a))) ?_ ?_
              case refine_1 =>
                have g191 := E3.atf 1 191 _ rfl
                have g192 := E3.atf 0 192 _ rfl
                simp [go_sem, g191, g192, bv_add, bv_addm]
              have E4 := E3.put 193 (Value.int .u32 (wI (v.a + z8.a))) (by decide) rfl
              obtain ⟨a4, ha4⟩ : ∃ b : Act, a3.put (some 193) (Value.int .u32 (wI (v.a + z8.a))) = b := ⟨_, rfl⟩
              rw [ha4] at E4 ⊢
              clear ha4 E3
              refine wpList_readTo rfl (some 194) rfl (Value.pointer (some ⟨pb, 1, none⟩)) ?_ ?_
              case refine_1 =>
                have g2 := E4.atf 4 2 _ rfl
                simp [go_sem, g2]
              have E5 := E4.put 194 (Value.pointer (some ⟨pb, 1, none⟩)) (by decide) rfl
              obtain ⟨a5, ha5⟩ : ∃ b : Act, a4.put (some 194) (Value.pointer (some ⟨pb, 1, none⟩)) = b := ⟨_, rfl⟩
              rw [ha5] at E5 ⊢
              clear ha5 E4
              refine wpList_readTo rfl (some 195) rfl (Value.int .u32 (wI v.b)) ?_ ?_
              case refine_1 =>
                have g194 := E5.atf 0 194 _ rfl
                simp [go_sem, g194, p1]
              have E6 := E5.put 195 (Value.int .u32 (wI v.b)) (by decide) rfl
              obtain ⟨a6, ha6⟩ : ∃ b : Act, a5.put (some 195) (Value.int .u32 (wI v.b)) = b := ⟨_, rfl⟩
              rw [ha6] at E6 ⊢
              clear ha6 E5
              refine wpList_readTo rfl (some 196) rfl (Value.int .u32 (wI z8.b)) ?_ ?_
              case refine_1 =>
                have g12 := E6.atf 9 12 _ rfl
                simp [go_sem, g12]
              have E7 := E6.put 196 (Value.int .u32 (wI z8.b)) (by decide) rfl
              obtain ⟨a7, ha7⟩ : ∃ b : Act, a6.put (some 196) (Value.int .u32 (wI z8.b)) = b := ⟨_, rfl⟩
              rw [ha7] at E7 ⊢
              clear ha7 E6
              refine wpList_readTo rfl (some 197) rfl (Value.int .u32 (wI (v.b + z8.b))) ?_ ?_
              case refine_1 =>
                have g195 := E7.atf 1 195 _ rfl
                have g196 := E7.atf 0 196 _ rfl
                simp [go_sem, g195, g196, bv_add, bv_addm]
              have E8 := E7.put 197 (Value.int .u32 (wI (v.b + z8.b))) (by decide) rfl
              obtain ⟨a8, ha8⟩ : ∃ b : Act, a7.put (some 197) (Value.int .u32 (wI (v.b + z8.b))) = b := ⟨_, rfl⟩
              rw [ha8] at E8 ⊢
              clear ha8 E7
              refine wpList_readTo rfl (some 198) rfl (Value.pointer (some ⟨pb, 2, none⟩)) ?_ ?_
              case refine_1 =>
                have g2 := E8.atf 8 2 _ rfl
                simp [go_sem, g2]
              have E9 := E8.put 198 (Value.pointer (some ⟨pb, 2, none⟩)) (by decide) rfl
              obtain ⟨a9, ha9⟩ : ∃ b : Act, a8.put (some 198) (Value.pointer (some ⟨pb, 2, none⟩)) = b := ⟨_, rfl⟩
              rw [ha9] at E9 ⊢
              clear ha9 E8
              refine wpList_readTo rfl (some 199) rfl (Value.int .u32 (wI v.c)) ?_ ?_
              case refine_1 =>
                have g198 := E9.atf 0 198 _ rfl
                simp [go_sem, g198, p2]
              have E10 := E9.put 199 (Value.int .u32 (wI v.c)) (by decide) rfl
              obtain ⟨a10, ha10⟩ : ∃ b : Act, a9.put (some 199) (Value.int .u32 (wI v.c)) = b := ⟨_, rfl⟩
              rw [ha10] at E10 ⊢
              clear ha10 E9
              refine wpList_readTo rfl (some 200) rfl (Value.int .u32 (wI z8.c)) ?_ ?_
              case refine_1 =>
                have g13 := E10.atf 14 13 _ rfl
                simp [go_sem, g13]
              have E11 := E10.put 200 (Value.int .u32 (wI z8.c)) (by decide) rfl
              obtain ⟨a11, ha11⟩ : ∃ b : Act, a10.put (some 200) (Value.int .u32 (wI z8.c)) = b := ⟨_, rfl⟩
              rw [ha11] at E11 ⊢
              clear ha11 E10
              refine wpList_readTo rfl (some 201) rfl (Value.int .u32 (wI (v.c + z8.c))) ?_ ?_
              case refine_1 =>
                have g199 := E11.atf 1 199 _ rfl
                have g200 := E11.atf 0 200 _ rfl
                simp [go_sem, g199, g200, bv_add, bv_addm]
              have E12 := E11.put 201 (Value.int .u32 (wI (v.c + z8.c))) (by decide) rfl
              obtain ⟨a12, ha12⟩ : ∃ b : Act, a11.put (some 201) (Value.int .u32 (wI (v.c + z8.c))) = b := ⟨_, rfl⟩
              rw [ha12] at E12 ⊢
              clear ha12 E11
              refine wpList_readTo rfl (some 202) rfl (Value.pointer (some ⟨pb, 3, none⟩)) ?_ ?_
              case refine_1 =>
                have g2 := E12.atf 12 2 _ rfl
                simp [go_sem, g2]
              have E13 := E12.put 202 (Value.pointer (some ⟨pb, 3, none⟩)) (by decide) rfl
              obtain ⟨a13, ha13⟩ : ∃ b : Act, a12.put (some 202) (Value.pointer (some ⟨pb, 3, none⟩)) = b := ⟨_, rfl⟩
              rw [ha13] at E13 ⊢
              clear ha13 E12
              refine wpList_readTo rfl (some 203) rfl (Value.int .u32 (wI v.d)) ?_ ?_
              case refine_1 =>
                have g202 := E13.atf 0 202 _ rfl
                simp [go_sem, g202, p3]
              have E14 := E13.put 203 (Value.int .u32 (wI v.d)) (by decide) rfl
              obtain ⟨a14, ha14⟩ : ∃ b : Act, a13.put (some 203) (Value.int .u32 (wI v.d)) = b := ⟨_, rfl⟩
              rw [ha14] at E14 ⊢
              clear ha14 E13
              refine wpList_readTo rfl (some 204) rfl (Value.int .u32 (wI z8.d)) ?_ ?_
              case refine_1 =>
                have g14 := E14.atf 19 14 _ rfl
                simp [go_sem, g14]
              have E15 := E14.put 204 (Value.int .u32 (wI z8.d)) (by decide) rfl
              obtain ⟨a15, ha15⟩ : ∃ b : Act, a14.put (some 204) (Value.int .u32 (wI z8.d)) = b := ⟨_, rfl⟩
              rw [ha15] at E15 ⊢
              clear ha15 E14
              refine wpList_readTo rfl (some 205) rfl (Value.int .u32 (wI (v.d + z8.d))) ?_ ?_
              case refine_1 =>
                have g203 := E15.atf 1 203 _ rfl
                have g204 := E15.atf 0 204 _ rfl
                simp [go_sem, g203, g204, bv_add, bv_addm]
              have E16 := E15.put 205 (Value.int .u32 (wI (v.d + z8.d))) (by decide) rfl
              obtain ⟨a16, ha16⟩ : ∃ b : Act, a15.put (some 205) (Value.int .u32 (wI (v.d + z8.d))) = b := ⟨_, rfl⟩
              rw [ha16] at E16 ⊢
              clear ha16 E15
              refine wpList_readTo rfl (some 206) rfl (Value.pointer (some ⟨pb, 4, none⟩)) ?_ ?_
              case refine_1 =>
                have g2 := E16.atf 16 2 _ rfl
                simp [go_sem, g2]
              have E17 := E16.put 206 (Value.pointer (some ⟨pb, 4, none⟩)) (by decide) rfl
              obtain ⟨a17, ha17⟩ : ∃ b : Act, a16.put (some 206) (Value.pointer (some ⟨pb, 4, none⟩)) = b := ⟨_, rfl⟩
              rw [ha17] at E17 ⊢
              clear ha17 E16
              refine wpList_readTo rfl (some 207) rfl (Value.int .u32 (wI v.e)) ?_ ?_
              case refine_1 =>
                have g206 := E17.atf 0 206 _ rfl
                simp [go_sem, g206, p4]
              have E18 := E17.put 207 (Value.int .u32 (wI v.e)) (by decide) rfl
              obtain ⟨a18, ha18⟩ : ∃ b : Act, a17.put (some 207) (Value.int .u32 (wI v.e)) = b := ⟨_, rfl⟩
              rw [ha18] at E18 ⊢
              clear ha18 E17
              refine wpList_readTo rfl (some 208) rfl (Value.int .u32 (wI z8.e)) ?_ ?_
              case refine_1 =>
                have g15 := E18.atf 24 15 _ rfl
                simp [go_sem, g15]
              have E19 := E18.put 208 (Value.int .u32 (wI z8.e)) (by decide) rfl
              obtain ⟨a19, ha19⟩ : ∃ b : Act, a18.put (some 208) (Value.int .u32 (wI z8.e)) = b := ⟨_, rfl⟩
              rw [ha19] at E19 ⊢
              clear ha19 E18
              refine wpList_readTo rfl (some 209) rfl (Value.int .u32 (wI (v.e + z8.e))) ?_ ?_
              case refine_1 =>
                have g207 := E19.atf 1 207 _ rfl
                have g208 := E19.atf 0 208 _ rfl
                simp [go_sem, g207, g208, bv_add, bv_addm]
              have E20 := E19.put 209 (Value.int .u32 (wI (v.e + z8.e))) (by decide) rfl
              obtain ⟨a20, ha20⟩ : ∃ b : Act, a19.put (some 209) (Value.int .u32 (wI (v.e + z8.e))) = b := ⟨_, rfl⟩
              rw [ha20] at E20 ⊢
              clear ha20 E19
              refine wpList_readTo rfl (some 210) rfl (Value.pointer (some ⟨pb, 5, none⟩)) ?_ ?_
              case refine_1 =>
                have g2 := E20.atf 20 2 _ rfl
                simp [go_sem, g2]
              have E21 := E20.put 210 (Value.pointer (some ⟨pb, 5, none⟩)) (by decide) rfl
              obtain ⟨a21, ha21⟩ : ∃ b : Act, a20.put (some 210) (Value.pointer (some ⟨pb, 5, none⟩)) = b := ⟨_, rfl⟩
              rw [ha21] at E21 ⊢
              clear ha21 E20
              refine wpList_readTo rfl (some 211) rfl (Value.int .u32 (wI v.f)) ?_ ?_
              case refine_1 =>
                have g210 := E21.atf 0 210 _ rfl
                simp [go_sem, g210, p5]
              have E22 := E21.put 211 (Value.int .u32 (wI v.f)) (by decide) rfl
              obtain ⟨a22, ha22⟩ : ∃ b : Act, a21.put (some 211) (Value.int .u32 (wI v.f)) = b := ⟨_, rfl⟩
              rw [ha22] at E22 ⊢
              clear ha22 E21
              refine wpList_readTo rfl (some 212) rfl (Value.int .u32 (wI z8.f)) ?_ ?_
              case refine_1 =>
                have g16 := E22.atf 29 16 _ rfl
                simp [go_sem, g16]
              have E23 := E22.put 212 (Value.int .u32 (wI z8.f)) (by decide) rfl
              obtain ⟨a23, ha23⟩ : ∃ b : Act, a22.put (some 212) (Value.int .u32 (wI z8.f)) = b := ⟨_, rfl⟩
              rw [ha23] at E23 ⊢
              clear ha23 E22
              refine wpList_readTo rfl (some 213) rfl (Value.int .u32 (wI (v.f + z8.f))) ?_ ?_
              case refine_1 =>
                have g211 := E23.atf 1 211 _ rfl
                have g212 := E23.atf 0 212 _ rfl
                simp [go_sem, g211, g212, bv_add, bv_addm]
              have E24 := E23.put 213 (Value.int .u32 (wI (v.f + z8.f))) (by decide) rfl
              obtain ⟨a24, ha24⟩ : ∃ b : Act, a23.put (some 213) (Value.int .u32 (wI (v.f + z8.f))) = b := ⟨_, rfl⟩
              rw [ha24] at E24 ⊢
              clear ha24 E23
              refine wpList_readTo rfl (some 214) rfl (Value.pointer (some ⟨pb, 6, none⟩)) ?_ ?_
              case refine_1 =>
                have g2 := E24.atf 24 2 _ rfl
                simp [go_sem, g2]
              have E25 := E24.put 214 (Value.pointer (some ⟨pb, 6, none⟩)) (by decide) rfl
              obtain ⟨a25, ha25⟩ : ∃ b : Act, a24.put (some 214) (Value.pointer (some ⟨pb, 6, none⟩)) = b := ⟨_, rfl⟩
              rw [ha25] at E25 ⊢
              clear ha25 E24
              refine wpList_readTo rfl (some 215) rfl (Value.int .u32 (wI v.g)) ?_ ?_
              case refine_1 =>
                have g214 := E25.atf 0 214 _ rfl
                simp [go_sem, g214, p6]
              have E26 := E25.put 215 (Value.int .u32 (wI v.g)) (by decide) rfl
              obtain ⟨a26, ha26⟩ : ∃ b : Act, a25.put (some 215) (Value.int .u32 (wI v.g)) = b := ⟨_, rfl⟩
              rw [ha26] at E26 ⊢
              clear ha26 E25
              refine wpList_readTo rfl (some 216) rfl (Value.int .u32 (wI z8.g)) ?_ ?_
              case refine_1 =>
                have g17 := E26.atf 34 17 _ rfl
                simp [go_sem, g17]
              have E27 := E26.put 216 (Value.int .u32 (wI z8.g)) (by decide) rfl
              obtain ⟨a27, ha27⟩ : ∃ b : Act, a26.put (some 216) (Value.int .u32 (wI z8.g)) = b := ⟨_, rfl⟩
              rw [ha27] at E27 ⊢
              clear ha27 E26
              refine wpList_readTo rfl (some 217) rfl (Value.int .u32 (wI (v.g + z8.g))) ?_ ?_
              case refine_1 =>
                have g215 := E27.atf 1 215 _ rfl
                have g216 := E27.atf 0 216 _ rfl
                simp [go_sem, g215, g216, bv_add, bv_addm]
              have E28 := E27.put 217 (Value.int .u32 (wI (v.g + z8.g))) (by decide) rfl
              obtain ⟨a28, ha28⟩ : ∃ b : Act, a27.put (some 217) (Value.int .u32 (wI (v.g + z8.g))) = b := ⟨_, rfl⟩
              rw [ha28] at E28 ⊢
              clear ha28 E27
              refine wpList_readTo rfl (some 218) rfl (Value.pointer (some ⟨pb, 7, none⟩)) ?_ ?_
              case refine_1 =>
                have g2 := E28.atf 28 2 _ rfl
                simp [go_sem, g2]
              have E29 := E28.put 218 (Value.pointer (some ⟨pb, 7, none⟩)) (by decide) rfl
              obtain ⟨a29, ha29⟩ : ∃ b : Act, a28.put (some 218) (Value.pointer (some ⟨pb, 7, none⟩)) = b := ⟨_, rfl⟩
              rw [ha29] at E29 ⊢
              clear ha29 E28
              refine wpList_readTo rfl (some 219) rfl (Value.int .u32 (wI v.h)) ?_ ?_
              case refine_1 =>
                have g218 := E29.atf 0 218 _ rfl
                simp [go_sem, g218, p7]
              have E30 := E29.put 219 (Value.int .u32 (wI v.h)) (by decide) rfl
              obtain ⟨a30, ha30⟩ : ∃ b : Act, a29.put (some 219) (Value.int .u32 (wI v.h)) = b := ⟨_, rfl⟩
              rw [ha30] at E30 ⊢
              clear ha30 E29
              refine wpList_readTo rfl (some 220) rfl (Value.int .u32 (wI z8.h)) ?_ ?_
              case refine_1 =>
                have g18 := E30.atf 39 18 _ rfl
                simp [go_sem, g18]
              have E31 := E30.put 220 (Value.int .u32 (wI z8.h)) (by decide) rfl
              obtain ⟨a31, ha31⟩ : ∃ b : Act, a30.put (some 220) (Value.int .u32 (wI z8.h)) = b := ⟨_, rfl⟩
              rw [ha31] at E31 ⊢
              clear ha31 E30
              refine wpList_readTo rfl (some 221) rfl (Value.int .u32 (wI (v.h + z8.h))) ?_ ?_
              case refine_1 =>
                have g219 := E31.atf 1 219 _ rfl
                have g220 := E31.atf 0 220 _ rfl
                simp [go_sem, g219, g220, bv_add, bv_addm]
              have E32 := E31.put 221 (Value.int .u32 (wI (v.h + z8.h))) (by decide) rfl
              obtain ⟨a32, ha32⟩ : ∃ b : Act, a31.put (some 221) (Value.int .u32 (wI (v.h + z8.h))) = b := ⟨_, rfl⟩
              rw [ha32] at E32 ⊢
              clear ha32 E31
              refine wpList_build_ofR rfl 222 _ rfl (wsC (stL (plusW v z8))) ?_ ?_
              case refine_1 =>
                have hb8 : ∀ x0 x1 x2 x3 x4 x5 x6 x7 : Value, x0 = .int .u32 (wI (v.a + z8.a)) → x1 = .int .u32 (wI (v.b + z8.b)) → x2 = .int .u32 (wI (v.c + z8.c)) → x3 = .int .u32 (wI (v.d + z8.d)) → x4 = .int .u32 (wI (v.e + z8.e)) → x5 = .int .u32 (wI (v.f + z8.f)) → x6 = .int .u32 (wI (v.g + z8.g)) → x7 = .int .u32 (wI (v.h + z8.h)) → Tryz.prog.built 222 [(0, x0), (1, x1), (2, x2), (3, x3), (4, x4), (5, x5), (6, x6), (7, x7)] = some (wsC (stL (plusW v z8))) := by
                  rintro _ _ _ _ _ _ _ _ rfl rfl rfl rfl rfl rfl rfl rfl
                  kernel_rfl
                simp only [List.map_toArray, List.map_cons, List.map_nil]
                exact hb8 _ _ _ _ _ _ _ _ (E32.at 28 193 _ rfl) (E32.at 24 197 _ rfl) (E32.at 20 201 _ rfl) (E32.at 16 205 _ rfl) (E32.at 12 209 _ rfl) (E32.at 8 213 _ rfl) (E32.at 4 217 _ rfl) (E32.at 0 221 _ rfl)
              have E33 := E32.put 222 (.agg (wsC (stL (plusW v z8)))) (by decide) rfl
              obtain ⟨a33, ha33⟩ : ∃ b : Act, a32.put (some 222) (.agg (wsC (stL (plusW v z8)))) = b := ⟨_, rfl⟩
              change wpList _ _ _ _ (a32.put (some 222) (.agg (wsC (stL (plusW v z8))))) _
              rw [ha33] at E33 ⊢
              clear ha33 E32
              refine wpList_store_row rfl 222 _ _ rfl rb (wsC (stL (plusW v z8))) (E33.at 34 4 _ rfl) (E33.at 0 222 _ rfl) 222 _ HVA.out.r (by kernel_rfl) rfl (by kernel_rfl) ?_
              apply wpList_nil
              obtain ⟨U, hU⟩ : ∃ U, wr.setRow rb (wsC (stL (plusW v z8))) = U := ⟨_, rfl⟩
              have HU : Hid (U.heap[rb]? = some (.cells (wsC (stL (plusW v z8))) 222 (0, 0))) := Lib.hid (by rw [← hU]; exact setRow_heap wr rb _ _ _ _ HVA.out.r)
              have HUB : Hid (Below w.heap.size w U) := Lib.hid (by
                rw [← hU]
                have h1 := HVA.out.below
                exact ⟨h1.os, h1.tape, h1.output, by rw [setRow_size]; exact h1.size, fun i hi => by rw [setRow_other _ _ _ _ (show i ≠ rb by have := HNE.out.2.1; omega)]; exact h1.block i hi⟩)
              rw [hU]
              clear hU
              rename_i hK
              refine hK _ _ ?_
              apply wp_ret
              refine bodyPost_ret (v := .agg (wsC (stL (plusW v z8)))) ?_ E33.2.1 ?_
              · exact results_cell_row rfl _ _ rb 222 (wsC (stL (plusW v z8))) (0, 0) _ (E33.at 34 4 _ rfl) HU.out rfl rfl (by as_aux_lemma => kernel_rfl)
              · refine ⟨?_, HUB.out⟩
                rw [HLL.out]
                unfold pressW
                rw [HWS.out, HZ.out]
end Go.Proofs.YtpobhbdomldecaaGreatDoor
