/- Parts of the proof, one behind the other. -/
import Derived.Test.YtpobhbdomldecaaGreatDoorHknP2
import Derived.Laws.EntriesVeiled
import Derived.BigQuiet
import Derived.Laws.AppendOwnNone
import Derived.Carry
import Derived.Lib.Strings
import Derived.Great.Walk
import Derived.Laws.AppendOwn
import Derived.Laws.MakeOwn
import Derived.Defers
import Derived.Recover
import Derived.Maps.AppendAt
import Derived.ArgAppend
namespace Go.Proofs.YtpobhbdomldecaaGreatDoor
open Go.RowKit
set_option linter.unusedSimpArgs false
set_option linter.unusedVariables false
def zero8 : List W32 := List.replicate 8 0
set_option maxRecDepth 100000 in
set_option maxHeartbeats 4000000 in
theorem first_any (w : World) : Calls Tryz.prog 219 #[] w fun e w' => e = .returned (.agg (wsC (stL st0))) ∧ Below w.heap.size w w' := by
  go_enter Tryz.func219, Tryz.ntmps219
  go_upto_region 1 with fail
  obtain ⟨b, hb⟩ : ∃ b, w.heap.size = b := ⟨_, rfl⟩
  show Code.wp _ _ _ _ (w.alloc (.cells (wsC zero8) 246))
  obtain ⟨V, hV⟩ : ∃ V, w.alloc (.cells (wsC zero8) 246) = V := ⟨_, rfl⟩
  have HV : Hid (V.heap[b]? = some (.cells (wsC zero8) 246 (0, 0))) := Lib.hid (by rw [← hV, ← hb]; exact heap_alloc_new _ _)
  have HS : Hid (Below w.heap.size w V) := Lib.hid (by rw [← hV]; exact balloc (Below.refl _ _) _)
  have HBW : Hid (w.heap.size ≤ b) := Lib.hid (Nat.le_of_eq hb)
  rw [hV, hb]
  clear hV hb
  apply wp_region_lit
  refine wpList_build rfl 246 _ rfl (by as_aux_lemma => kernel_rfl) ?_
  refine wpList_store_row rfl 246 _ _ rfl b (wsC (stL st0)) rfl (by as_aux_lemma => kernel_rfl) 246 (wsC zero8) HV.out (by as_aux_lemma => kernel_rfl) (by as_aux_lemma => kernel_rfl) (by as_aux_lemma => kernel_rfl) ?_
  apply wpList_nil
  obtain ⟨U, hU⟩ : ∃ U, V.setRow b (wsC (stL st0)) = U := ⟨_, rfl⟩
  have HU : Hid (U.heap[b]? = some (.cells (wsC (stL st0)) 246 (0, 0))) := Lib.hid (by rw [← hU]; exact setRow_heap V b _ _ _ _ HV.out)
  have HUB : Hid (Below w.heap.size w U) := Lib.hid (by
    rw [← hU]
    exact ⟨HS.out.os, HS.out.tape, HS.out.output, by rw [setRow_size]; exact HS.out.size, fun i hi => by rw [setRow_other _ _ _ _ (show i ≠ b by have := HBW.out; omega)]; exact HS.out.block i hi⟩)
  rw [hU]
  rename_i Q' K hK
  refine hK _ _ ?_
  apply wp_ret
  refine bodyPost_ret (v := .agg (wsC (stL st0))) ?_ rfl ?_
  · exact results_cell_row rfl _ _ b 246 (wsC (stL st0)) (0, 0) _ rfl HU.out rfl rfl (by as_aux_lemma => kernel_rfl)
  · exact ⟨rfl, HUB.out⟩
def zero64 : List UInt8 := List.replicate 64 0
set_option maxRecDepth 100000 in
theorem built_hsh : Tryz.prog.built 250 [(0, .agg (wsC (stL st0)))] = some (hshC st0 zero64 ((0 : Nat) : Int)) := by kernel_rfl
def NewIsH (w : World) (e : Ending) (w' : World) : Prop := ∃ b, e = .returned (.pointer (some ⟨b, 0, none⟩)) ∧ w.heap.size ≤ b ∧ HshIs b [] w' ∧ Below w.heap.size w w'
theorem zero64_len : zero64.length = 64 := by unfold zero64; rw [List.length_replicate]
set_option maxRecDepth 100000 in
set_option maxHeartbeats 4000000 in
theorem hnew_any (w : World) : Calls Tryz.prog 158 #[] w (NewIsH w) := by
  have HB := Lib.hid built_hsh
  have HF := Lib.hid first_any
  go_enter Tryz.func158, Tryz.ntmps158
  go_upto_region 1 with fail
  go_wp2_with fail
  refine (HF.out _).mono ?_
  rintro e w2 ⟨rfl, hb2⟩
  have HB2 := Lib.hid hb2
  clear hb2
  have hA : wsC (stL st0) = #[.int .u32 1779033703, .int .u32 3144134277, .int .u32 1013904242, .int .u32 2773480762, .int .u32 1359893119, .int .u32 2600822924, .int .u32 528734635, .int .u32 1541459225] := by kernel_rfl
  rw [hA]
  clear hA
  go_wp2
  go_ret
  refine ⟨w2.heap.size, rfl, HB2.out.size, ⟨st0, zero64, HoldsT.start _ zero64_len, (heap_alloc_new _ _).trans ?_⟩, balloc HB2.out _⟩
  kernel_rfl
theorem info_b8 : (Tryz.prog.info? 5).map (fun i => (i.zero, i.size, i.bytes)) = some (some (.int .u8 0), 1, 1) := by kernel_rfl
theorem index_8 (v : St8) (t : Nat) (h : t < 8) (w : World) : (Instr.index 246 (.agg (wsC (stL v))) (.int .i64 (t : Int))).run Tryz.prog w = .ok (.int .u32 (wI (wth (stL v) t))) w := by
  have hk : (wsC (stL v))[t]? = some (wV (wth (stL v) t)) := wsC_at (stL v) t h
  have hs : (wsC (stL v)).size = 8 := rfl
  generalize wsC (stL v) = KC at hk hs
  have b : ¬ (8 : Int) ≤ (t : Int) := by omega
  have b2 : ¬ (t : Int) < 0 := by omega
  unfold Instr.index
  simp [go_sem, hk, hs, b, b2]
  intro h9
  omega
theorem HshIs.count {b : Nat} {L : List UInt8} {w : World} (h : HshIs b L w) {n : Nat} (hn : len L = n) : w.cell? ⟨b, 72, none⟩ = some (.int .u64 (n : Nat)) := by
  obtain ⟨v, r, h1, h2⟩ := h
  rw [block_cell h2, hshC_n _ _ _ h1.rest, hn]
theorem below_own {B : Nat} {row : Nat} {w V w2 : World} (h1 : Below B w V) (hr : B ≤ row) (hB : B ≤ V.heap.size) (h2 : ExtB (some row) V w2) : Below B w w2 :=
  ⟨h2.os.trans h1.os, h2.tape.trans h1.tape, h2.output.trans h1.output, Nat.le_trans h1.size h2.size, fun i hi => (h2.block i (by omega) (by simp; omega)).trans (h1.block i hi)⟩
theorem hshC_one (v : St8) (r : List UInt8) (n : Int) : (hshC v r n).all (·.oneCell') = true := by
  unfold hshC
  rw [Array.all_eq_true]
  intro i hi
  have : ∀ x ∈ (stL v).map wV ++ r.map bV ++ [Value.int .u64 n], x.oneCell' = true := by
    intro x hx
    simp only [List.mem_append, List.mem_map, List.mem_singleton] at hx
    rcases hx with (⟨a, _, rfl⟩ | ⟨a, _, rfl⟩) | rfl <;> rfl
  exact this _ (by simp)
set_option maxRecDepth 100000 in
set_option maxHeartbeats 4000000 in
theorem hsum_any (hb : Nat) (L : List UInt8) (w : World) (h : HshIs hb L w) (hl : len L ≤ 1152921504606846976) :
    Calls Tryz.prog 160 #[.pointer (some ⟨hb, 0, none⟩)] w fun e w' => e = .returned (.string ⟨(shaL L).toArray⟩) ∧ Below w.heap.size w w' := by
  obtain ⟨v, r, hT, hc⟩ := h
  obtain ⟨n, hn⟩ : ∃ n, len L = n := ⟨_, rfl⟩
  rw [hn] at hc hl
  obtain ⟨Cc, hCc⟩ : ∃ Cc, hshC v r (n : Nat) = Cc := ⟨_, rfl⟩
  have HCC := Lib.hid hCc
  have HSZ : Hid (Cc.size = 73) := Lib.hid (by rw [← hCc, hshC_size _ _ _ hT.rest])
  have HON : Hid (Cc.all (·.oneCell') = true) := Lib.hid (by rw [← hCc]; exact hshC_one _ _ _)
  rw [hCc] at hc
  have HC := Lib.hid hc
  have HT := Lib.hid hT
  have HN := Lib.hid hn
  have HL := Lib.hid hl
  have HI : Hid ((Tryz.prog.info? 250).map (·.size) = some Cc.size) := Lib.hid (by rw [HSZ.out]; kernel_rfl)
  clear hc hT hn hl hCc
  go_enter Tryz.func160, Tryz.ntmps160
  go_upto_region 3 with fail
  go_upto_region 4 with (first | (refine wpList_load_row (o := ⟨some 14, _, _, _, _, _⟩) ?_ 250 (.tmp 13) ?_ hb ?_ 250 Cc (0, 0) _ HC.out Tryz.underlying250 ?_ HI.out ?_; rfl; rfl; rfl; rfl; skip) | (refine wpList_store_row ?_ 250 (.tmp 3) (.tmp 14) ?_ w.heap.size Cc ?_ ?_ 250 _ (heap_alloc_new _ _) HI.out ?_ HON.out ?_; rfl; rfl; rfl; rfl; (rw [HSZ.out]; kernel_rfl); skip))
  obtain ⟨cb, hcb⟩ : ∃ cb, w.heap.size = cb := ⟨_, rfl⟩
  rw [hcb]
  obtain ⟨V, hV⟩ : ∃ V, (w.alloc (.cells Tryz.zeroCells250 250)).setRow cb Cc = V := ⟨_, rfl⟩
  rw [hV]
  have HVB : Hid (V.heap[cb]? = some (.cells (hshC v r (n : Nat)) 250 (0, 0))) := Lib.hid (by rw [HCC.out, ← hV, ← hcb]; exact setRow_heap _ _ _ _ _ _ (heap_alloc_new _ _))
  have HVW : Hid (Below w.heap.size w V) := Lib.hid (by
    rw [← hV]
    have h1 : Below w.heap.size w (w.alloc (.cells Tryz.zeroCells250 250)) := balloc (Below.refl _ _) _
    exact ⟨h1.os, h1.tape, h1.output, by rw [setRow_size]; exact h1.size, fun i hi => by rw [setRow_other _ _ _ _ (show i ≠ cb by omega)]; exact h1.block i hi⟩)
  have HCB : Hid (w.heap.size ≤ cb) := Lib.hid (Nat.le_of_eq hcb)
  have HH : Hid (HshIs cb L V) := Lib.hid (HshIs.intro HT.out (by rw [HN.out]) HVB.out)
  have c72 : V.cell? ⟨cb, 72, none⟩ = some (.int .u64 n) := by rw [block_cell HVB.out, hshC_n _ _ _ HT.out.rest]
  have w8 : IntKind.u64.wrap ((n : Int) * 8) = (n : Int) * 8 := IntWalk.u64_in _ (by have := HL.out; omega)
  clear hV hcb HVB HC HI HON HSZ HCC
  go_upto_region 5 with fail
  clear c72 w8
  have cv : (convert 41 9 (.slice (some ⟨V.heap.size, 0, none⟩) 1 1)).run Tryz.prog (V.alloc (.cells #[.int .u8 128] 5)) = .ok (.string ⟨#[128]⟩) (V.alloc (.cells #[.int .u8 128] 5)) := conv_new V 5 1 1 [128] rfl
  go_wp2_with fail
  have HV1 := Lib.hid (write_any cb L ⟨#[128]⟩ (V.alloc (.cells #[.int .u8 128] 5)) (HH.out.keep (balloc (Below.refl _ _) _)) (by have h1 := HL.out; have h2 := HN.out; rw [h2]; show n + 1 ≤ _; omega))
  refine HV1.out.mono ?_
  rintro e w2 ⟨rfl, hE, hH⟩
  have HH := Lib.hid hH
  have HVW : Hid (Below w.heap.size w w2) := Lib.hid (below_own HVW.out HCB.out HVW.out.size (ExtB_trans _ _ _ _ (extB_alloc _ _ _) hE))
  have HH : Hid (HshIs cb (L ++ [128] ++ List.replicate 0 0) w2) := Lib.hid (by rw [List.replicate_zero, List.append_nil]; exact HH.out)
  clear hE hH HV1 cv
  go_upto_region 6 with fail
  go_loopg [21] (zerosW n) (fun g _ wr => ∃ m : Nat, g + m = zerosW n ∧ Hid (HshIs cb (L ++ [128] ++ List.replicate m 0) wr) ∧ Hid (Below w.heap.size w wr))
  case atStart => exact ⟨0, rfl, HH, HVW⟩
  case round =>
    clear HH HVW
    obtain ⟨m, hm, HH, HVW⟩ := hrel
    have hz := zerosW_le n
    have HLEN : Hid (len (L ++ [128] ++ List.replicate m 0) = n + 1 + m) := Lib.hid (by
      have := HN.out
      rw [len_eq] at this
      rw [len_eq, List.length_append, List.length_append, List.length_replicate, this]
      rfl)
    have c72 := HH.out.count HLEN.out
    obtain ⟨q, hq⟩ : ∃ q, n + 1 + m = q := ⟨_, rfl⟩
    rw [hq] at c72 HLEN
    have HQ : Hid (q ≤ n + 64) := Lib.hid (by omega)
    by_cases hlt : m < zerosW n
    · have q1 : ¬ ((q : Nat) : Int) % 64 = 56 := by have := zerosW_not n m hlt; omega
      clear hq
      go_wp2_with fail
      have HV1 := Lib.hid (write_any cb _ ⟨#[0]⟩ wr HH.out (by rw [HLEN.out]; have h1 := HL.out; have h2 := HQ.out; show _ + 1 ≤ _; omega))
      refine HV1.out.mono ?_
      rintro e w2 ⟨rfl, hE, hH⟩
      have HV2 : Hid (Below w.heap.size w w2) := Lib.hid (below_own HVW.out HCB.out HVW.out.size hE)
      have HH2 : Hid (HshIs cb (L ++ [128] ++ List.replicate (m + 1) 0) w2) := Lib.hid (by
        have e9 : L ++ [128] ++ List.replicate (m + 1) 0 = L ++ [128] ++ List.replicate m 0 ++ [0] := by rw [List.replicate_succ', List.append_assoc (L ++ [128])]
        rw [e9]
        exact hH)
      clear hE hH HV1
      go_wp2
      go_roundg (zerosW n - (m + 1))
      case rel => exact ⟨m + 1, by omega, HH2, HV2⟩
      case measure => omega
    · obtain rfl : m = zerosW n := by omega
      have q1 : ((q : Nat) : Int) % 64 = 56 := by have := zerosW_end n; omega
      clear hq hz hlt hm
      go_upto_region 9 with fail
      obtain ⟨N, hN⟩ : ∃ N : Nat, n * 8 = N := ⟨_, rfl⟩
      rw [show (n : Int) * 8 = ((N : Nat) : Int) by omega]
      have HN8 := Lib.hid hN
      obtain ⟨L1, hL1⟩ : ∃ L1, L ++ [128] ++ List.replicate (zerosW n) 0 = L1 := ⟨_, rfl⟩
      rw [hL1] at HH HLEN
      have HL1 := Lib.hid hL1
      obtain ⟨lb, hlb⟩ : ∃ lb, wr.heap.size = lb := ⟨_, rfl⟩
      obtain ⟨U, hU⟩ : ∃ U, wr.alloc (.cells (filC (num8 N) 8 0) 68) = U := ⟨_, rfl⟩
      have HUB : Hid (U.heap[lb]? = some (.cells (filC (num8 N) 8 0) 68 (0, 0))) := Lib.hid (by rw [← hU]; exact alloc_new_at _ hlb)
      have HUH : Hid (HshIs cb L1 U) := Lib.hid (by rw [← hU]; exact HH.out.keep (balloc (Below.refl _ _) _))
      have HUW : Hid (Below w.heap.size w U) := Lib.hid (by rw [← hU]; exact balloc HVW.out _)
      have HLB : Hid (w.heap.size ≤ lb ∧ cb < lb) := Lib.hid ⟨by rw [← hlb]; exact HVW.out.size, by rw [← hlb]; exact HH.out.lt⟩
      rw [hlb]
      change Code.wp _ _ _ _ (wr.alloc (.cells (filC (num8 N) 8 0) 68))
      rw [hU]
      clear hU hlb hL1 hN c72 q1 HH HVW
      go_wp2
      go_loopg [26, 6] 8 (fun g i _ wr => ∃ m : Nat, g + m = 8 ∧ i = .int .i64 m ∧ Hid (wr.heap[lb]? = some (.cells (filC (num8 N) 8 m) 68 (0, 0))) ∧ Hid (HshIs cb L1 wr) ∧ Hid (Below w.heap.size w wr))
      case atStart => exact ⟨0, rfl, rfl, HUB, HUH, HUW⟩
      case round =>
        clear HUB HUH HUW
        obtain ⟨m, hm, rfl, HUB, HUH, HUW⟩ := hrel
        by_cases hlt : m < 8
        · have i1 : (m : Int) < 8 := by omega
          have i2 : IntKind.i64.wrap (7 - (m : Int)) = 7 - (m : Int) := IntWalk.i64_in _ (by omega)
          have i3 : IntKind.i64.wrap (8 * (7 - (m : Int))) = 8 * (7 - (m : Int)) := IntWalk.i64_in _ (by omega)
          have i4 : ¬ 8 * (7 - (m : Int)) < 0 := by omega
          have i5 : ¬ (8 : Int) ≤ (m : Int) := by omega
          obtain ⟨W, hW⟩ : ∃ W, wr = W := ⟨_, rfl⟩
          rw [hW] at HUB HUH HUW ⊢
          have c0 : W.cell? ⟨lb, m, none⟩ = some (byV 0) := by rw [block_cell HUB.out, filC_at _ _ _ hlt (num8_len N)]
          have c1 : W.frozen? ⟨lb, m, none⟩ = false := block_free HUB.out m
          have c2 : lb < W.heap.size := lt_of_block HUB.out
          clear hW
          go_upto_region 13 with fail
          rw [num8_byte N m hlt]
          clear c0 c1 c2 i2 i3 i4 i5
          have HU2 : Hid ((W.setCell ⟨lb, m, none⟩ (byV ((num8 N).getD m 0))).heap[lb]? = some (.cells (filC (num8 N) 8 (m + 1)) 68 (0, 0))) := Lib.hid (by
            have := block_setCell HUB.out (o := m) (byV ((num8 N).getD m 0))
            rw [filC_set _ _ _ hlt (num8_len N)] at this
            exact this)
          have HU3 : Hid (HshIs cb L1 (W.setCell ⟨lb, m, none⟩ (byV ((num8 N).getD m 0)))) := Lib.hid (by
            obtain ⟨v9, r9, h1, h2⟩ := HUH.out
            exact ⟨v9, r9, h1, block_setCell_ne h2 (show cb ≠ lb by have := HLB.out.2; omega) _⟩)
          have HU4 : Hid (Below w.heap.size w (W.setCell ⟨lb, m, none⟩ (byV ((num8 N).getD m 0)))) := Lib.hid (bset HUW.out HLB.out.1 _)
          go_wp2
          go_roundg (8 - (m + 1))
          case rel => exact ⟨m + 1, by omega, by go_num, HU2, HU3, HU4⟩
          case measure => omega
        · obtain rfl : m = 8 := by omega
          have i1 : ¬ ((8 : Nat) : Int) < 8 := by decide
          have HUB := Lib.hid (by have h := HUB.out; rw [filC_all _ _ (num8_len N)] at h; exact h)
          have cv : (convert 41 9 (.slice (some ⟨lb, 0, none⟩) 8 8)).run Tryz.prog wr = .ok (.string ⟨(num8 N).toArray⟩) wr := conv_block wr lb 0 8 8 (num8 N) (num8_len N) (fun i hi => byV_block HUB.out i (by rw [num8_len]; exact hi))
          go_wp2_with fail
          have HV1 := Lib.hid (write_any cb L1 ⟨(num8 N).toArray⟩ wr HUH.out (by rw [HLEN.out]; have h1 := HL.out; have h2 := HQ.out; show _ + (num8 N).length ≤ _; rw [num8_len]; omega))
          refine HV1.out.mono ?_
          rintro e w3 ⟨rfl, hE, hH⟩
          have HW3 : Hid (Below w.heap.size w w3) := Lib.hid (below_own HUW.out HCB.out HUW.out.size hE)
          have HH3 : Hid (HshIs cb (padW L) w3) := Lib.hid (by
            have h1 := HN.out
            rw [len_eq] at h1
            have h2 : padW L = L1 ++ num8 N := by
              rw [padW_parts, ← HL1.out, h1, ← HN8.out, Nat.mod_eq_of_lt (by have := HL.out; omega), Nat.mul_comm]
            rw [h2]
            exact hH)
          clear hE hH HV1 cv HUB HUH HUW i1
          obtain ⟨z, r9, hz, hzb⟩ := HH3.out
          have HZ := Lib.hid hz
          have x0 : w3.cell? ⟨cb, 0, none⟩ = some (.int .u32 (wI z.a)) := by rw [block_cell hzb, hshC_word _ _ _ 0 (by decide)]; rfl
          have x1 : w3.cell? ⟨cb, 1, none⟩ = some (.int .u32 (wI z.b)) := by rw [block_cell hzb, hshC_word _ _ _ 1 (by decide)]; rfl
          have x2 : w3.cell? ⟨cb, 2, none⟩ = some (.int .u32 (wI z.c)) := by rw [block_cell hzb, hshC_word _ _ _ 2 (by decide)]; rfl
          have x3 : w3.cell? ⟨cb, 3, none⟩ = some (.int .u32 (wI z.d)) := by rw [block_cell hzb, hshC_word _ _ _ 3 (by decide)]; rfl
          have x4 : w3.cell? ⟨cb, 4, none⟩ = some (.int .u32 (wI z.e)) := by rw [block_cell hzb, hshC_word _ _ _ 4 (by decide)]; rfl
          have x5 : w3.cell? ⟨cb, 5, none⟩ = some (.int .u32 (wI z.f)) := by rw [block_cell hzb, hshC_word _ _ _ 5 (by decide)]; rfl
          have x6 : w3.cell? ⟨cb, 6, none⟩ = some (.int .u32 (wI z.g)) := by rw [block_cell hzb, hshC_word _ _ _ 6 (by decide)]; rfl
          have x7 : w3.cell? ⟨cb, 7, none⟩ = some (.int .u32 (wI z.h)) := by rw [block_cell hzb, hshC_word _ _ _ 7 (by decide)]; rfl
          clear hz hzb
          go_upto_region 17 with fail
          rw [show (#[.int .u32 (wI z.a), .int .u32 (wI z.b), .int .u32 (wI z.c), .int .u32 (wI z.d), .int .u32 (wI z.e), .int .u32 (wI z.f), .int .u32 (wI z.g), .int .u32 (wI z.h)] : Array Value) = wsC (stL z) from rfl]
          obtain ⟨ZC, hZC⟩ : ∃ ZC, wsC (stL z) = ZC := ⟨_, rfl⟩
          rw [hZC]
          have HZC := Lib.hid hZC
          clear hZC x0 x1 x2 x3 x4 x5 x6 x7
          obtain ⟨i0, hi, hz0, hz1, hz2⟩ := info_parts info_b8
          have HZ0 := Lib.hid hz0
          clear hz0
          go_loopg [43, 7, 9] 8 (fun g i o _ wr => ∃ m : Nat, g + m = 8 ∧ i = .int .i64 m ∧ Hid (wr.ownsRow w.heap.size 5 1 o (4 * m) ((((stL z).take m).map word4).flatten.map byV)) ∧ Hid (Below w.heap.size w wr))
          case atStart => exact ⟨0, rfl, rfl, Lib.hid (World.ownsRow_nil _ _ _ _), HW3⟩
          case round =>
            clear HW3 HH3
            obtain ⟨m, hm, rfl, HO, HW3⟩ := hrel
            by_cases hlt : m < 8
            · have i1 : (m : Int) < 8 := by omega
              obtain ⟨X, hX⟩ : ∃ X, wth (stL z) m = X := ⟨_, rfl⟩
              have hk : ∀ w', (Instr.index 246 (.agg ZC) (.int .i64 (m : Int))).run Tryz.prog w' = .ok (.int .u32 (wI X)) w' := fun w' => by rw [← HZC.out, index_8 z m hlt, hX]
              have HX := Lib.hid hX
              obtain ⟨W, hW⟩ : ∃ W, wr = W := ⟨_, rfl⟩
              rw [hW] at HO HW3 ⊢
              clear hX hW
              go_upto_region 19 with fail
              have hmm : 4 * m ≤ 32 := by omega
              go_upto_region 20 with (at_builtin; refine wpList_append_own _ rfl _ _ 41 rfl w.heap.size 5 i0 (.int .u8 0) 1 1 Tryz.underlying41 hi HZ0.out hz1 hz2 rfl (by decide) _ _ _ rfl (HO.out.alloc _) ⟨W.heap.size, 0, none⟩ 4 4 [.int .u8 (wI X / 16777216 % 256), .int .u8 (wI X / 65536 % 256), .int .u8 (wI X / 256 % 256), .int .u8 (wI X % 256)] rfl rfl (World.news_of_block (heap_alloc_new _ _)) (by intro u hu; simp at hu; rcases hu with rfl | rfl | rfl | rfl <;> rfl) (by unfold maxLen; omega) (by omega) (by have := HW3.out.size; simp; omega) ?_; intro v2 w4 hown2 hgrow2 _)
              have HO2 : Hid (w4.ownsRow w.heap.size 5 1 v2 (4 * (m + 1)) ((((stL z).take (m + 1)).map word4).flatten.map byV)) := Lib.hid (by
                rw [outW_snoc z m hlt, HX.out, List.map_append, ← word4_vals]
                exact hown2)
              have HW4 : Hid (Below w.heap.size w w4) := Lib.hid (grownBy_below (balloc HW3.out _) hgrow2 (fun k hk' => (HO.out.lt k hk').1))
              clear hown2 hgrow2 hk
              go_wp2
              go_roundg (8 - (m + 1))
              case rel => exact ⟨m + 1, by omega, by go_num, HO2, HW4⟩
              case measure => omega
            · obtain rfl : m = 8 := by omega
              have i1 : ¬ ((8 : Nat) : Int) < 8 := by decide
              have HO2 : Hid (wr.ownsRow w.heap.size 5 1 u7 32 ((shaL L).map byV)) := Lib.hid (by
                have h1 := HO.out
                rw [show (stL z).take 8 = stL z from rfl, outW_eq, HZ.out.sum] at h1
                exact h1)
              have cv := conv_own HO2.out (shaL_len L) (by decide)
              go_wp2
              go_ret
              exact ⟨rfl, HW3.out⟩
set_option maxRecDepth 100000 in
set_option maxHeartbeats 4000000 in
theorem sha_any (s : ByteArray) (w : World) (hl : s.size ≤ 1152921504606846976) : Calls Tryz.prog 97 #[.string s] w fun e w' => e = .returned (.string (shaP s)) ∧ Below w.heap.size w w' := by
  have HL := Lib.hid hl
  clear hl
  go_enter Tryz.func97, Tryz.ntmps97
  go_wp2_with fail
  refine (hnew_any _).mono ?_
  rintro e w1 ⟨b, rfl, hb0, hh, hw1⟩
  have HH := Lib.hid hh
  have HW1 := Lib.hid hw1
  have HB0 := Lib.hid hb0
  clear hh hw1 hb0
  go_wp2_with fail
  refine (write_any b [] s w1 HH.out (by have := HL.out; show 0 + s.size ≤ _; omega)).mono ?_
  rintro e w2 ⟨rfl, hE, hH⟩
  have HW2 : Hid (Below w.heap.size w w2) := Lib.hid (below_own HW1.out HB0.out HW1.out.size hE)
  have HH2 := Lib.hid hH
  clear hE hH
  go_wp2_with fail
  refine (hsum_any b s.data.toList w2 HH2.out (by rw [len_eq, Array.length_toList]; exact HL.out)).mono ?_
  rintro e w3 ⟨rfl, hE⟩
  have HW3 : Hid (Below w.heap.size w w3) := Lib.hid (bnext HW2.out hE)
  clear hE
  go_wp2
  go_ret
  exact ⟨rfl, HW3.out⟩
end Go.Proofs.YtpobhbdomldecaaGreatDoor
namespace Go.Proofs.YtpobhbdomldecaaGreatDoor
open Go.RowKit
set_option linter.unusedSimpArgs false
set_option linter.unusedVariables false
def num8S (n : Nat) : ByteArray := ⟨(num8 n).toArray⟩
theorem num8S_size (n : Nat) : (num8S n).size = 8 := by
  show (num8 n).toArray.size = 8
  rw [List.size_toArray, num8_len]
set_option maxRecDepth 100000 in
set_option maxHeartbeats 4000000 in
theorem dnum_any (N : Nat) (w : World) (hN : N < 18446744073709551616) : Calls Tryz.prog 157 #[.int .u64 (N : Nat)] w fun e w' => e = .returned (.string (num8S N)) ∧ Below w.heap.size w w' := by
  have HNN := Lib.hid hN
  clear hN
  go_enter Tryz.func157, Tryz.ntmps157
  go_upto_region 2 with fail
  obtain ⟨lb, hlb⟩ : ∃ lb, w.heap.size = lb := ⟨_, rfl⟩
  obtain ⟨U, hU⟩ : ∃ U, w.alloc (.cells (filC (num8 N) 8 0) 68) = U := ⟨_, rfl⟩
  have HUB : Hid (U.heap[lb]? = some (.cells (filC (num8 N) 8 0) 68 (0, 0))) := Lib.hid (by rw [← hU]; exact alloc_new_at _ hlb)
  have HUW : Hid (Below w.heap.size w U) := Lib.hid (by rw [← hU]; exact balloc (Below.refl _ _) _)
  have HLB : Hid (w.heap.size ≤ lb) := Lib.hid (Nat.le_of_eq hlb)
  rw [hlb]
  change Code.wp _ _ _ _ (w.alloc (.cells (filC (num8 N) 8 0) 68))
  rw [hU]
  clear hU hlb
  go_wp2
  go_loopg [5, 4] 8 (fun g i _ wr => ∃ m : Nat, g + m = 8 ∧ i = .int .i64 m ∧ Hid (wr.heap[lb]? = some (.cells (filC (num8 N) 8 m) 68 (0, 0))) ∧ Hid (Below w.heap.size w wr))
  case atStart => exact ⟨0, rfl, rfl, HUB, HUW⟩
  case round =>
    clear HUB HUW
    obtain ⟨m, hm, rfl, HUB, HUW⟩ := hrel
    by_cases hlt : m < 8
    · have i1 : (m : Int) < 8 := by omega
      have i2 : IntKind.i64.wrap (7 - (m : Int)) = 7 - (m : Int) := IntWalk.i64_in _ (by omega)
      have i3 : IntKind.i64.wrap (8 * (7 - (m : Int))) = 8 * (7 - (m : Int)) := IntWalk.i64_in _ (by omega)
      have i4 : ¬ 8 * (7 - (m : Int)) < 0 := by omega
      have i5 : ¬ (8 : Int) ≤ (m : Int) := by omega
      obtain ⟨W, hW⟩ : ∃ W, wr = W := ⟨_, rfl⟩
      rw [hW] at HUB HUW ⊢
      have c0 : W.cell? ⟨lb, m, none⟩ = some (byV 0) := by rw [block_cell HUB.out, filC_at _ _ _ hlt (num8_len N)]
      have c1 : W.frozen? ⟨lb, m, none⟩ = false := block_free HUB.out m
      have c2 : lb < W.heap.size := lt_of_block HUB.out
      clear hW
      go_upto_region 6 with fail
      rw [num8_byte N m hlt]
      clear c0 c1 c2 i2 i3 i4 i5
      have HU2 : Hid ((W.setCell ⟨lb, m, none⟩ (byV ((num8 N).getD m 0))).heap[lb]? = some (.cells (filC (num8 N) 8 (m + 1)) 68 (0, 0))) := Lib.hid (by
        have := block_setCell HUB.out (o := m) (byV ((num8 N).getD m 0))
        rw [filC_set _ _ _ hlt (num8_len N)] at this
        exact this)
      have HU4 : Hid (Below w.heap.size w (W.setCell ⟨lb, m, none⟩ (byV ((num8 N).getD m 0)))) := Lib.hid (bset HUW.out HLB.out _)
      go_wp2
      go_roundg (8 - (m + 1))
      case rel => exact ⟨m + 1, by omega, by go_num, HU2, HU4⟩
      case measure => omega
    · obtain rfl : m = 8 := by omega
      have i1 : ¬ ((8 : Nat) : Int) < 8 := by decide
      have HUB := Lib.hid (by have h := HUB.out; rw [filC_all _ _ (num8_len N)] at h; exact h)
      have cv : (convert 41 9 (.slice (some ⟨lb, 0, none⟩) 8 8)).run Tryz.prog wr = .ok (.string (num8S N)) wr := conv_block wr lb 0 8 8 (num8 N) (num8_len N) (fun i hi => byV_block HUB.out i (by rw [num8_len]; exact hi))
      go_wp2
      go_ret
      exact ⟨rfl, HUW.out⟩
end Go.Proofs.YtpobhbdomldecaaGreatDoor
namespace Go.Proofs.YtpobhbdomldecaaGreatDoor
open Go.RowKit
set_option linter.unusedSimpArgs false
set_option linter.unusedVariables false
theorem bld_size : (Tryz.prog.info? 172).map (·.size) = some 2 := by kernel_rfl
theorem bld_lies : liesAt Tryz.prog Tryz.prog.depth 172 (2 / Tryz.prog.cellsOf 172) 0 172 1 = true := by kernel_rfl
theorem bld_b8 : (Tryz.prog.info? 5).map (fun i => (i.zero, i.size, i.bytes)) = some (some (.int .u8 0), 1, 1) := by kernel_rfl
set_option maxHeartbeats 1000000 in
set_option maxRecDepth 100000 in
theorem bcheck_used (b : Nat) (w : World) (h0 : w.cell? ⟨b, 0, none⟩ = some (.pointer (some ⟨b, 0, none⟩))) :
    Calls Tryz.prog 193 #[.pointer (some ⟨b, 0, none⟩)] w fun e w' => e = .returned (.tuple #[]) ∧ w' = w := by
  obtain ⟨j, hj, _⟩ := Option.map_eq_some_iff.1 bld_size
  go_enter Tryz.func193, Tryz.ntmps193
  go_wp2
  rw [Lib.run_neq_ptr_same w _ Tryz.underlying170 hj]
  go_wp2
  go_end0
  exact ⟨rfl, rfl⟩
set_option maxHeartbeats 1000000 in
set_option maxRecDepth 100000 in
theorem bcheck_fresh (b : Nat) (w : World) (h0 : w.cell? ⟨b, 0, none⟩ = some (.pointer none)) (hsh : w.shape? b = some (172, 2)) (hfz : w.frozen? ⟨b, 0, none⟩ = false) :
    Calls Tryz.prog 193 #[.pointer (some ⟨b, 0, none⟩)] w fun e w' => e = .returned (.tuple #[]) ∧ w' = w.setCell ⟨b, 0, none⟩ (.pointer (some ⟨b, 0, none⟩)) := by
  obtain ⟨j, hj, hjs⟩ := Option.map_eq_some_iff.1 bld_size
  go_enter Tryz.func193, Tryz.ntmps193
  go_wp2
  rw [Lib.run_to_unsafe w ⟨b, 0, none⟩ Tryz.underlying170 Tryz.underlying297 hj (by rw [hjs]; decide) hsh (Nat.zero_lt_succ 1)]
  simp only [Result.andThen]
  rw [Oper.upon_value]
  go_wp2
  rw [run_callFunc_extern Tryz.func259 (by kernel_rfl) (by kernel_rfl) (by kernel_rfl) (e := Extern.AbiNoEscape.same) (by kernel_rfl)]
  rw [Lib.run_noEscape]
  simp only [Result.andThen]
  rw [Oper.upon_value]
  go_wp2
  rw [Lib.run_from_unsafe w ⟨b, 0, none⟩ Tryz.underlying297 Tryz.underlying170 hj hsh bld_lies]
  simp only [Result.andThen]
  rw [Oper.upon_value]
  go_wp2
  go_end0
  exact ⟨rfl, rfl⟩
theorem bcheck_any (B b : Nat) (bs : List Value) (w : World) (h : Lib.IsBuilder 172 5 B b bs w) :
    Calls Tryz.prog 193 #[.pointer (some ⟨b, 0, none⟩)] w fun e w' => e = .returned (.tuple #[]) ∧ (Lib.BuilderAt 172 5 B b (.pointer (some ⟨b, 0, none⟩)) bs w' ∧ Below B w w') := by
  rcases h with h | h
  · refine (bcheck_fresh b w h.cell0 h.shape h.frozen0).mono ?_
    rintro e w' ⟨rfl, rfl⟩
    exact ⟨rfl, h.used _, (Below.refl B w).setCell (p := ⟨b, 0, none⟩) h.1 _⟩
  · refine (bcheck_used b w h.cell0).mono ?_
    rintro e w' ⟨rfl, rfl⟩
    exact ⟨rfl, h, Below.refl B _⟩
set_option maxHeartbeats 2000000 in
set_option maxRecDepth 100000 in
theorem bbyte_any (B b : Nat) (bs : List Value) (c : Int) (w : World) (h : Lib.IsBuilder 172 5 B b bs w) (hlen : bs.length + 1 ≤ 140737488355328) (hBw : B ≤ w.heap.size) :
    Calls Tryz.prog 155 #[.pointer (some ⟨b, 0, none⟩), .int .u8 c] w fun e w' => e = .returned .nilIface ∧ (Lib.BuilderAt 172 5 B b (.pointer (some ⟨b, 0, none⟩)) (bs ++ [.int .u8 c]) w' ∧ Below B w w') := by
  obtain ⟨i0, hi, hz0, hz1, hz2⟩ := info_parts bld_b8
  go_enter Tryz.func155, Tryz.ntmps155
  go_wp2_with fail
  refine (bcheck_any B b bs _ h).mono ?_
  rintro e w1 ⟨rfl, h1, hb1⟩
  obtain ⟨hB, v, hbk, hown, hne⟩ := h1
  have c0 : w1.cell? ⟨b, 0, none⟩ = some (.pointer (some ⟨b, 0, none⟩)) := by rw [Lib.cell_of_heap hbk]; rfl
  have c1 : w1.cell? ⟨b, 1, none⟩ = some v := by rw [Lib.cell_of_heap hbk]; rfl
  go_wp2_with (at_builtin; refine wpList_append_own _ rfl _ _ 41 rfl B 5 i0 (.int .u8 0) 1 1 Tryz.underlying41 hi hz0 hz1 hz2 rfl (by decide) _ _ _ rfl (hown.alloc _) ⟨w1.heap.size, 0, none⟩ 1 1 [.int .u8 c] rfl rfl ?c1 ?c2 ?c3 ?c4 ?c5 ?_)
  case c1 =>
    intro j u hj
    match j, hj with
    | 0, hj => simp at hj; subst hj; simp [Addr.add]
  case c2 => intro u hu; simp at hu; subst hu; rfl
  case c3 => unfold maxLen; omega
  case c4 => omega
  case c5 => have := hb1.size; simp; omega
  intro v' w2 hown' hgrow _
  have hlt : b < w1.heap.size := lt_of_block hbk
  have hb2 : w2.heap[b]? = some (.cells #[.pointer (some ⟨b, 0, none⟩), v] 172 (0, 0)) := by
    rw [hgrow.block b (by simp; omega) (fun e => hne e.symm), Lib.alloc_old w1 _ b hlt]
    exact hbk
  have d0 : w2.cell? ⟨b, 0, none⟩ = some (.pointer (some ⟨b, 0, none⟩)) := by rw [Lib.cell_of_heap hb2]; rfl
  have d1 : w2.cell? ⟨b, 1, none⟩ = some v := by rw [Lib.cell_of_heap hb2]; rfl
  have f1 : w2.frozen? ⟨b, 1, none⟩ = false := Lib.frozen_of_heap hb2 1
  obtain ⟨g, cap, rfl⟩ : ∃ g cap, v' = .slice (some ⟨g, 0, none⟩) (bs.length + 1) cap := by
    rcases hown'.2 with ⟨_, h0⟩ | ⟨g, cap, cur, hv, _⟩
    · omega
    · exact ⟨g, cap, hv⟩
  go_wp2
  go_ret
  refine ⟨rfl, ?_, ?_⟩
  · exact Lib.BuilderAt.put (T := 172) (e := 5) hB hb2 (bs' := bs ++ [.int .u8 c]) (by simpa using hown') (by decide)
  · exact ((hb1.alloc (by have := hb1.size; omega) _).grown hgrow (by have := hb1.size; simp; omega) (fun k hk => (hown.lt k hk).1)).setCell (p := ⟨b, 1, none⟩) hB _
set_option maxHeartbeats 2000000 in
set_option maxRecDepth 100000 in
theorem bstr_any (B b : Nat) (bs : List Value) (s : ByteArray) (w : World) (h : Lib.IsBuilder 172 5 B b bs w) (hlen : bs.length + s.size ≤ 140737488355328) (hBw : B ≤ w.heap.size) :
    Calls Tryz.prog 144 #[.pointer (some ⟨b, 0, none⟩), .string s] w fun e w' => e = .returned (.tuple #[.int .i64 s.size, .nilIface]) ∧ (Lib.BuilderAt 172 5 B b (.pointer (some ⟨b, 0, none⟩)) (bs ++ Lib.strCells s) w' ∧ Below B w w') := by
  obtain ⟨i0, hi, hz0, hz1, hz2⟩ := info_parts bld_b8
  go_enter Tryz.func144, Tryz.ntmps144
  go_wp2_with fail
  refine (bcheck_any B b bs _ h).mono ?_
  rintro e w1 ⟨rfl, h1, hb1⟩
  obtain ⟨hB, v, hbk, hown, hne⟩ := h1
  have c0 : w1.cell? ⟨b, 0, none⟩ = some (.pointer (some ⟨b, 0, none⟩)) := by rw [Lib.cell_of_heap hbk]; rfl
  have c1 : w1.cell? ⟨b, 1, none⟩ = some v := by rw [Lib.cell_of_heap hbk]; rfl
  go_wp2_with (at_builtin; refine Lib.wpList_append_own_string _ rfl _ _ 41 9 rfl B 5 i0 Tryz.underlying41 Tryz.underlying9 hi hz0 hz1 hz2 _ _ _ rfl hown s rfl ?c3 ?c4 ?c5 ?_)
  case c3 => unfold maxLen; omega
  case c4 => omega
  case c5 => have := hb1.size; omega
  intro v' w2 hown' hgrow _
  have hlt : b < w1.heap.size := lt_of_block hbk
  have hb2 : w2.heap[b]? = some (.cells #[.pointer (some ⟨b, 0, none⟩), v] 172 (0, 0)) := by
    rw [hgrow.block b hlt (fun e => hne e.symm)]
    exact hbk
  have d0 : w2.cell? ⟨b, 0, none⟩ = some (.pointer (some ⟨b, 0, none⟩)) := by rw [Lib.cell_of_heap hb2]; rfl
  have d1 : w2.cell? ⟨b, 1, none⟩ = some v := by rw [Lib.cell_of_heap hb2]; rfl
  have f1 : w2.frozen? ⟨b, 1, none⟩ = false := Lib.frozen_of_heap hb2 1
  obtain ⟨ao, n', cap, rfl⟩ : ∃ ao n' cap, v' = .slice ao n' cap := by
    rcases hown'.2 with ⟨hv, _⟩ | ⟨g, cap, cur, hv, _⟩
    · exact ⟨_, _, _, hv⟩
    · exact ⟨_, _, _, hv⟩
  go_wp2
  go_ret2
  refine ⟨rfl, ?_, ?_⟩
  · exact Lib.BuilderAt.put (T := 172) (e := 5) hB hb2 (bs' := bs ++ Lib.strCells s) (by simpa [Lib.strCells_length] using hown') (by decide)
  · exact (hb1.grown hgrow (by have := hb1.size; omega) (fun k hk => (hown.lt k hk).1)).setCell (p := ⟨b, 1, none⟩) hB _
end Go.Proofs.YtpobhbdomldecaaGreatDoor
namespace Go.Proofs.YtpobhbdomldecaaGreatDoor
open Go.RowKit
set_option linter.unusedSimpArgs false
set_option linter.unusedVariables false
abbrev BlAt (B b : Nat) (L : List UInt8) (w : World) : Prop := Lib.BuilderAt 172 5 B b (.pointer (some ⟨b, 0, none⟩)) (Lib.byteCells L) w
theorem bc_app (L M : List UInt8) : Lib.byteCells (L ++ M) = Lib.byteCells L ++ Lib.byteCells M := by unfold Lib.byteCells; rw [List.map_append]
theorem bc_len (L : List UInt8) : (Lib.byteCells L).length = L.length := by unfold Lib.byteCells; rw [List.length_map]
def LayIs (B b : Nat) (L : List UInt8) (w : World) (e : Ending) (w' : World) : Prop := e = .returned (.tuple #[]) ∧ BlAt B b L w' ∧ Below B w w'
set_option maxRecDepth 100000 in
set_option maxHeartbeats 4000000 in
theorem lay_part (B b : Nat) (L : List UInt8) (p : ByteArray) (w : World) (h : BlAt B b L w) (hl : L.length + (8 + p.size) ≤ 140737488355328) (hB : B ≤ w.heap.size) :
    Calls Tryz.prog 156 #[.string p, .pointer (some ⟨b, 0, none⟩)] w (LayIs B b (L ++ partL p) w) := by
  have H := Lib.hid h
  have HL := Lib.hid hl
  have HB := Lib.hid hB
  clear h hl hB
  have i1 : IntKind.u64.wrap ((p.size : Nat) : Int) = ((p.size : Nat) : Int) := IntWalk.u64_in _ (by have := HL.out; omega)
  go_enter Tryz.func156, Tryz.ntmps156
  go_wp2_with fail
  refine (dnum_any p.size w (by have := HL.out; omega)).mono ?_
  rintro e w1 ⟨rfl, hb1⟩
  have HB1 := Lib.hid hb1
  have H1 : Hid (BlAt B b L w1) := Lib.hid (by
    obtain ⟨h1, v, h2, h3, h4⟩ := H.out
    exact ⟨h1, v, (hb1.block _ (lt_of_block h2)).trans h2, own_below h3 hb1, h4⟩)
  clear hb1
  go_wp2_with fail
  refine (bstr_any B b _ (num8S p.size) w1 (Or.inr H1.out) (by rw [bc_len, num8S_size]; have := HL.out; omega) (Nat.le_trans HB.out HB1.out.size)).mono ?_
  rintro e w2 ⟨rfl, h2, hb2⟩
  have H2 : Hid (BlAt B b (L ++ num8 p.size) w2) := Lib.hid (by show Lib.BuilderAt _ _ _ _ _ (Lib.byteCells _) _; rw [bc_app]; exact h2)
  have HB2 : Hid (Below B w w2) := Lib.hid ((HB1.out.mono HB.out).trans hb2)
  have HBS : Hid (B ≤ w2.heap.size) := Lib.hid (Nat.le_trans HB.out HB2.out.size)
  clear h2 hb2
  go_wp2_with fail
  refine (bstr_any B b _ p w2 (Or.inr H2.out) (by rw [bc_len, List.length_append, num8_len]; have := HL.out; omega) HBS.out).mono ?_
  rintro e w3 ⟨rfl, h3, hb3⟩
  have H3 : Hid (BlAt B b (L ++ partL p) w3) := Lib.hid (by show Lib.BuilderAt _ _ _ _ _ (Lib.byteCells _) _; unfold partL; rw [← List.append_assoc, bc_app]; exact h3)
  have HB3 : Hid (Below B w w3) := Lib.hid (HB2.out.trans hb3)
  clear h3 hb3
  go_wp2
  go_end0
  exact ⟨rfl, H3.out, HB3.out⟩
theorem fullT {t : ByteArray} (h : t.size ≠ 0) : t.toList.isEmpty = false := by
  rw [ByteArray.toList_eq]; cases t with | mk d => simp_all [ByteArray.size]
theorem headL_cells (tag : ByteArray) (h : tag.size ≤ 16) : Lib.byteCells (headL tag) = [.int .u8 ((tag.size : Nat) : Int)] ++ Lib.strCells tag := by
  unfold headL Lib.strCells Lib.byteCells
  rw [List.map_cons]
  congr 1
  rw [UInt8.toNat_ofNat', Nat.mod_eq_of_lt (by omega)]
set_option maxRecDepth 100000 in
set_option maxHeartbeats 4000000 in
theorem frame_any (tag : ByteArray) (parts : List ByteArray) (a : Option Addr) (cap : Nat) (w : World) (h1 : 1 ≤ tag.size) (h2 : tag.size ≤ 16) (hp : Txts w a parts) (hs : (partsL parts).length ≤ 140737488355300) :
    Calls Tryz.prog 96 #[.string tag, .slice a (len parts) cap] w fun e w' => e = .returned (.string (frameS tag parts)) ∧ Below w.heap.size w w' := by
  have HP := Lib.hid hp
  have HS := Lib.hid hs
  have HT2 := Lib.hid h2
  have HT1 := Lib.hid h1
  have HPL : Hid (len parts ≤ 140737488355300) := Lib.hid (by have := partsL_ge parts; rw [len_eq]; omega)
  have t1 : tag.toList.isEmpty = false := fullT (by omega)
  have t2 : ¬ (16 : Int) < (tag.size : Int) := by omega
  have t3 : IntKind.u8.wrap ((tag.size : Nat) : Int) = ((tag.size : Nat) : Int) := IntWalk.u8_in _ (by omega)
  clear hp hs h1 h2
  go_enter Tryz.func96, Tryz.ntmps96
  go_upto_region 4 with fail
  obtain ⟨b, hb⟩ : ∃ b, w.heap.size = b := ⟨_, rfl⟩
  rw [hb]
  obtain ⟨V, hV⟩ : ∃ V, w.alloc (.cells #[.pointer none, .slice none 0 0] 172) = V := ⟨_, rfl⟩
  rw [hV]
  have HBW : Hid (w.heap.size ≤ b) := Lib.hid (Nat.le_of_eq hb)
  have HI : Hid (Lib.IsBuilder 172 5 b b [] V) := Lib.hid (Or.inl ⟨Nat.le_refl _, _, by rw [← hV]; exact alloc_new_at _ hb, World.ownsRow_nil _ _ _ _, by simp [Value.ownBlock]⟩)
  have HVW : Hid (Below w.heap.size w V) := Lib.hid (by rw [← hV]; exact balloc (Below.refl _ _) _)
  have HVS : Hid (b ≤ V.heap.size) := Lib.hid (by rw [← hb]; exact HVW.out.size)
  clear hV hb
  go_wp2_with fail
  refine (bbyte_any b b [] _ V HI.out (by decide) HVS.out).mono ?_
  rintro e w1 ⟨rfl, hb1, hB1⟩
  have H1 := Lib.hid hb1
  have HS1 : Hid (b ≤ w1.heap.size) := Lib.hid (Nat.le_trans HVS.out hB1.size)
  have HW1 : Hid (Below w.heap.size w w1) := Lib.hid (HVW.out.trans (hB1.mono HBW.out))
  clear hb1 hB1 t1 t2 t3
  go_wp2_with fail
  refine (bstr_any b b _ tag w1 (Or.inr H1.out) (by have := HT2.out; show 1 + tag.size ≤ _; omega) HS1.out).mono ?_
  rintro e w2 ⟨rfl, hb2, hB2⟩
  have H2 : Hid (BlAt b b (headL tag ++ partsL (parts.take 0)) w2) := Lib.hid (by
    show Lib.BuilderAt _ _ _ _ _ (Lib.byteCells _) _
    rw [List.take_zero, show partsL [] = [] from rfl, List.append_nil, headL_cells tag HT2.out]
    exact hb2)
  have HS2 : Hid (b ≤ w2.heap.size) := Lib.hid (Nat.le_trans HS1.out hB2.size)
  have HW2 : Hid (Below w.heap.size w w2) := Lib.hid (HW1.out.trans (hB2.mono HBW.out))
  clear hb2 hB2
  go_wp2
  go_loopg [25, 8] (len parts) (fun g i _ wr => ∃ m : Nat, g + m = len parts ∧ i = .int .i64 m ∧ Hid (BlAt b b (headL tag ++ partsL (parts.take m)) wr) ∧ Hid (b ≤ wr.heap.size) ∧ Hid (Below w.heap.size w wr))
  case atStart => exact ⟨0, rfl, rfl, H2, HS2, HW2⟩
  case round =>
    clear H2 HS2 HW2
    obtain ⟨m, hm, rfl, H2, HS2, HW2⟩ := hrel
    have HPB := HPL.out
    by_cases hlt : m < len parts
    · have i1 : (m : Int) < (len parts : Nat) := by omega
      obtain ⟨pb, po, rfl, hpc⟩ := (HP.out.below HW2.out) m hlt
      obtain ⟨x, hx⟩ : ∃ x, tth parts m = x := ⟨_, rfl⟩
      rw [hx] at hpc
      have HX := Lib.hid hx
      clear hx
      go_wp2_with fail
      refine (lay_part b b _ x wr H2.out (by
        have h1 := HS.out
        have h2 := partsL_le parts (m + 1)
        have h3 := HT2.out
        rw [partsL_snoc _ _ hlt, List.length_append, HX.out, partL_len] at h2
        rw [List.length_append, headL_len]
        omega) HS2.out).mono ?_
      rintro e w3 ⟨rfl, h3, hb3⟩
      have H3 : Hid (BlAt b b (headL tag ++ partsL (parts.take (m + 1))) w3) := Lib.hid (by rw [partsL_snoc _ _ hlt, HX.out, ← List.append_assoc]; exact h3)
      have HS3 : Hid (b ≤ w3.heap.size) := Lib.hid (Nat.le_trans HS2.out hb3.size)
      have HW3 : Hid (Below w.heap.size w w3) := Lib.hid (HW2.out.trans (hb3.mono HBW.out))
      clear h3 hb3 hpc
      go_wp2
      go_roundg (len parts - (m + 1))
      case rel => exact ⟨m + 1, by omega, by go_num, H3, HS3, HW3⟩
      case measure => omega
    · obtain rfl : m = len parts := by omega
      have i1 : ¬ ((len parts : Nat) : Int) < (len parts : Nat) := by omega
      have H4 : Hid (BlAt b b (framL tag parts) wr) := Lib.hid (by have h := H2.out; rw [take_len] at h; exact h)
      clear H2 hm hlt
      go_wp2_with fail
      refine (Tryz.Builder_String_any b b _ wr (Or.inr H4.out) HS2.out).mono ?_
      rintro e w4 ⟨rfl, hB4⟩
      have HW4 : Hid (Below w.heap.size w w4) := Lib.hid (HW2.out.trans (hB4.mono HBW.out))
      clear hB4
      go_wp2
      go_ret
      exact ⟨rfl, HW4.out⟩
set_option maxRecDepth 100000 in
set_option maxHeartbeats 4000000 in
theorem hash_any (tag : ByteArray) (parts : List ByteArray) (a : Option Addr) (cap : Nat) (w : World) (h1 : 1 ≤ tag.size) (h2 : tag.size ≤ 16) (hp : Txts w a parts) (hs : (partsL parts).length ≤ 140737488355300) :
    Calls Tryz.prog 45 #[.string tag, .slice a (len parts) cap] w fun e w' => e = .returned (.string (hashP tag parts)) ∧ Below w.heap.size w w' := by
  have HF := Lib.hid (frame_any tag parts a cap w h1 h2 hp hs)
  have HS : Hid (1 ≤ (frameS tag parts).size ∧ (frameS tag parts).size ≤ 140737488355328) := Lib.hid (by rw [frameS_size]; omega)
  clear h1 h2 hp hs
  go_enter Tryz.func45, Tryz.ntmps45
  go_wp2_with fail
  refine HF.out.mono ?_
  rintro e w1 ⟨rfl, hb1⟩
  have HB1 := Lib.hid hb1
  have t1 : (frameS tag parts).toList.isEmpty = false := fullT (by have := HS.out; omega)
  clear hb1
  go_wp2_with fail
  refine (sha_any (frameS tag parts) w1 (by have := HS.out; omega)).mono ?_
  rintro e w2 ⟨rfl, hb2⟩
  have HB2 : Hid (Below w.heap.size w w2) := Lib.hid (bnext HB1.out hb2)
  clear hb2
  go_wp2
  go_ret
  exact ⟨rfl, HB2.out⟩
end Go.Proofs.YtpobhbdomldecaaGreatDoor
namespace Go.Proofs.YtpobhbdomldecaaGreatDoor
open Go.RowKit
set_option linter.unusedSimpArgs false
set_option linter.unusedVariables false
def NodeAt (b : Nat) (d : ByteArray) (k0 k1 : Option Addr) (w : World) : Prop := w.heap[b]? = some (.cells #[.string d, .pointer k0, .pointer k1] 118 (0, 0))
theorem NodeAt.below {b : Nat} {d : ByteArray} {k0 k1 : Option Addr} {w w' : World} (h : NodeAt b d k0 k1 w) (hb : Below w.heap.size w w') : NodeAt b d k0 k1 w' := (hb.block _ (lt_of_block h)).trans h
theorem NodeAt.digest {b : Nat} {d : ByteArray} {k0 k1 : Option Addr} {w : World} (h : NodeAt b d k0 k1 w) : w.cell? ⟨b, 0, none⟩ = some (.string d) := by rw [block_cell h]; rfl
def LeafIs (d : ByteArray) (w : World) (e : Ending) (w' : World) : Prop := ∃ b, e = .returned (.pointer (some ⟨b, 0, none⟩)) ∧ w.heap.size ≤ b ∧ NodeAt b d none none w' ∧ Below w.heap.size w w'
theorem txts_cells {w : World} {g : Nat} {cs : Array Value} {t : TypeId} {fr : Nat × Nat} (h : w.heap[g]? = some (.cells cs t fr)) (l : List ByteArray) (hl : ∀ i, i < len l → cs[i]? = some (.string (tth l i))) : Txts w (some ⟨g, 0, none⟩) l := fun i hi => ⟨g, 0, rfl, by rw [block_cell h, Nat.zero_add]; exact hl i hi⟩
set_option maxRecDepth 100000 in
set_option maxHeartbeats 4000000 in
theorem leaf_node (s : ByteArray) (w : World) (hs : s.size ≤ 140737488355200) : Calls Tryz.prog 94 #[.string s] w (LeafIs (hashP leafT [s]) w) := by
  have HS := Lib.hid hs
  clear hs
  go_enter Tryz.func94, Tryz.ntmps94
  go_wp2_with fail
  have hw1 : Txts (w.alloc (.cells #[.string s] 9)) (some ⟨w.heap.size, 0, none⟩) [s] := txts_cells (heap_alloc_new _ _) [s] (fun i hi => by
    have : i = 0 := by have : i < 1 := hi; omega
    subst this; rfl)
  refine (hash_any leafT [s] (some ⟨w.heap.size, 0, none⟩) 1 _ (by decide) (by decide) hw1 (by have := HS.out; show ((partL s) ++ []).length ≤ _; rw [List.append_nil, partL_len]; omega)).mono ?_
  rintro e w2 ⟨rfl, hb2⟩
  have HB2 : Hid (Below w.heap.size w w2) := Lib.hid (bnext (balloc (Below.refl _ _) _) hb2)
  clear hb2 hw1
  obtain ⟨H, hH⟩ : ∃ H, hashP leafT [s] = H := ⟨_, rfl⟩
  rw [hH]
  go_wp2
  go_ret
  exact ⟨w2.heap.size, rfl, HB2.out.size, by rw [hH]; exact heap_alloc_new _ _, balloc HB2.out _⟩
def OverIs (d : ByteArray) (b0 b1 : Nat) (w : World) (e : Ending) (w' : World) : Prop := ∃ b, e = .returned (.pointer (some ⟨b, 0, none⟩)) ∧ w.heap.size ≤ b ∧ NodeAt b d (some ⟨b0, 0, none⟩) (some ⟨b1, 0, none⟩) w' ∧ Below w.heap.size w w'
set_option maxRecDepth 100000 in
set_option maxHeartbeats 4000000 in
theorem over_any (b0 b1 : Nat) (d0 d1 : ByteArray) (w : World) (h0 : w.cell? ⟨b0, 0, none⟩ = some (.string d0)) (h1 : w.cell? ⟨b1, 0, none⟩ = some (.string d1)) (hs : d0.size ≤ 70000000000000 ∧ d1.size ≤ 70000000000000) :
    Calls Tryz.prog 92 #[.pointer (some ⟨b0, 0, none⟩), .pointer (some ⟨b1, 0, none⟩)] w (OverIs (hashP nodeT [d0, d1]) b0 b1 w) := by
  obtain ⟨H, hH⟩ : ∃ H, hashP nodeT [d0, d1] = H := ⟨_, rfl⟩
  rw [hH]
  have HH : Hid (∀ (g : Nat) (wv : World), wv.heap[g]? = some (.cells #[.string d0, .string d1] 9 (0, 0)) → Calls Tryz.prog 45 #[.string ⟨#[110, 111, 100, 101]⟩, .slice (some ⟨g, 0, none⟩) 2 2] wv fun e w' => e = .returned (.string H) ∧ Below wv.heap.size wv w') := Lib.hid (fun g wv hg => by
    rw [← hH]
    refine hash_any nodeT [d0, d1] (some ⟨g, 0, none⟩) 2 wv (by decide) (by decide) (txts_cells hg [d0, d1] (fun i hi => by
      have : i = 0 ∨ i = 1 := by have : i < 2 := hi; omega
      rcases this with rfl | rfl <;> rfl)) ?_
    show ((partL d0) ++ ((partL d1) ++ [])).length ≤ _
    rw [List.append_nil, List.length_append, partL_len, partL_len]
    omega)
  have c0 := h0
  have c1 := h1
  clear hH h0 h1 hs
  go_enter Tryz.func92, Tryz.ntmps92
  go_upto_region 1 with fail
  refine wp_region_tail 15 1000 (none) (phis [fun u _ => u = (.pointer (some ⟨b0, 0, none⟩)), fun u _ => u = (.pointer (some ⟨b0, 0, none⟩)), fun u _ => u = (.pointer (some ⟨b0, 0, none⟩)), fun u _ => u = (.string d0), fun u _ => u = (.pointer (some ⟨b1, 0, none⟩)), fun u _ => u = (.pointer (some ⟨b1, 0, none⟩)), fun u _ => u = (.pointer (some ⟨b1, 0, none⟩)), fun u _ => u = (.string d1), fun u w' => ∃ g, u = .slice (some ⟨g, 0, none⟩) 2 2 ∧ w'.heap[g]? = some (.cells #[.string d0, .string d1] 9 (0, 0)), fun u _ => u = (.string H), fun u _ => u = (.pointer (some ⟨b0, 0, none⟩)), fun u _ => u = (.pointer (some ⟨b1, 0, none⟩)), fun u _ => u = (.agg #[.pointer (some ⟨b0, 0, none⟩), .pointer (some ⟨b1, 0, none⟩)]), fun u _ => u = (.agg #[.string H, .pointer (some ⟨b0, 0, none⟩), .pointer (some ⟨b1, 0, none⟩)]), fun u w' => ∃ g, u = .pointer (some ⟨g, 0, none⟩) ∧ w.heap.size ≤ g ∧ NodeAt g H (some ⟨b0, 0, none⟩) (some ⟨b1, 0, none⟩) w']) rfl (by kernel_rfl) (by kernel_rfl) (mono_of ⟨mono_eq, mono_eq, mono_eq, mono_eq, mono_eq, mono_eq, mono_eq, mono_eq, ?m8, mono_eq, mono_eq, mono_eq, mono_eq, mono_eq, ?m14, trivial⟩) (steps_of 15 ⟨?s0, ?s1, ?s2, ?s3, ?s4, ?s5, ?s6, ?s7, ?s8, ?s9, ?s10, ?s11, ?s12, ?s13, ?s14, trivial⟩) ?_
  case m8 =>
    exact ⟨fun u w1 w' h ⟨b, h1, hb⟩ => ⟨b, h1, ext_block h hb⟩, fun _ u w1 w' h ⟨b, h1, hb⟩ => ⟨b, h1, extB_block h (by simp) hb⟩⟩
  case m14 =>
    exact ⟨fun u w1 w' h ⟨b, h1, h2, hb⟩ => ⟨b, h1, h2, ext_block h hb⟩, fun _ u w1 w' h ⟨b, h1, h2, hb⟩ => ⟨b, h1, h2, extB_block h (by simp) hb⟩⟩
  case s0 =>
    refine step_val (v := (.pointer (some ⟨b0, 0, none⟩))) (fun av wv hE hS hO hD => ?_) (fun _ => rfl)
    have h0 : av.eval (.tmp 0) = (.pointer (some ⟨b0, 0, none⟩)) := hO.2.2 0 rfl
    have f0 := (ev_form av 0).symm.trans h0
    refine ⟨rfl, ?_⟩
    simp [go_sem, f0]
  case s1 =>
    refine step_val (v := (.pointer (some ⟨b0, 0, none⟩))) (fun av wv hE hS hO hD => ?_) (fun _ => rfl)
    have d5 : av.eval (.tmp 5) = (.pointer (some ⟨b0, 0, none⟩)) := hD.1 rfl _ rfl
    have f5 := (ev_form av 5).symm.trans d5
    refine ⟨rfl, ?_⟩
    simp [go_sem, f5]
  case s2 =>
    refine step_val (v := (.pointer (some ⟨b0, 0, none⟩))) (fun av wv hE hS hO hD => ?_) (fun _ => rfl)
    have d6 : av.eval (.tmp 6) = (.pointer (some ⟨b0, 0, none⟩)) := hD.1 rfl _ rfl
    have f6 := (ev_form av 6).symm.trans d6
    refine ⟨rfl, ?_⟩
    simp [go_sem, f6]
  case s3 =>
    refine step_val (v := (.string d0)) (fun av wv hE hS hO hD => ?_) (fun _ => rfl)
    have d7 : av.eval (.tmp 7) = (.pointer (some ⟨b0, 0, none⟩)) := hD.1 rfl _ rfl
    have f7 := (ev_form av 7).symm.trans d7
    have c0 := extB_cell hE (by simp) c0
    have c1 := extB_cell hE (by simp) c1
    refine ⟨rfl, ?_⟩
    simp [go_sem, f7, c0, c1]
  case s4 =>
    refine step_val (v := (.pointer (some ⟨b1, 0, none⟩))) (fun av wv hE hS hO hD => ?_) (fun _ => rfl)
    have h1 : av.eval (.tmp 1) = (.pointer (some ⟨b1, 0, none⟩)) := hO.2.2 1 rfl
    have f1 := (ev_form av 1).symm.trans h1
    refine ⟨rfl, ?_⟩
    simp [go_sem, f1]
  case s5 =>
    refine step_val (v := (.pointer (some ⟨b1, 0, none⟩))) (fun av wv hE hS hO hD => ?_) (fun _ => rfl)
    have d9 : av.eval (.tmp 9) = (.pointer (some ⟨b1, 0, none⟩)) := hD.1 rfl _ rfl
    have f9 := (ev_form av 9).symm.trans d9
    refine ⟨rfl, ?_⟩
    simp [go_sem, f9]
  case s6 =>
    refine step_val (v := (.pointer (some ⟨b1, 0, none⟩))) (fun av wv hE hS hO hD => ?_) (fun _ => rfl)
    have d10 : av.eval (.tmp 10) = (.pointer (some ⟨b1, 0, none⟩)) := hD.1 rfl _ rfl
    have f10 := (ev_form av 10).symm.trans d10
    refine ⟨rfl, ?_⟩
    simp [go_sem, f10]
  case s7 =>
    refine step_val (v := (.string d1)) (fun av wv hE hS hO hD => ?_) (fun _ => rfl)
    have d11 : av.eval (.tmp 11) = (.pointer (some ⟨b1, 0, none⟩)) := hD.1 rfl _ rfl
    have f11 := (ev_form av 11).symm.trans d11
    have c0 := extB_cell hE (by simp) c0
    have c1 := extB_cell hE (by simp) c1
    refine ⟨rfl, ?_⟩
    simp [go_sem, f11, c0, c1]
  case s8 =>
    refine step_wp (fun av wv hE hS hO hD => ?_)
    have d8 : av.eval (.tmp 8) = (.string d0) := hD.1 rfl _ rfl
    have f8 := (ev_form av 8).symm.trans d8
    have d12 : av.eval (.tmp 12) = (.string d1) := hD.2.1 rfl _ rfl
    have f12 := (ev_form av 12).symm.trans d12
    refine ⟨rfl, ?_⟩
    refine wp_of_run (v := .slice (some ⟨wv.heap.size, 0, none⟩) 2 2) (w' := wv.alloc (.cells #[.string d0, .string d1] 9)) (by simp [go_sem, f8, f12]) ⟨_, rfl, es_of_ext (balloc (Ext_refl _) _), wv.heap.size, rfl, heap_alloc_new _ _⟩
  case s9 =>
    refine step_wp (fun av wv hE hS hO hD => ?_)
    have d13 : (fun u w' => ∃ g, u = .slice (some ⟨g, 0, none⟩) 2 2 ∧ w'.heap[g]? = some (.cells #[.string d0, .string d1] 9 (0, 0))) (av.eval (.tmp 13)) wv := hD.1 rfl _ rfl
    refine ⟨rfl, ?_⟩
    obtain ⟨g, h13, hg⟩ := d13
    have f13 := (ev_form av 13).symm.trans h13
    refine wp_of_call (v := .string H) (by simp [go_sem, f13]) (HH.out g wv hg) (fun w2 hb => ⟨_, rfl, es_of_ext hb, rfl⟩)
  case s10 =>
    refine step_val (v := (.pointer (some ⟨b0, 0, none⟩))) (fun av wv hE hS hO hD => ?_) (fun _ => rfl)
    have h0 : av.eval (.tmp 0) = (.pointer (some ⟨b0, 0, none⟩)) := hO.2.2 0 rfl
    have f0 := (ev_form av 0).symm.trans h0
    refine ⟨rfl, ?_⟩
    simp [go_sem, f0]
  case s11 =>
    refine step_val (v := (.pointer (some ⟨b1, 0, none⟩))) (fun av wv hE hS hO hD => ?_) (fun _ => rfl)
    have h1 : av.eval (.tmp 1) = (.pointer (some ⟨b1, 0, none⟩)) := hO.2.2 1 rfl
    have f1 := (ev_form av 1).symm.trans h1
    refine ⟨rfl, ?_⟩
    simp [go_sem, f1]
  case s12 =>
    refine step_val (v := (.agg #[.pointer (some ⟨b0, 0, none⟩), .pointer (some ⟨b1, 0, none⟩)])) (fun av wv hE hS hO hD => ?_) (fun _ => rfl)
    have d15 : av.eval (.tmp 15) = (.pointer (some ⟨b0, 0, none⟩)) := hD.1 rfl _ rfl
    have f15 := (ev_form av 15).symm.trans d15
    have d16 : av.eval (.tmp 16) = (.pointer (some ⟨b1, 0, none⟩)) := hD.2.1 rfl _ rfl
    have f16 := (ev_form av 16).symm.trans d16
    refine ⟨rfl, ?_⟩
    simp [go_sem, f15, f16]
  case s13 =>
    refine step_val (v := (.agg #[.string H, .pointer (some ⟨b0, 0, none⟩), .pointer (some ⟨b1, 0, none⟩)])) (fun av wv hE hS hO hD => ?_) (fun _ => rfl)
    have d14 : av.eval (.tmp 14) = (.string H) := hD.1 rfl _ rfl
    have f14 := (ev_form av 14).symm.trans d14
    have d17 : av.eval (.tmp 17) = (.agg #[.pointer (some ⟨b0, 0, none⟩), .pointer (some ⟨b1, 0, none⟩)]) := hD.2.1 rfl _ rfl
    have f17 := (ev_form av 17).symm.trans d17
    refine ⟨rfl, ?_⟩
    simp [go_sem, f14, f17]
  case s14 =>
    refine step_wp (fun av wv hE hS hO hD => ?_)
    have d18 : av.eval (.tmp 18) = (.agg #[.string H, .pointer (some ⟨b0, 0, none⟩), .pointer (some ⟨b1, 0, none⟩)]) := hD.1 rfl _ rfl
    have f18 := (ev_form av 18).symm.trans d18
    refine ⟨rfl, ?_⟩
    refine wp_of_run (v := .pointer (some ⟨wv.heap.size, 0, none⟩)) (w' := wv.alloc (.cells #[.string H, .pointer (some ⟨b0, 0, none⟩), .pointer (some ⟨b1, 0, none⟩)] 118)) (by simp [go_sem, f18]) ⟨_, rfl, es_of_ext (balloc (Ext_refl _) _), wv.heap.size, rfl, (by have := hE.size; simp at this; omega), heap_alloc_new _ _⟩
  intro a' w' hE hO hall
  have hA := act_of_outer (ds := [5, 6, 7, 8, 9, 10, 11, 12, 13, 14, 15, 16, 17, 18, 19]) rfl hO (by kernel_rfl)
  have e5 : (fun u _ => u = (.pointer (some ⟨b0, 0, none⟩))) (a'.eval (.tmp 5)) w' := hall.1 _ rfl
  have e6 : (fun u _ => u = (.pointer (some ⟨b0, 0, none⟩))) (a'.eval (.tmp 6)) w' := hall.2.1 _ rfl
  have e7 : (fun u _ => u = (.pointer (some ⟨b0, 0, none⟩))) (a'.eval (.tmp 7)) w' := hall.2.2.1 _ rfl
  have e8 : (fun u _ => u = (.string d0)) (a'.eval (.tmp 8)) w' := hall.2.2.2.1 _ rfl
  have e9 : (fun u _ => u = (.pointer (some ⟨b1, 0, none⟩))) (a'.eval (.tmp 9)) w' := hall.2.2.2.2.1 _ rfl
  have e10 : (fun u _ => u = (.pointer (some ⟨b1, 0, none⟩))) (a'.eval (.tmp 10)) w' := hall.2.2.2.2.2.1 _ rfl
  have e11 : (fun u _ => u = (.pointer (some ⟨b1, 0, none⟩))) (a'.eval (.tmp 11)) w' := hall.2.2.2.2.2.2.1 _ rfl
  have e12 : (fun u _ => u = (.string d1)) (a'.eval (.tmp 12)) w' := hall.2.2.2.2.2.2.2.1 _ rfl
  have e13 : (fun u w' => ∃ g, u = .slice (some ⟨g, 0, none⟩) 2 2 ∧ w'.heap[g]? = some (.cells #[.string d0, .string d1] 9 (0, 0))) (a'.eval (.tmp 13)) w' := hall.2.2.2.2.2.2.2.2.1 _ rfl
  have e14 : (fun u _ => u = (.string H)) (a'.eval (.tmp 14)) w' := hall.2.2.2.2.2.2.2.2.2.1 _ rfl
  have e15 : (fun u _ => u = (.pointer (some ⟨b0, 0, none⟩))) (a'.eval (.tmp 15)) w' := hall.2.2.2.2.2.2.2.2.2.2.1 _ rfl
  have e16 : (fun u _ => u = (.pointer (some ⟨b1, 0, none⟩))) (a'.eval (.tmp 16)) w' := hall.2.2.2.2.2.2.2.2.2.2.2.1 _ rfl
  have e17 : (fun u _ => u = (.agg #[.pointer (some ⟨b0, 0, none⟩), .pointer (some ⟨b1, 0, none⟩)])) (a'.eval (.tmp 17)) w' := hall.2.2.2.2.2.2.2.2.2.2.2.2.1 _ rfl
  have e18 : (fun u _ => u = (.agg #[.string H, .pointer (some ⟨b0, 0, none⟩), .pointer (some ⟨b1, 0, none⟩)])) (a'.eval (.tmp 18)) w' := hall.2.2.2.2.2.2.2.2.2.2.2.2.2.1 _ rfl
  have e19 : (fun u w' => ∃ g, u = .pointer (some ⟨g, 0, none⟩) ∧ w.heap.size ≤ g ∧ NodeAt g H (some ⟨b0, 0, none⟩) (some ⟨b1, 0, none⟩) w') (a'.eval (.tmp 19)) w' := hall.2.2.2.2.2.2.2.2.2.2.2.2.2.2.1 _ rfl
  obtain ⟨v13, hv13⟩ : ∃ v, a'.eval (.tmp 13) = v := ⟨_, rfl⟩
  rw [hv13] at e13
  obtain ⟨v19, hv19⟩ : ∃ v, a'.eval (.tmp 19) = v := ⟨_, rfl⟩
  rw [hv19] at e19
  simp only [List.foldl_cons, List.foldl_nil, Act.put, List.setIfInBounds_toArray, List.set_cons_succ, List.set_cons_zero, e5, e6, e7, e8, e9, e10, e11, e12, hv13, e14, e15, e16, e17, e18, hv19] at hA
  clear hO hall e5 e6 e7 e8 e9 e10 e11 e12 hv13 e14 e15 e16 e17 e18 hv19
  subst hA
  obtain ⟨g, rfl, hg, hn⟩ := e19
  have HN := Lib.hid hn
  have HG := Lib.hid hg
  have HW : Hid (Below w.heap.size w w') := Lib.hid (of_drew hE)
  clear hn hg hE
  go_wp2
  go_ret
  exact ⟨g, rfl, HG.out, HN.out, HW.out⟩
end Go.Proofs.YtpobhbdomldecaaGreatDoor
namespace Go.Proofs.YtpobhbdomldecaaGreatDoor
open Go.RowKit
set_option linter.unusedSimpArgs false
set_option linter.unusedVariables false
def PlaceIs (els : List ByteArray) (d : Nat) : Nat → Nat → Nat → World → Prop
  | 0, k, b, w => NodeAt b (plD els d 0 k) none none w
  | l + 1, k, b, w => ∃ b0 b1, NodeAt b (plD els d (l + 1) k) (some ⟨b0, 0, none⟩) (some ⟨b1, 0, none⟩) w ∧ PlaceIs els d l (2 * k) b0 w ∧ PlaceIs els d l (2 * k + 1) b1 w
theorem PlaceIs.below {els : List ByteArray} {d : Nat} : ∀ {l k b : Nat} {w w' : World}, PlaceIs els d l k b w → Below w.heap.size w w' → PlaceIs els d l k b w'
  | 0, _, _, _, _, h, hb => NodeAt.below h hb
  | l + 1, _, _, _, _, ⟨b0, b1, h, h0, h1⟩, hb => ⟨b0, b1, h.below hb, h0.below hb, h1.below hb⟩
theorem PlaceIs.digest {els : List ByteArray} {d : Nat} : ∀ {l k b : Nat} {w : World}, PlaceIs els d l k b w → w.cell? ⟨b, 0, none⟩ = some (.string (plD els d l k))
  | 0, _, _, _, h => NodeAt.digest h
  | l + 1, _, _, _, ⟨b0, b1, h, _, _⟩ => h.digest
theorem PlaceIs.ext {els : List ByteArray} {d l k b : Nat} {w w' : World} (h : PlaceIs els d l k b w) (hb : Ext w w') : PlaceIs els d l k b w' := h.below hb
theorem PlaceIs.extB {els : List ByteArray} {d l k b : Nat} {w w' : World} (h : PlaceIs els d l k b w) (hb : ExtB none w w') : PlaceIs els d l k b w' := h.below (extB_none hb)
structure EnvT (els : List ByteArray) (d bF bD bE bN nb : Nat) (a : Option Addr) (cap : Nat) (w : World) : Prop where
  f : w.heap[bF]? = some (.cells #[.func (.func 91) #[] #[.pointer (some ⟨bF, 0, none⟩), .pointer (some ⟨bD, 0, none⟩), .pointer (some ⟨bE, 0, none⟩), .pointer (some ⟨bN, 0, none⟩)]] 119 (0, 0))
  d : w.heap[bD]? = some (.cells #[.int .i64 (d : Nat)] 3 (0, 0))
  e : w.heap[bE]? = some (.cells #[.slice a (len els) cap] 36 (0, 0))
  n : w.heap[bN]? = some (.cells #[.pointer (some ⟨nb, 0, none⟩)] 115 (0, 0))
  nb : NodeAt nb (hashP noneT []) none none w
  t : Txts w a els
theorem EnvT.below {els : List ByteArray} {d bF bD bE bN nb : Nat} {a : Option Addr} {cap : Nat} {w w' : World} (h : EnvT els d bF bD bE bN nb a cap w) (hb : Below w.heap.size w w') : EnvT els d bF bD bE bN nb a cap w' :=
  ⟨(hb.block _ (lt_of_block h.f)).trans h.f, (hb.block _ (lt_of_block h.d)).trans h.d, (hb.block _ (lt_of_block h.e)).trans h.e, (hb.block _ (lt_of_block h.n)).trans h.n, h.nb.below hb, h.t.below hb⟩
def AtIs (els : List ByteArray) (d l k : Nat) (w : World) (e : Ending) (w' : World) : Prop := ∃ g, e = .returned (.pointer (some ⟨g, 0, none⟩)) ∧ PlaceIs els d l k g w' ∧ Below w.heap.size w w'
theorem turned_rev {k d : Nat} (hd : d ≤ 16) (hk : k < 2 ^ d) : turnedZ (k : Nat) (d : Nat) = ((revOf k d : Nat) : Int) := by
  unfold turnedZ
  rw [if_pos]
  · simp
  · refine ⟨by omega, by omega, ?_⟩
    rw [Int.toNat_natCast, pow_cast]
    exact_mod_cast hk
theorem pow_le16 {d : Nat} (hd : d ≤ 16) : 2 ^ d ≤ 65536 := Nat.pow_le_pow_right (by decide) hd
set_option maxRecDepth 100000 in
set_option maxHeartbeats 4000000 in
theorem at_zero (els : List ByteArray) (d bF bD bE bN nb : Nat) (a : Option Addr) (cap k : Nat) (w : World) (hd : d ≤ 16) (hk : k < 2 ^ d) (hn : len els ≤ 65536) (hz : ∀ i, i < len els → (tth els i).size ≤ 140737488355200) (h : EnvT els d bF bD bE bN nb a cap w) :
    Calls Tryz.prog 91 #[.int .i64 0, .int .u64 k, .pointer (some ⟨bF, 0, none⟩), .pointer (some ⟨bD, 0, none⟩), .pointer (some ⟨bE, 0, none⟩), .pointer (some ⟨bN, 0, none⟩)] w (AtIs els d 0 k w) := by
  have H := Lib.hid h
  have HK : Hid (k < 65536) := Lib.hid (Nat.lt_of_lt_of_le hk (pow_le16 hd))
  have HN := Lib.hid hn
  have HZ := Lib.hid hz
  have HEL := Lib.hid (element_any (k : Nat) (d : Nat) w (by omega) (by have := HK.out; omega))
  rw [turned_rev hd hk] at HEL
  have cd : w.cell? ⟨bD, 0, none⟩ = some (.int .i64 (d : Nat)) := by rw [block_cell h.d]; rfl
  have ce : w.cell? ⟨bE, 0, none⟩ = some (.slice a (len els) cap) := by rw [block_cell h.e]; rfl
  have cn : w.cell? ⟨bN, 0, none⟩ = some (.pointer (some ⟨nb, 0, none⟩)) := by rw [block_cell h.n]; rfl
  have HPL : Hid (plD els d 0 k = if revOf k d < len els then hashP leafT [tth els (revOf k d)] else hashP noneT []) := Lib.hid rfl
  have HRL : Hid (revOf k d < 65536) := Lib.hid (Nat.lt_of_lt_of_le (revOf_lt k d) (pow_le16 hd))
  obtain ⟨i, hi⟩ : ∃ i, revOf k d = i := ⟨_, rfl⟩
  rw [hi] at HEL HPL HRL
  clear h hi hd hk hn hz
  go_enter Tryz.func91, Tryz.ntmps91
  go_wp2_with fail
  refine HEL.out.mono ?_
  rintro e w1 ⟨rfl, rfl⟩
  have HNB := HN.out
  have hil := HRL.out
  by_cases hlt : i < len els
  · have i1 : (i : Int) < (len els : Nat) := by omega
    have i2 : IntKind.u64.wrap ((len els : Nat) : Int) = ((len els : Nat) : Int) := IntWalk.u64_in _ (by omega)
    obtain ⟨pb, po, rfl, hpc⟩ := H.out.t i hlt
    obtain ⟨x, hx⟩ : ∃ x, tth els i = x := ⟨_, rfl⟩
    rw [hx] at hpc
    have HX := Lib.hid hx
    clear hx
    go_wp2_with fail
    refine (leaf_node x w (by rw [← HX.out]; exact HZ.out i hlt)).mono ?_
    rintro e w2 ⟨g, rfl, hg, hn2, hb2⟩
    have HE2 : Hid (PlaceIs els d 0 k g w2) := Lib.hid (by
      show NodeAt g (plD els d 0 k) none none w2
      rw [HPL.out, if_pos hlt, HX.out]; exact hn2)
    have HB2 := Lib.hid hb2
    clear hg hn2 hb2 hpc
    go_wp2
    go_ret
    exact ⟨g, rfl, HE2.out, HB2.out⟩
  · have i1 : ¬ (i : Int) < (len els : Nat) := by omega
    have i2 : IntKind.u64.wrap ((len els : Nat) : Int) = ((len els : Nat) : Int) := IntWalk.u64_in _ (by omega)
    have HE2 : Hid (PlaceIs els d 0 k nb w) := Lib.hid (by
      show NodeAt nb (plD els d 0 k) none none w
      rw [HPL.out, if_neg hlt]; exact H.out.nb)
    clear hlt
    go_wp2
    go_ret
    exact ⟨nb, rfl, HE2.out, Below.refl _ _⟩
set_option maxRecDepth 100000 in
set_option maxHeartbeats 4000000 in
theorem at_step (els : List ByteArray) (d bF bD bE bN nb : Nat) (a : Option Addr) (cap l k : Nat) (w : World) (hd : l + 1 ≤ 16) (hk : k < 65536) (h : EnvT els d bF bD bE bN nb a cap w)
    (hr : ∀ (k' : Nat) (wv : World), Below w.heap.size w wv → (k' = 2 * k ∨ k' = 2 * k + 1) → Calls Tryz.prog 91 #[.int .i64 (l : Nat), .int .u64 ((k' : Nat) : Int), .pointer (some ⟨bF, 0, none⟩), .pointer (some ⟨bD, 0, none⟩), .pointer (some ⟨bE, 0, none⟩), .pointer (some ⟨bN, 0, none⟩)] wv (AtIs els d l k' wv)) :
    Calls Tryz.prog 91 #[.int .i64 ((l + 1 : Nat) : Int), .int .u64 k, .pointer (some ⟨bF, 0, none⟩), .pointer (some ⟨bD, 0, none⟩), .pointer (some ⟨bE, 0, none⟩), .pointer (some ⟨bN, 0, none⟩)] w (AtIs els d (l + 1) k w) := by
  have HR := Lib.hid hr
  have K1 : 2 * k = 2 * k ∨ 2 * k = 2 * k + 1 := Or.inl rfl
  have K2 : 2 * k + 1 = 2 * k ∨ 2 * k + 1 = 2 * k + 1 := Or.inr rfl
  have cf : w.cell? ⟨bF, 0, none⟩ = some (.func (.func 91) #[] #[.pointer (some ⟨bF, 0, none⟩), .pointer (some ⟨bD, 0, none⟩), .pointer (some ⟨bE, 0, none⟩), .pointer (some ⟨bN, 0, none⟩)]) := by rw [block_cell h.f]; rfl
  have l1 : (0 : Int) < ((l + 1 : Nat) : Int) := by omega
  have s1 : IntKind.i64.wrap (l : Int) = (l : Int) := IntWalk.i64_in _ (by omega)
  have m1 : IntKind.u64.wrap (2 * (k : Int)) = 2 * (k : Int) := IntWalk.u64_in _ (by omega)
  have m2 : IntKind.u64.wrap (2 * (k : Int) + 1) = 2 * (k : Int) + 1 := IntWalk.u64_in _ (by omega)
  clear hr h
  go_enter Tryz.func91, Tryz.ntmps91
  go_upto_region 2 with fail
  refine wp_region_tail 14 1000 (none) (phis [fun u _ => u = (.func (.func 91) #[] #[.pointer (some ⟨bF, 0, none⟩), .pointer (some ⟨bD, 0, none⟩), .pointer (some ⟨bE, 0, none⟩), .pointer (some ⟨bN, 0, none⟩)]), fun u _ => u = (.int .i64 ((l + 1 : Nat) : Int)), fun u _ => u = (.int .i64 (l : Nat)), fun u _ => u = (.int .u64 k), fun u _ => u = (.int .u64 ((2 * k : Nat) : Int)), fun u w' => ∃ g, u = .pointer (some ⟨g, 0, none⟩) ∧ PlaceIs els d l (2 * k) g w', fun u _ => u = (.func (.func 91) #[] #[.pointer (some ⟨bF, 0, none⟩), .pointer (some ⟨bD, 0, none⟩), .pointer (some ⟨bE, 0, none⟩), .pointer (some ⟨bN, 0, none⟩)]), fun u _ => u = (.int .i64 ((l + 1 : Nat) : Int)), fun u _ => u = (.int .i64 (l : Nat)), fun u _ => u = (.int .u64 k), fun u _ => u = (.int .u64 ((2 * k : Nat) : Int)), fun u _ => u = (.int .u64 ((2 * k + 1 : Nat) : Int)), fun u w' => ∃ g, u = .pointer (some ⟨g, 0, none⟩) ∧ PlaceIs els d l (2 * k + 1) g w', fun u w' => ∃ g, u = .pointer (some ⟨g, 0, none⟩) ∧ PlaceIs els d (l + 1) k g w']) rfl (by kernel_rfl) (by kernel_rfl) (mono_of ⟨mono_eq, mono_eq, mono_eq, mono_eq, mono_eq, ?m5, mono_eq, mono_eq, mono_eq, mono_eq, mono_eq, mono_eq, ?m12, ?m13, trivial⟩) (steps_of 14 ⟨?s0, ?s1, ?s2, ?s3, ?s4, ?s5, ?s6, ?s7, ?s8, ?s9, ?s10, ?s11, ?s12, ?s13, trivial⟩) ?_
  case m5 =>
    exact ⟨fun u w1 w' h ⟨b, h1, hb⟩ => ⟨b, h1, hb.ext h⟩, fun _ u w1 w' h ⟨b, h1, hb⟩ => ⟨b, h1, hb.extB h⟩⟩
  case m12 =>
    exact ⟨fun u w1 w' h ⟨b, h1, hb⟩ => ⟨b, h1, hb.ext h⟩, fun _ u w1 w' h ⟨b, h1, hb⟩ => ⟨b, h1, hb.extB h⟩⟩
  case m13 =>
    exact ⟨fun u w1 w' h ⟨b, h1, hb⟩ => ⟨b, h1, hb.ext h⟩, fun _ u w1 w' h ⟨b, h1, hb⟩ => ⟨b, h1, hb.extB h⟩⟩
  case s0 =>
    refine step_val (v := (.func (.func 91) #[] #[.pointer (some ⟨bF, 0, none⟩), .pointer (some ⟨bD, 0, none⟩), .pointer (some ⟨bE, 0, none⟩), .pointer (some ⟨bN, 0, none⟩)])) (fun av wv hE hS hO hD => ?_) (fun _ => rfl)
    have h2 : av.eval (.tmp 2) = (.pointer (some ⟨bF, 0, none⟩)) := hO.2.2 2 rfl
    have f2 := (ev_form av 2).symm.trans h2
    have cf := extB_cell hE (by simp) cf
    refine ⟨rfl, ?_⟩
    simp [go_sem, f2, cf, s1, m1, m2]
  case s1 =>
    refine step_val (v := (.int .i64 ((l + 1 : Nat) : Int))) (fun av wv hE hS hO hD => ?_) (fun _ => rfl)
    have h0 : av.eval (.tmp 0) = (.int .i64 ((l + 1 : Nat) : Int)) := hO.2.2 0 rfl
    have f0 := (ev_form av 0).symm.trans h0
    refine ⟨rfl, ?_⟩
    simp [go_sem, f0, s1, m1, m2]
  case s2 =>
    refine step_val (v := (.int .i64 (l : Nat))) (fun av wv hE hS hO hD => ?_) (fun _ => rfl)
    have d13 : av.eval (.tmp 13) = (.int .i64 ((l + 1 : Nat) : Int)) := hD.1 rfl _ rfl
    have f13 := (ev_form av 13).symm.trans d13
    refine ⟨rfl, ?_⟩
    simp [go_sem, f13, s1, m1, m2]
  case s3 =>
    refine step_val (v := (.int .u64 k)) (fun av wv hE hS hO hD => ?_) (fun _ => rfl)
    have h1 : av.eval (.tmp 1) = (.int .u64 k) := hO.2.2 1 rfl
    have f1 := (ev_form av 1).symm.trans h1
    refine ⟨rfl, ?_⟩
    simp [go_sem, f1, s1, m1, m2]
  case s4 =>
    refine step_val (v := (.int .u64 ((2 * k : Nat) : Int))) (fun av wv hE hS hO hD => ?_) (fun _ => rfl)
    have d15 : av.eval (.tmp 15) = (.int .u64 k) := hD.1 rfl _ rfl
    have f15 := (ev_form av 15).symm.trans d15
    refine ⟨rfl, ?_⟩
    simp [go_sem, f15, s1, m1, m2]
  case s5 =>
    refine step_wp (fun av wv hE hS hO hD => ?_)
    have d12 : av.eval (.tmp 12) = (.func (.func 91) #[] #[.pointer (some ⟨bF, 0, none⟩), .pointer (some ⟨bD, 0, none⟩), .pointer (some ⟨bE, 0, none⟩), .pointer (some ⟨bN, 0, none⟩)]) := hD.1 rfl _ rfl
    have f12 := (ev_form av 12).symm.trans d12
    have d14 : av.eval (.tmp 14) = (.int .i64 (l : Nat)) := hD.2.1 rfl _ rfl
    have f14 := (ev_form av 14).symm.trans d14
    have d16 : av.eval (.tmp 16) = (.int .u64 ((2 * k : Nat) : Int)) := hD.2.2.1 rfl _ rfl
    have f16 := (ev_form av 16).symm.trans d16
    refine ⟨rfl, ?_⟩
    refine wp_of_callV (R := fun u w2 => (∃ g, u = .pointer (some ⟨g, 0, none⟩) ∧ PlaceIs els d l (2 * k) g w2) ∧ Below wv.heap.size wv w2) (f := 91) (args := #[.int .i64 (l : Nat), .int .u64 ((2 * k : Nat) : Int), .pointer (some ⟨bF, 0, none⟩), .pointer (some ⟨bD, 0, none⟩), .pointer (some ⟨bE, 0, none⟩), .pointer (some ⟨bN, 0, none⟩)]) (by simp [go_sem, f12, f14, f16]) ((HR.out (2 * k) wv (of_drew hE) K1).mono (fun e w2 ⟨g, h1, h2, h3⟩ => ⟨_, h1, ⟨g, rfl, h2⟩, h3⟩)) (fun u w2 ⟨h1, h2⟩ => ⟨_, rfl, es_of_ext h2, h1⟩)
  case s6 =>
    refine step_val (v := (.func (.func 91) #[] #[.pointer (some ⟨bF, 0, none⟩), .pointer (some ⟨bD, 0, none⟩), .pointer (some ⟨bE, 0, none⟩), .pointer (some ⟨bN, 0, none⟩)])) (fun av wv hE hS hO hD => ?_) (fun _ => rfl)
    have h2 : av.eval (.tmp 2) = (.pointer (some ⟨bF, 0, none⟩)) := hO.2.2 2 rfl
    have f2 := (ev_form av 2).symm.trans h2
    have cf := extB_cell hE (by simp) cf
    refine ⟨rfl, ?_⟩
    simp [go_sem, f2, cf, s1, m1, m2]
  case s7 =>
    refine step_val (v := (.int .i64 ((l + 1 : Nat) : Int))) (fun av wv hE hS hO hD => ?_) (fun _ => rfl)
    have h0 : av.eval (.tmp 0) = (.int .i64 ((l + 1 : Nat) : Int)) := hO.2.2 0 rfl
    have f0 := (ev_form av 0).symm.trans h0
    refine ⟨rfl, ?_⟩
    simp [go_sem, f0, s1, m1, m2]
  case s8 =>
    refine step_val (v := (.int .i64 (l : Nat))) (fun av wv hE hS hO hD => ?_) (fun _ => rfl)
    have d19 : av.eval (.tmp 19) = (.int .i64 ((l + 1 : Nat) : Int)) := hD.1 rfl _ rfl
    have f19 := (ev_form av 19).symm.trans d19
    refine ⟨rfl, ?_⟩
    simp [go_sem, f19, s1, m1, m2]
  case s9 =>
    refine step_val (v := (.int .u64 k)) (fun av wv hE hS hO hD => ?_) (fun _ => rfl)
    have h1 : av.eval (.tmp 1) = (.int .u64 k) := hO.2.2 1 rfl
    have f1 := (ev_form av 1).symm.trans h1
    refine ⟨rfl, ?_⟩
    simp [go_sem, f1, s1, m1, m2]
  case s10 =>
    refine step_val (v := (.int .u64 ((2 * k : Nat) : Int))) (fun av wv hE hS hO hD => ?_) (fun _ => rfl)
    have d21 : av.eval (.tmp 21) = (.int .u64 k) := hD.1 rfl _ rfl
    have f21 := (ev_form av 21).symm.trans d21
    refine ⟨rfl, ?_⟩
    simp [go_sem, f21, s1, m1, m2]
  case s11 =>
    refine step_val (v := (.int .u64 ((2 * k + 1 : Nat) : Int))) (fun av wv hE hS hO hD => ?_) (fun _ => rfl)
    have d22 : av.eval (.tmp 22) = (.int .u64 ((2 * k : Nat) : Int)) := hD.1 rfl _ rfl
    have f22 := (ev_form av 22).symm.trans d22
    refine ⟨rfl, ?_⟩
    simp [go_sem, f22, s1, m1, m2]
  case s12 =>
    refine step_wp (fun av wv hE hS hO hD => ?_)
    have d18 : av.eval (.tmp 18) = (.func (.func 91) #[] #[.pointer (some ⟨bF, 0, none⟩), .pointer (some ⟨bD, 0, none⟩), .pointer (some ⟨bE, 0, none⟩), .pointer (some ⟨bN, 0, none⟩)]) := hD.1 rfl _ rfl
    have f18 := (ev_form av 18).symm.trans d18
    have d20 : av.eval (.tmp 20) = (.int .i64 (l : Nat)) := hD.2.1 rfl _ rfl
    have f20 := (ev_form av 20).symm.trans d20
    have d23 : av.eval (.tmp 23) = (.int .u64 ((2 * k + 1 : Nat) : Int)) := hD.2.2.1 rfl _ rfl
    have f23 := (ev_form av 23).symm.trans d23
    refine ⟨rfl, ?_⟩
    refine wp_of_callV (R := fun u w2 => (∃ g, u = .pointer (some ⟨g, 0, none⟩) ∧ PlaceIs els d l (2 * k + 1) g w2) ∧ Below wv.heap.size wv w2) (f := 91) (args := #[.int .i64 (l : Nat), .int .u64 ((2 * k + 1 : Nat) : Int), .pointer (some ⟨bF, 0, none⟩), .pointer (some ⟨bD, 0, none⟩), .pointer (some ⟨bE, 0, none⟩), .pointer (some ⟨bN, 0, none⟩)]) (by simp [go_sem, f18, f20, f23]) ((HR.out (2 * k + 1) wv (of_drew hE) K2).mono (fun e w2 ⟨g, h1, h2, h3⟩ => ⟨_, h1, ⟨g, rfl, h2⟩, h3⟩)) (fun u w2 ⟨h1, h2⟩ => ⟨_, rfl, es_of_ext h2, h1⟩)
  case s13 =>
    refine step_wp (fun av wv hE hS hO hD => ?_)
    have d17 : (fun u w' => ∃ g, u = .pointer (some ⟨g, 0, none⟩) ∧ PlaceIs els d l (2 * k) g w') (av.eval (.tmp 17)) wv := hD.1 rfl _ rfl
    have d24 : (fun u w' => ∃ g, u = .pointer (some ⟨g, 0, none⟩) ∧ PlaceIs els d l (2 * k + 1) g w') (av.eval (.tmp 24)) wv := hD.2.1 rfl _ rfl
    refine ⟨rfl, ?_⟩
    obtain ⟨g0, h17, hg0⟩ := d17
    obtain ⟨g1, h24, hg1⟩ := d24
    have f17 := (ev_form av 17).symm.trans h17
    have f24 := (ev_form av 24).symm.trans h24
    refine wp_of_callV (R := fun u w2 => ∃ g, u = .pointer (some ⟨g, 0, none⟩) ∧ NodeAt g (plD els d (l + 1) k) (some ⟨g0, 0, none⟩) (some ⟨g1, 0, none⟩) w2 ∧ Below wv.heap.size wv w2) (f := 92) (args := #[.pointer (some ⟨g0, 0, none⟩), .pointer (some ⟨g1, 0, none⟩)]) (by simp [go_sem, f17, f24]) ((over_any g0 g1 (plD els d l (2 * k)) (plD els d l (2 * k + 1)) wv hg0.digest hg1.digest ⟨by rw [plD_size]; decide, by rw [plD_size]; decide⟩).mono (fun e w2 ⟨g, h1, _, h2, h3⟩ => ⟨_, h1, g, rfl, h2, h3⟩)) (fun u w2 ⟨g, h1, h2, h3⟩ => ⟨_, rfl, es_of_ext h3, g, h1, g0, g1, h2, hg0.below h3, hg1.below h3⟩)
  intro a' w' hE hO hall
  have hA := act_of_outer (ds := [12, 13, 14, 15, 16, 17, 18, 19, 20, 21, 22, 23, 24, 25]) rfl hO (by kernel_rfl)
  have e12 : (fun u _ => u = (.func (.func 91) #[] #[.pointer (some ⟨bF, 0, none⟩), .pointer (some ⟨bD, 0, none⟩), .pointer (some ⟨bE, 0, none⟩), .pointer (some ⟨bN, 0, none⟩)])) (a'.eval (.tmp 12)) w' := hall.1 _ rfl
  have e13 : (fun u _ => u = (.int .i64 ((l + 1 : Nat) : Int))) (a'.eval (.tmp 13)) w' := hall.2.1 _ rfl
  have e14 : (fun u _ => u = (.int .i64 (l : Nat))) (a'.eval (.tmp 14)) w' := hall.2.2.1 _ rfl
  have e15 : (fun u _ => u = (.int .u64 k)) (a'.eval (.tmp 15)) w' := hall.2.2.2.1 _ rfl
  have e16 : (fun u _ => u = (.int .u64 ((2 * k : Nat) : Int))) (a'.eval (.tmp 16)) w' := hall.2.2.2.2.1 _ rfl
  have e17 : (fun u w' => ∃ g, u = .pointer (some ⟨g, 0, none⟩) ∧ PlaceIs els d l (2 * k) g w') (a'.eval (.tmp 17)) w' := hall.2.2.2.2.2.1 _ rfl
  have e18 : (fun u _ => u = (.func (.func 91) #[] #[.pointer (some ⟨bF, 0, none⟩), .pointer (some ⟨bD, 0, none⟩), .pointer (some ⟨bE, 0, none⟩), .pointer (some ⟨bN, 0, none⟩)])) (a'.eval (.tmp 18)) w' := hall.2.2.2.2.2.2.1 _ rfl
  have e19 : (fun u _ => u = (.int .i64 ((l + 1 : Nat) : Int))) (a'.eval (.tmp 19)) w' := hall.2.2.2.2.2.2.2.1 _ rfl
  have e20 : (fun u _ => u = (.int .i64 (l : Nat))) (a'.eval (.tmp 20)) w' := hall.2.2.2.2.2.2.2.2.1 _ rfl
  have e21 : (fun u _ => u = (.int .u64 k)) (a'.eval (.tmp 21)) w' := hall.2.2.2.2.2.2.2.2.2.1 _ rfl
  have e22 : (fun u _ => u = (.int .u64 ((2 * k : Nat) : Int))) (a'.eval (.tmp 22)) w' := hall.2.2.2.2.2.2.2.2.2.2.1 _ rfl
  have e23 : (fun u _ => u = (.int .u64 ((2 * k + 1 : Nat) : Int))) (a'.eval (.tmp 23)) w' := hall.2.2.2.2.2.2.2.2.2.2.2.1 _ rfl
  have e24 : (fun u w' => ∃ g, u = .pointer (some ⟨g, 0, none⟩) ∧ PlaceIs els d l (2 * k + 1) g w') (a'.eval (.tmp 24)) w' := hall.2.2.2.2.2.2.2.2.2.2.2.2.1 _ rfl
  have e25 : (fun u w' => ∃ g, u = .pointer (some ⟨g, 0, none⟩) ∧ PlaceIs els d (l + 1) k g w') (a'.eval (.tmp 25)) w' := hall.2.2.2.2.2.2.2.2.2.2.2.2.2.1 _ rfl
  obtain ⟨v17, hv17⟩ : ∃ v, a'.eval (.tmp 17) = v := ⟨_, rfl⟩
  rw [hv17] at e17
  obtain ⟨v24, hv24⟩ : ∃ v, a'.eval (.tmp 24) = v := ⟨_, rfl⟩
  rw [hv24] at e24
  obtain ⟨v25, hv25⟩ : ∃ v, a'.eval (.tmp 25) = v := ⟨_, rfl⟩
  rw [hv25] at e25
  simp only [List.foldl_cons, List.foldl_nil, Act.put, List.setIfInBounds_toArray, List.set_cons_succ, List.set_cons_zero, e12, e13, e14, e15, e16, hv17, e18, e19, e20, e21, e22, e23, hv24, hv25] at hA
  clear hO hall e12 e13 e14 e15 e16 hv17 e18 e19 e20 e21 e22 e23 hv24 hv25
  subst hA
  obtain ⟨g, rfl, hg⟩ := e25
  have HG := Lib.hid hg
  have HW : Hid (Below w.heap.size w w') := Lib.hid (of_drew hE)
  clear hg hE e17 e24
  go_wp2
  go_ret
  exact ⟨g, rfl, HG.out, HW.out⟩
theorem at_any (els : List ByteArray) (d bF bD bE bN nb : Nat) (a : Option Addr) (cap : Nat) (hd : d ≤ 16) (hn : len els ≤ 65536) (hz : ∀ i, i < len els → (tth els i).size ≤ 140737488355200) :
    ∀ (l k : Nat) (w : World), l ≤ d → k < 2 ^ (d - l) → EnvT els d bF bD bE bN nb a cap w →
    Calls Tryz.prog 91 #[.int .i64 (l : Nat), .int .u64 k, .pointer (some ⟨bF, 0, none⟩), .pointer (some ⟨bD, 0, none⟩), .pointer (some ⟨bE, 0, none⟩), .pointer (some ⟨bN, 0, none⟩)] w (AtIs els d l k w)
  | 0, k, w, _, hk, h => at_zero els d bF bD bE bN nb a cap k w hd (by simpa using hk) hn hz h
  | l + 1, k, w, hl, hk, h => by
    have h2 : 2 ^ (d - (l + 1)) ≤ 65536 := Nat.le_trans (Nat.pow_le_pow_right (by decide) (show d - (l + 1) ≤ 16 by omega)) (by decide)
    refine at_step els d bF bD bE bN nb a cap l k w (by omega) (by omega) h fun k' wv hb hk' => ?_
    refine at_any els d bF bD bE bN nb a cap hd hn hz l k' wv (by omega) ?_ (h.below hb)
    have : 2 ^ (d - l) = 2 * 2 ^ (d - (l + 1)) := by rw [show d - l = (d - (l + 1)) + 1 by omega, Nat.pow_succ]; omega
    rcases hk' with rfl | rfl <;> omega
end Go.Proofs.YtpobhbdomldecaaGreatDoor
namespace Go.Proofs.YtpobhbdomldecaaGreatDoor
open Go.RowKit
set_option linter.unusedSimpArgs false
set_option linter.unusedVariables false
def depN (els : List ByteArray) : Nat := Lib.bitLen (len els - 1)
theorem depN_le {els : List ByteArray} (h : len els ≤ 65536) : depN els ≤ 16 := (depth_bd (len els) h).1
theorem depthZ_len {els : List ByteArray} (h : len els ≤ 65536) : depthZ (len els : Nat) = ((depN els : Nat) : Int) := by
  unfold depthZ depN
  rw [if_neg (by omega), Int.toNat_natCast]
def TreeAt (els : List ByteArray) (b : Nat) (w : World) : Prop := ∃ p, w.heap[b]? = some (.cells #[.pointer (some ⟨p, 0, none⟩), .int .i64 (depN els : Nat), .int .i64 (len els : Nat)] 124 (0, 0)) ∧ PlaceIs els (depN els) (depN els) 0 p w
theorem TreeAt.below {els : List ByteArray} {b : Nat} {w w' : World} (h : TreeAt els b w) (hb : Below w.heap.size w w') : TreeAt els b w' := by
  obtain ⟨p, h1, h2⟩ := h
  exact ⟨p, (hb.block _ (lt_of_block h1)).trans h1, h2.below hb⟩
def BuildIs (els : List ByteArray) (w : World) (e : Ending) (w' : World) : Prop := ∃ b, e = .returned (.tuple #[.pointer (some ⟨b, 0, none⟩), .int .i64 0]) ∧ w.heap.size ≤ b ∧ TreeAt els b w' ∧ Below w.heap.size w w'
set_option maxRecDepth 100000 in
set_option maxHeartbeats 4000000 in
theorem build_any (els : List ByteArray) (a : Option Addr) (cap : Nat) (w : World) (ht : Txts w a els) (hn : len els ≤ 65536) (hz : ∀ i, i < len els → (tth els i).size ≤ 140737488355200) :
    Calls Tryz.prog 42 #[.slice a (len els) cap] w (BuildIs els w) := by
  have HT := Lib.hid ht
  have HN := Lib.hid hn
  have HZ := Lib.hid hz
  obtain ⟨d, hd⟩ : ∃ d, depN els = d := ⟨_, rfl⟩
  have HDD := Lib.hid hd
  have HD16 : Hid (d ≤ 16) := Lib.hid (by rw [← hd]; exact depN_le hn)
  have HDZ : Hid (depthZ (len els : Nat) = ((d : Nat) : Int)) := Lib.hid (by rw [← hd]; exact depthZ_len hn)
  have n1 : ¬ (65536 : Int) < (len els : Nat) := by omega
  clear ht hz hd
  go_enter Tryz.func42, Tryz.ntmps42
  go_wp2_with fail
  refine (depth_any (len els : Nat) _ (by omega) (by omega)).mono ?_
  rintro e w1 ⟨rfl, rfl⟩
  rw [HDZ.out]
  clear n1 hn
  go_wp2_with fail
  obtain ⟨bE, hbE⟩ : ∃ bE, w.heap.size = bE := ⟨_, rfl⟩
  obtain ⟨bD, hbD⟩ : ∃ bD, w.heap.size + 1 = bD := ⟨_, rfl⟩
  rw [hbD, hbE]
  obtain ⟨V, hV⟩ : ∃ V, (w.alloc (.cells #[.slice a (len els) cap] 36)).alloc (.cells #[.int .i64 (d : Nat)] 3) = V := ⟨_, rfl⟩
  rw [hV]
  have HVE : Hid (V.heap[bE]? = some (.cells #[.slice a (len els) cap] 36 (0, 0))) := Lib.hid (by rw [← hV]; exact block_alloc (alloc_new_at _ hbE) _)
  have HVD : Hid (V.heap[bD]? = some (.cells #[.int .i64 (d : Nat)] 3 (0, 0))) := Lib.hid (by rw [← hV]; exact alloc_new_at _ (by rw [alloc_size _ rfl]; exact hbD))
  have HVW : Hid (Below w.heap.size w V) := Lib.hid (by rw [← hV]; exact balloc (balloc (Below.refl _ _) _) _)
  clear hV hbE hbD
  refine (hash_any noneT [] none 0 V (by decide) (by decide) (Txts.nil _ _) (by decide)).mono ?_
  rintro e w2 ⟨rfl, hb2⟩
  have H2E : Hid (w2.heap[bE]? = some (.cells #[.slice a (len els) cap] 36 (0, 0))) := Lib.hid ((hb2.block _ (lt_of_block HVE.out)).trans HVE.out)
  have H2D : Hid (w2.heap[bD]? = some (.cells #[.int .i64 (d : Nat)] 3 (0, 0))) := Lib.hid ((hb2.block _ (lt_of_block HVD.out)).trans HVD.out)
  have H2W : Hid (Below w.heap.size w w2) := Lib.hid (bnext HVW.out hb2)
  obtain ⟨Hn, hHn⟩ : ∃ Hn, hashP noneT [] = Hn := ⟨_, rfl⟩
  rw [hHn]
  have HHN := Lib.hid hHn
  clear hb2 hHn HVE HVD HVW
  go_upto_region 7 with fail
  obtain ⟨nb, hnb⟩ : ∃ nb, w2.heap.size = nb := ⟨_, rfl⟩
  obtain ⟨bN, hbN⟩ : ∃ bN, w2.heap.size + 1 = bN := ⟨_, rfl⟩
  obtain ⟨bF, hbF⟩ : ∃ bF, w2.heap.size + 1 + 1 = bF := ⟨_, rfl⟩
  rw [hbF, hbN, hnb]
  obtain ⟨U, hU⟩ : ∃ U, (((w2.alloc (.cells #[.string Hn, .pointer none, .pointer none] 118)).alloc (.cells #[.pointer (some ⟨nb, 0, none⟩)] 115)).alloc (.cells #[.func (.func 91) #[] #[.pointer (some ⟨bF, 0, none⟩), .pointer (some ⟨bD, 0, none⟩), .pointer (some ⟨bE, 0, none⟩), .pointer (some ⟨bN, 0, none⟩)]] 119)) = U := ⟨_, rfl⟩
  rw [hU]
  have HEN : Hid (EnvT els d bF bD bE bN nb a cap U) := Lib.hid (by
    have hbw : Below w.heap.size w U := by rw [← hU]; exact balloc (balloc (balloc H2W.out _) _) _
    refine ⟨?_, ?_, ?_, ?_, ?_, HT.out.below hbw⟩
    · rw [← hU]; exact alloc_new_at _ (by rw [alloc_size _ (alloc_size _ rfl)]; exact hbF)
    · rw [← hU]; exact block_alloc (block_alloc (block_alloc H2D.out _) _) _
    · rw [← hU]; exact block_alloc (block_alloc (block_alloc H2E.out _) _) _
    · rw [← hU]; exact block_alloc (alloc_new_at _ (by rw [alloc_size _ rfl]; exact hbN)) _
    · rw [← hU, HHN.out]; exact block_alloc (block_alloc (alloc_new_at _ hnb) _) _)
  have HUW : Hid (Below w.heap.size w U) := Lib.hid (by rw [← hU]; exact balloc (balloc (balloc H2W.out _) _) _)
  have HVS : Hid (w.heap.size ≤ U.heap.size) := Lib.hid HUW.out.size
  have HA : Hid (∀ wv : World, Below U.heap.size U wv → Calls Tryz.prog 91 #[.int .i64 (d : Nat), .int .u64 0, .pointer (some ⟨bF, 0, none⟩), .pointer (some ⟨bD, 0, none⟩), .pointer (some ⟨bE, 0, none⟩), .pointer (some ⟨bN, 0, none⟩)] wv (AtIs els d d 0 wv)) := Lib.hid (fun wv hb => at_any els d bF bD bE bN nb a cap HD16.out HN.out HZ.out d 0 wv (Nat.le_refl _) (Nat.two_pow_pos _) (HEN.out.below hb))
  have cf : U.cell? ⟨bF, 0, none⟩ = some (.func (.func 91) #[] #[.pointer (some ⟨bF, 0, none⟩), .pointer (some ⟨bD, 0, none⟩), .pointer (some ⟨bE, 0, none⟩), .pointer (some ⟨bN, 0, none⟩)]) := by rw [block_cell HEN.out.f]; rfl
  have cd : U.cell? ⟨bD, 0, none⟩ = some (.int .i64 (d : Nat)) := by rw [block_cell HEN.out.d]; rfl
  have ce : U.cell? ⟨bE, 0, none⟩ = some (.slice a (len els) cap) := by rw [block_cell HEN.out.e]; rfl
  clear hU hnb hbN hbF H2D H2E H2W
  refine wp_region_tail 8 1000 (none) (phis [fun u _ => u = (.func (.func 91) #[] #[.pointer (some ⟨bF, 0, none⟩), .pointer (some ⟨bD, 0, none⟩), .pointer (some ⟨bE, 0, none⟩), .pointer (some ⟨bN, 0, none⟩)]), fun u _ => u = (.int .i64 (d : Nat)), fun u w' => ∃ g, u = .pointer (some ⟨g, 0, none⟩) ∧ PlaceIs els d d 0 g w', fun u _ => u = (.int .i64 (d : Nat)), fun u _ => u = (.slice a (len els) cap), fun u _ => u = (.int .i64 (len els)), fun u w' => ∃ g, u = .agg #[.pointer (some ⟨g, 0, none⟩), .int .i64 (d : Nat), .int .i64 (len els)] ∧ PlaceIs els d d 0 g w', fun u w' => ∃ b, u = .pointer (some ⟨b, 0, none⟩) ∧ w.heap.size ≤ b ∧ TreeAt els b w']) rfl (by kernel_rfl) (by kernel_rfl) (mono_of ⟨mono_eq, mono_eq, ?m2, mono_eq, mono_eq, mono_eq, ?m6, ?m7, trivial⟩) (steps_of 8 ⟨?s0, ?s1, ?s2, ?s3, ?s4, ?s5, ?s6, ?s7, trivial⟩) ?_
  case m2 =>
    exact ⟨fun u w1 w' h ⟨b, h1, hb⟩ => ⟨b, h1, hb.ext h⟩, fun _ u w1 w' h ⟨b, h1, hb⟩ => ⟨b, h1, hb.extB h⟩⟩
  case m6 =>
    exact ⟨fun u w1 w' h ⟨b, h1, hb⟩ => ⟨b, h1, hb.ext h⟩, fun _ u w1 w' h ⟨b, h1, hb⟩ => ⟨b, h1, hb.extB h⟩⟩
  case m7 =>
    exact ⟨fun u w1 w' h ⟨b, h1, h2, hb⟩ => ⟨b, h1, h2, hb.below h⟩, fun _ u w1 w' h ⟨b, h1, h2, hb⟩ => ⟨b, h1, h2, hb.below (extB_none h)⟩⟩
  case s0 =>
    refine step_val (v := (.func (.func 91) #[] #[.pointer (some ⟨bF, 0, none⟩), .pointer (some ⟨bD, 0, none⟩), .pointer (some ⟨bE, 0, none⟩), .pointer (some ⟨bN, 0, none⟩)])) (fun av wv hE hS hO hD => ?_) (fun _ => rfl)
    have h6 : av.eval (.tmp 6) = (.pointer (some ⟨bF, 0, none⟩)) := hO.2.2 6 rfl
    have f6 := (ev_form av 6).symm.trans h6
    have cf := extB_cell hE (by simp) cf
    have cd := extB_cell hE (by simp) cd
    have ce := extB_cell hE (by simp) ce
    refine ⟨rfl, ?_⟩
    simp [go_sem, f6, cf, cd, ce]
  case s1 =>
    refine step_val (v := (.int .i64 (d : Nat))) (fun av wv hE hS hO hD => ?_) (fun _ => rfl)
    have h4 : av.eval (.tmp 4) = (.pointer (some ⟨bD, 0, none⟩)) := hO.2.2 4 rfl
    have f4 := (ev_form av 4).symm.trans h4
    have cf := extB_cell hE (by simp) cf
    have cd := extB_cell hE (by simp) cd
    have ce := extB_cell hE (by simp) ce
    refine ⟨rfl, ?_⟩
    simp [go_sem, f4, cf, cd, ce]
  case s2 =>
    refine step_wp (fun av wv hE hS hO hD => ?_)
    have d17 : av.eval (.tmp 17) = (.func (.func 91) #[] #[.pointer (some ⟨bF, 0, none⟩), .pointer (some ⟨bD, 0, none⟩), .pointer (some ⟨bE, 0, none⟩), .pointer (some ⟨bN, 0, none⟩)]) := hD.1 rfl _ rfl
    have f17 := (ev_form av 17).symm.trans d17
    have d18 : av.eval (.tmp 18) = (.int .i64 (d : Nat)) := hD.2.1 rfl _ rfl
    have f18 := (ev_form av 18).symm.trans d18
    refine ⟨rfl, ?_⟩
    refine wp_of_callV (R := fun u w2 => (∃ g, u = .pointer (some ⟨g, 0, none⟩) ∧ PlaceIs els d d 0 g w2) ∧ Below wv.heap.size wv w2) (f := 91) (args := #[.int .i64 (d : Nat), .int .u64 0, .pointer (some ⟨bF, 0, none⟩), .pointer (some ⟨bD, 0, none⟩), .pointer (some ⟨bE, 0, none⟩), .pointer (some ⟨bN, 0, none⟩)]) (by simp [go_sem, f17, f18]) ((HA.out wv (of_drew hE)).mono (fun e w2 ⟨g, h1, h2, h3⟩ => ⟨_, h1, ⟨g, rfl, h2⟩, h3⟩)) (fun u w2 ⟨h1, h2⟩ => ⟨_, rfl, es_of_ext h2, h1⟩)
  case s3 =>
    refine step_val (v := (.int .i64 (d : Nat))) (fun av wv hE hS hO hD => ?_) (fun _ => rfl)
    have h4 : av.eval (.tmp 4) = (.pointer (some ⟨bD, 0, none⟩)) := hO.2.2 4 rfl
    have f4 := (ev_form av 4).symm.trans h4
    have cf := extB_cell hE (by simp) cf
    have cd := extB_cell hE (by simp) cd
    have ce := extB_cell hE (by simp) ce
    refine ⟨rfl, ?_⟩
    simp [go_sem, f4, cf, cd, ce]
  case s4 =>
    refine step_val (v := (.slice a (len els) cap)) (fun av wv hE hS hO hD => ?_) (fun _ => rfl)
    have h1 : av.eval (.tmp 1) = (.pointer (some ⟨bE, 0, none⟩)) := hO.2.2 1 rfl
    have f1 := (ev_form av 1).symm.trans h1
    have cf := extB_cell hE (by simp) cf
    have cd := extB_cell hE (by simp) cd
    have ce := extB_cell hE (by simp) ce
    refine ⟨rfl, ?_⟩
    simp [go_sem, f1, cf, cd, ce]
  case s5 =>
    refine step_val (v := (.int .i64 (len els))) (fun av wv hE hS hO hD => ?_) (fun _ => rfl)
    have d21 : av.eval (.tmp 21) = (.slice a (len els) cap) := hD.1 rfl _ rfl
    have f21 := (ev_form av 21).symm.trans d21
    refine ⟨rfl, ?_⟩
    simp [go_sem, f21]
  case s6 =>
    refine step_wp (fun av wv hE hS hO hD => ?_)
    have d19 : (fun u w' => ∃ g, u = .pointer (some ⟨g, 0, none⟩) ∧ PlaceIs els d d 0 g w') (av.eval (.tmp 19)) wv := hD.1 rfl _ rfl
    have d20 : av.eval (.tmp 20) = (.int .i64 (d : Nat)) := hD.2.1 rfl _ rfl
    have f20 := (ev_form av 20).symm.trans d20
    have d22 : av.eval (.tmp 22) = (.int .i64 (len els)) := hD.2.2.1 rfl _ rfl
    have f22 := (ev_form av 22).symm.trans d22
    refine ⟨rfl, ?_⟩
    obtain ⟨g, h19, hg⟩ := d19
    have f19 := (ev_form av 19).symm.trans h19
    exact wp_of_run (v := .agg #[.pointer (some ⟨g, 0, none⟩), .int .i64 (d : Nat), .int .i64 (len els)]) (by simp [go_sem, f19, f20, f22]) ⟨_, rfl, es_of_ext (Ext_refl _), g, rfl, hg⟩
  case s7 =>
    refine step_wp (fun av wv hE hS hO hD => ?_)
    have d23 : (fun u w' => ∃ g, u = .agg #[.pointer (some ⟨g, 0, none⟩), .int .i64 (d : Nat), .int .i64 (len els)] ∧ PlaceIs els d d 0 g w') (av.eval (.tmp 23)) wv := hD.1 rfl _ rfl
    refine ⟨rfl, ?_⟩
    obtain ⟨g, h23, hg⟩ := d23
    have f23 := (ev_form av 23).symm.trans h23
    refine wp_of_run (v := .pointer (some ⟨wv.heap.size, 0, none⟩)) (w' := wv.alloc (.cells #[.pointer (some ⟨g, 0, none⟩), .int .i64 (d : Nat), .int .i64 (len els)] 124)) (by simp [go_sem, f23]) ⟨_, rfl, es_of_ext (balloc (Ext_refl _) _), wv.heap.size, rfl, (by have := hE.size; have := HVS.out; simp at *; omega), g, ?_, ?_⟩
    · rw [HDD.out]; exact heap_alloc_new _ _
    · rw [HDD.out]; exact hg.below (balloc (Below.refl _ _) _)
  intro a' w' hE hO hall
  have hA := act_of_outer (ds := [17, 18, 19, 20, 21, 22, 23, 24]) rfl hO (by kernel_rfl)
  have e17 : (fun u _ => u = (.func (.func 91) #[] #[.pointer (some ⟨bF, 0, none⟩), .pointer (some ⟨bD, 0, none⟩), .pointer (some ⟨bE, 0, none⟩), .pointer (some ⟨bN, 0, none⟩)])) (a'.eval (.tmp 17)) w' := hall.1 _ rfl
  have e18 : (fun u _ => u = (.int .i64 (d : Nat))) (a'.eval (.tmp 18)) w' := hall.2.1 _ rfl
  have e19 : (fun u w' => ∃ g, u = .pointer (some ⟨g, 0, none⟩) ∧ PlaceIs els d d 0 g w') (a'.eval (.tmp 19)) w' := hall.2.2.1 _ rfl
  have e20 : (fun u _ => u = (.int .i64 (d : Nat))) (a'.eval (.tmp 20)) w' := hall.2.2.2.1 _ rfl
  have e21 : (fun u _ => u = (.slice a (len els) cap)) (a'.eval (.tmp 21)) w' := hall.2.2.2.2.1 _ rfl
  have e22 : (fun u _ => u = (.int .i64 (len els))) (a'.eval (.tmp 22)) w' := hall.2.2.2.2.2.1 _ rfl
  have e23 : (fun u w' => ∃ g, u = .agg #[.pointer (some ⟨g, 0, none⟩), .int .i64 (d : Nat), .int .i64 (len els)] ∧ PlaceIs els d d 0 g w') (a'.eval (.tmp 23)) w' := hall.2.2.2.2.2.2.1 _ rfl
  have e24 : (fun u w' => ∃ b, u = .pointer (some ⟨b, 0, none⟩) ∧ w.heap.size ≤ b ∧ TreeAt els b w') (a'.eval (.tmp 24)) w' := hall.2.2.2.2.2.2.2.1 _ rfl
  obtain ⟨v19, hv19⟩ : ∃ v, a'.eval (.tmp 19) = v := ⟨_, rfl⟩
  rw [hv19] at e19
  obtain ⟨v23, hv23⟩ : ∃ v, a'.eval (.tmp 23) = v := ⟨_, rfl⟩
  rw [hv23] at e23
  obtain ⟨v24, hv24⟩ : ∃ v, a'.eval (.tmp 24) = v := ⟨_, rfl⟩
  rw [hv24] at e24
  simp only [List.foldl_cons, List.foldl_nil, Act.put, List.setIfInBounds_toArray, List.set_cons_succ, List.set_cons_zero, e17, e18, hv19, e20, e21, e22, hv23, hv24] at hA
  clear hO hall e17 e18 hv19 e20 e21 e22 hv23 hv24
  subst hA
  obtain ⟨g, rfl, hg, ht⟩ := e24
  have HG : Hid (w.heap.size ≤ g) := Lib.hid hg
  have HT2 := Lib.hid ht
  have HW : Hid (Below w.heap.size w w') := Lib.hid (bnext HUW.out (of_drew hE))
  clear hg ht hE e19 e23
  go_wp2
  go_ret2
  exact ⟨g, rfl, HG.out, HT2.out, HW.out⟩
theorem root_any (els : List ByteArray) (b : Nat) (w : World) (h : TreeAt els b w) : Calls Tryz.prog 43 #[.pointer (some ⟨b, 0, none⟩)] w fun e w' => e = .returned (.string (plD els (depN els) (depN els) 0)) ∧ w = w' := by
  obtain ⟨p, h1, h2⟩ := h
  have c0 : w.cell? ⟨b, 0, none⟩ = some (.pointer (some ⟨p, 0, none⟩)) := by rw [block_cell h1]; rfl
  have c1 := h2.digest
  clear h1 h2
  go_enter Tryz.func43, Tryz.ntmps43
  go_wp2
  go_ret
  exact ⟨rfl, rfl⟩
end Go.Proofs.YtpobhbdomldecaaGreatDoor
namespace Go.Proofs.YtpobhbdomldecaaGreatDoor
open Go.RowKit Go.ChangeMaps
set_option linter.unusedSimpArgs false
set_option linter.unusedVariables false
attribute [local go_sem] Oper.semAt_some
theorem info_str : (Tryz.prog.info? 9).map (fun i => (i.zero, i.size, i.bytes)) = some (some (.string ⟨#[]⟩), 1, 16) := by kernel_rfl
end Go.Proofs.YtpobhbdomldecaaGreatDoor
namespace Go.Proofs.YtpobhbdomldecaaGreatDoor
open Go.RowKit
set_option linter.unusedSimpArgs false
set_option linter.unusedVariables false
theorem own_txts {w : World} {base n : Nat} {v : Value} {l : List ByteArray} (h : w.ownsRow base 9 1 v n (l.map Value.string)) : ∃ a cap, v = .slice a (len l) cap ∧ Txts w a l := by
  have hn : len l = n := by have := h.1; rw [len_eq]; simpa using this
  rcases h.2 with ⟨rfl, h2⟩ | ⟨g, cap, cur, rfl, hg, hh, hc1, hc2, hc3, hc4⟩
  · obtain rfl : l = [] := List.eq_nil_of_length_eq_zero (by rw [← len_eq]; omega)
    exact ⟨none, 0, rfl, Txts.nil _ _⟩
  · refine ⟨some ⟨g, 0, none⟩, cap, by rw [hn], fun i hi => ⟨g, 0, rfl, ?_⟩⟩
    have := h.cellAt i (by omega)
    have hi2 : i < l.length := hi
    rw [Nat.zero_add, this, List.getElem?_map, List.getElem?_eq_getElem hi2, tth_eq l i hi]; rfl
theorem str_beq (a b : ByteArray) : (a.toList == b.toList) = decide (a = b) := by
  rw [ByteArray.toList_eq, ByteArray.toList_eq]
  by_cases h : a = b
  · subst h; simp
  · rw [decide_eq_false h]
    rw [beq_eq_false_iff_ne]
    intro h2
    exact h (ByteArray.ext (Array.ext' h2))
theorem hash0_any (tag : ByteArray) (w : World) (h1 : 1 ≤ tag.size) (h2 : tag.size ≤ 16) : Calls Tryz.prog 45 #[.string tag, .slice none 0 0] w fun e w' => e = .returned (.string (hashP tag [])) ∧ Below w.heap.size w w' :=
  hash_any tag [] none 0 w h1 h2 (Txts.nil _ _) (by decide)
theorem hash1_any (tag s : ByteArray) (w : World) (h1 : 1 ≤ tag.size) (h2 : tag.size ≤ 16) (hs : s.size ≤ 1000000) : Calls Tryz.prog 45 #[.string tag, .slice (some ⟨w.heap.size, 0, none⟩) 1 1] (w.alloc (.cells #[.string s] 9)) fun e w' => e = .returned (.string (hashP tag [s])) ∧ Below w.heap.size w w' := by
  have hw1 : Txts (w.alloc (.cells #[.string s] 9)) (some ⟨w.heap.size, 0, none⟩) [s] := txts_cells (heap_alloc_new _ _) [s] (fun i hi => by
    have : i = 0 := by have : i < 1 := hi; omega
    subst this; rfl)
  refine (hash_any tag [s] (some ⟨w.heap.size, 0, none⟩) 1 _ h1 h2 hw1 (by show ((partL s) ++ []).length ≤ _; rw [List.append_nil, partL_len]; omega)).mono ?_
  rintro e w2 ⟨rfl, hb2⟩
  exact ⟨rfl, bnext (balloc (Below.refl _ _) _) hb2⟩
end Go.Proofs.YtpobhbdomldecaaGreatDoor
namespace Go.Proofs.YtpobhbdomldecaaGreatDoor
open Go.RowKit
set_option linter.unusedSimpArgs false
set_option linter.unusedVariables false
def SmF (g : KnF) : Prop := ∀ k d, g k = some d → d.size ≤ 1000
theorem SmF.put {g : KnF} (h : SmF g) (k : Int) (d : ByteArray) (hd : d.size ≤ 1000) : SmF (putF g k d) := fun j x hx => by
  by_cases e : j = k
  · subst e; rw [putF_same] at hx; cases hx; exact hd
  · rw [putF_other g d e] at hx; exact h j x hx
def ArgOk (n : Int) (ps : List Int) (es : List ByteArray) : Prop := SizeOk n ps ∧ len es = len ps
instance (n : Int) (ps : List Int) (es : List ByteArray) : Decidable (ArgOk n ps es) := by unfold ArgOk; exact inferInstance
end Go.Proofs.YtpobhbdomldecaaGreatDoor
namespace Go.Proofs.YtpobhbdomldecaaGreatDoor
open Go.RowKit
set_option linter.unusedSimpArgs false
set_option linter.unusedVariables false
abbrev Rising (l : List Int) : Prop := l.Pairwise (fun x y => x < y)
end Go.Proofs.YtpobhbdomldecaaGreatDoor
namespace Go.Proofs.YtpobhbdomldecaaGreatDoor
open Go.RowKit
set_option linter.unusedSimpArgs false
set_option linter.unusedVariables false
def Kn (W : World) (base : Nat) (v : Value) (l : List Int) : Prop := Rising l ∧ W.ownsRow base 23 1 v (len l) (l.map (Value.int .u64))
theorem Kn.nil (W : World) (base : Nat) : Kn W base (.slice none 0 0) [] := ⟨List.Pairwise.nil, World.ownsRow_nil _ _ _ _⟩
theorem Kn.below {W W' : World} {base : Nat} {v : Value} {l : List Int} (h : Kn W base v l) (hb : Below W.heap.size W W') : Kn W' base v l := ⟨h.1, own_below h.2 hb⟩
theorem Kn.shape {W : World} {base : Nat} {v : Value} {l : List Int} (h : Kn W base v l) : ∃ a cap, v = .slice a (len l) cap ∧ U64s W a l := by
  obtain ⟨a, cap, h1, h2, _⟩ := own_u64 h.2; exact ⟨a, cap, h1, h2⟩
theorem take_mem_succ {l : List Int} {m : Nat} (h : m < len l) (x : Int) : x ∈ l.take (m + 1) ↔ x ∈ l.take m ∨ x = nth l m := by
  have h' : m < l.length := h
  rw [List.take_succ_eq_append_getElem h', List.mem_append, List.mem_singleton, nth_eq l m h']
theorem take_all (l : List Int) : l.take (len l) = l := List.take_length
def Fill (kn nd nx : List Int) (m : Nat) : Prop := (∀ x, x ∈ nd ↔ (∃ j ∈ kn.take m, x = sib j) ∧ x ∉ kn) ∧ (∀ x, x ∈ nx ↔ ∃ j ∈ kn.take m, x = j / 2) ∧ len nd ≤ m ∧ len nx ≤ m
theorem Fill.start (kn : List Int) : Fill kn [] [] 0 := ⟨fun x => by simp, fun x => by simp, Nat.le_refl _, Nat.le_refl _⟩
theorem Fill.step {kn nd nx nd' nx' : List Int} {m : Nat} (h : Fill kn nd nx m) (hm : m < len kn) (h1 : ∀ x, x ∈ nd' ↔ x ∈ nd ∨ (x = sib (nth kn m) ∧ x ∉ kn)) (h2 : ∀ x, x ∈ nx' ↔ x ∈ nx ∨ x = nth kn m / 2) (l1 : len nd' ≤ len nd + 1) (l2 : len nx' ≤ len nx + 1) : Fill kn nd' nx' (m + 1) := by
  refine ⟨fun x => ?_, fun x => ?_, by have := h.2.2.1; omega, by have := h.2.2.2; omega⟩
  · rw [h1, h.1]
    constructor
    · rintro (⟨⟨j, hj, e⟩, hx⟩ | ⟨e, hx⟩)
      · exact ⟨⟨j, (take_mem_succ hm j).2 (.inl hj), e⟩, hx⟩
      · exact ⟨⟨_, (take_mem_succ hm _).2 (.inr rfl), e⟩, hx⟩
    · rintro ⟨⟨j, hj, e⟩, hx⟩
      rcases (take_mem_succ hm j).1 hj with hj | rfl
      · exact .inl ⟨⟨j, hj, e⟩, hx⟩
      · exact .inr ⟨e, hx⟩
  · rw [h2, h.2.1]
    constructor
    · rintro (⟨j, hj, e⟩ | e)
      · exact ⟨j, (take_mem_succ hm j).2 (.inl hj), e⟩
      · exact ⟨_, (take_mem_succ hm _).2 (.inr rfl), e⟩
    · rintro ⟨j, hj, e⟩
      rcases (take_mem_succ hm j).1 hj with hj | rfl
      · exact .inl ⟨j, hj, e⟩
      · exact .inr e
theorem Fill.row {kn nd nx : List Int} (h : Fill kn nd nx (len kn)) (hr : Rising nd) : nd = rowK kn := by
  refine rising_eq hr (srt_rising (needK_nodup kn)) (fun k => ?_)
  rw [h.1, take_all]
  unfold rowK
  rw [srt_mem, needK_mem]
def At (leaves : List Int) (lv : Nat) (kn : List Int) : Prop := ∀ x, x ∈ kn ↔ ∃ j ∈ leaves, x = j / 2 ^ lv
theorem At.row {leaves kn : List Int} {lv : Nat} (h : At leaves lv kn) : rowK kn = rowK (insAll (leaves.map (· / 2 ^ lv))) := rowK_same (fun k => by
  rw [h k, (insAll_all _).2.1, List.mem_map]
  constructor
  · rintro ⟨j, hj, e⟩; exact ⟨j, hj, e.symm⟩
  · rintro ⟨j, hj, e⟩; exact ⟨j, hj, e.symm⟩)
theorem At.next {leaves kn nd nx : List Int} {lv : Nat} (h : At leaves lv kn) (hf : Fill kn nd nx (len kn)) : At leaves (lv + 1) nx := fun x => by
  have hp : ∀ j : Int, j / 2 ^ lv / 2 = j / 2 ^ (lv + 1) := fun j => by
    rw [Int.pow_succ, Int.ediv_ediv_of_nonneg (Int.pow_nonneg (by decide))]
  rw [hf.2.1, take_all]
  constructor
  · rintro ⟨j, hj, rfl⟩
    obtain ⟨i, hi, rfl⟩ := (h j).1 hj
    exact ⟨i, hi, hp i⟩
  · rintro ⟨i, hi, rfl⟩
    exact ⟨i / 2 ^ lv, (h _).2 ⟨i, hi, rfl⟩, (hp i).symm⟩
theorem At.u64 {leaves kn : List Int} {lv : Nat} (h : At leaves lv kn) (hu : ∀ k ∈ leaves, U64 k) : ∀ k ∈ kn, U64 k := by
  intro k hk
  obtain ⟨j, hj, rfl⟩ := (h k).1 hk
  have := hu j hj
  unfold U64 at this ⊢
  have hp : (0 : Int) < 2 ^ lv := Int.pow_pos (by decide)
  exact ⟨Int.ediv_nonneg this.1 (by omega), Int.le_trans (Int.ediv_le_self _ this.1) this.2⟩
def Laid8 (W : World) (base : Nat) (v : Value) (rs : List (List Int)) : Prop := ∃ vals : List Value, W.ownsRow base 64 1 v vals.length vals ∧ RowsAre W base vals rs
theorem Laid8.nil (W : World) (base : Nat) : Laid8 W base (.slice none 0 0) [] := ⟨[], World.ownsRow_nil _ _ _ _, RowsAre.nil _ _⟩
theorem Laid8.below {W W' : World} {base : Nat} {v : Value} {rs : List (List Int)} (h : Laid8 W base v rs) (hb : Below W.heap.size W W') : Laid8 W' base v rs := by
  obtain ⟨vals, h1, h2⟩ := h; exact ⟨vals, own_below h1 hb, h2.below hb⟩
end Go.Proofs.YtpobhbdomldecaaGreatDoor
namespace Go.Proofs.YtpobhbdomldecaaGreatDoor
open Go.RowKit
set_option linter.unusedSimpArgs false
set_option linter.unusedVariables false
def sV (d : ByteArray) : Value := .agg #[.string d]
structure MapG (L : List (Int × Value)) (g : KnF) : Prop where
  get : ∀ k, mGet L k = (g k).map sV
theorem MapG.nil : MapG [] noF := ⟨fun k => rfl⟩
theorem MapG.put {L : List (Int × Value)} {g : KnF} (h : MapG L g) (k : Int) (d : ByteArray) : MapG (mPut L k (sV d)) (putF g k d) :=
  ⟨fun j => by
    rw [mGet_put, h.get]
    unfold putF
    by_cases e : j = k
    · rw [if_pos e, if_pos e]; rfl
    · rw [if_neg e, if_neg e]⟩
def AtK (lv : List Int) (i : Nat) (k : Int) : Prop := ∃ y ∈ lv, k = y / 2 ^ i
instance (lv : List Int) (i : Nat) (k : Int) : Decidable (AtK lv i k) := by unfold AtK; exact List.decidableBEx _ _
def Cut (row : List Int) (j : Nat) (b : Int) : Prop := j ≤ len row ∧ (∀ x ∈ row.take j, x < b) ∧ ∀ x ∈ row.drop j, b ≤ x
theorem Cut.start {row : List Int} (h : ∀ x ∈ row, 0 ≤ x) : Cut row 0 0 := ⟨Nat.zero_le _, fun x hx => by simp at hx, fun x hx => h x (by simpa using hx)⟩
end Go.Proofs.YtpobhbdomldecaaGreatDoor
namespace Go.Proofs.YtpobhbdomldecaaGreatDoor
open Go.RowKit
set_option linter.unusedSimpArgs false
set_option linter.unusedVariables false
structure Agree (els own : List ByteArray) (ps : List Int) : Prop where
  len_ : len own = len els
  off : ∀ i : Nat, ((i : Nat) : Int) ∉ ps → tth els i = tth own i
theorem Agree.refl (els : List ByteArray) (ps : List Int) : Agree els els ps := ⟨rfl, fun _ _ => rfl⟩
end Go.Proofs.YtpobhbdomldecaaGreatDoor
namespace Go.Proofs.YtpobhbdomldecaaGreatDoor
open Go.RowKit Go.ChangeMaps
set_option linter.unusedSimpArgs false
set_option linter.unusedVariables false
theorem Ranging.keep {w w' : World} {b r n : Nat} {q : IntKind} {l : List (Int × Value)} {seen : Array Nat} (h : Ranging w b r q n l seen) (h1 : w'.heap[b]? = w.heap[b]?) (h2 : w'.heap[r]? = w.heap[r]?) : Ranging w' b r q n l seen := ⟨h1.trans h.map, h2.trans h.iter⟩
def KnownAt (b n : Nat) (g : KnF) (w : World) : Prop := ∃ L, w.heap[b]? = some (mObj .u64 n L) ∧ MapF L g
end Go.Proofs.YtpobhbdomldecaaGreatDoor
namespace Go.Proofs.YtpobhbdomldecaaGreatDoor
open Go.RowKit Go.ChangeMaps
set_option linter.unusedSimpArgs false
set_option linter.unusedVariables false
structure LvAt (mb : Nat) (g : KnF) (w : World) : Prop where
  at_ : KnownAt mb 0 g w
  small : SmF g
theorem LvAt.keep {mb : Nat} {g : KnF} {w w' : World} (h : LvAt mb g w) (hk : w'.heap[mb]? = w.heap[mb]?) : LvAt mb g w' := by
  obtain ⟨⟨L, h1, h2⟩, h3⟩ := h
  exact ⟨⟨L, hk.trans h1, h2⟩, h3⟩
theorem LvAt.lt {mb : Nat} {g : KnF} {w : World} (h : LvAt mb g w) : mb < w.heap.size := by
  obtain ⟨⟨L, h1, h2⟩, h3⟩ := h
  exact lt_of_block h1
def Upper (B : Nat) (w w' : World) : Prop := ∀ b, B ≤ b → b < w.heap.size → w'.heap[b]? = w.heap[b]?
theorem Upper.refl (B : Nat) (w : World) : Upper B w w := fun b _ _ => rfl
theorem Upper.cell {B : Nat} {w w' : World} (h : Upper B w w') {b o : Nat} {v : Value} (hb : B ≤ b) (hc : w.cell? ⟨b, o, none⟩ = some v) : w'.cell? ⟨b, o, none⟩ = some v :=
  (World.cell?_of_block (w := w) (h b hb (lt_of_cell hc))).trans hc
theorem Upper.bel {B : Nat} {w w' w2 : World} (h : Upper B w w') (hs : w.heap.size ≤ w'.heap.size) (hb : Below w'.heap.size w' w2) : Upper B w w2 := fun b h1 h2 => (hb.block b (by omega)).trans (h b h1 h2)
theorem Upper.set {B : Nat} {w w' : World} (h : Upper B w w') {p : Nat} (hp : p < B) (k : Nat) (v : Value) : Upper B w (w'.setCell ⟨p, k, none⟩ v) := fun b h1 h2 => (Below.heap_setCell _ _ _ _ (show b ≠ p by omega)).trans (h b h1 h2)
theorem Upper.map {B : Nat} {w w' : World} (h : Upper B w w') {p : Nat} (hp : p < B ∨ w.heap.size ≤ p) (o : Obj) : Upper B w (setBlock w' p o) := fun b h1 h2 => (setBlock_other (by omega)).trans (h b h1 h2)
theorem LvAt.put {mb : Nat} {g : KnF} {w : World} {L : List (Int × Value)} (hl : w.heap[mb]? = some (mObj .u64 0 L)) (hm : MapF L g) (hs : SmF g) {t : Int} {D : ByteArray} (ht : U64 t) (hd : D.size ≤ 1000) : LvAt mb (putF g t D) (setBlock w mb (mObj .u64 0 (mPut L t (.string D)))) :=
  ⟨⟨_, setBlock_same hl, hm.put t D ht⟩, hs.put t D hd⟩
end Go.Proofs.YtpobhbdomldecaaGreatDoor
namespace Go.Proofs.YtpobhbdomldecaaGreatDoor
open Go.RowKit
set_option linter.unusedSimpArgs false
set_option linter.unusedVariables false
structure Plc where
  K : Int
  d : ByteArray
abbrev Plc.val (r : Plc) : Value := .agg #[.int .u64 r.K, .string r.d]
def Plc.cells (r : Plc) : List Value := [.int .u64 r.K, .string r.d]
theorem Plc.cells_len (r : Plc) : r.cells.length = 2 := rfl
theorem Plc.cells_one (r : Plc) : ∀ u ∈ r.cells, u.oneCell' = true := by intro u hu; simp only [Plc.cells, List.mem_cons, List.not_mem_nil, or_false] at hu; rcases hu with rfl | rfl <;> rfl
def Plc.zero : Plc := ⟨0, ByteArray.empty⟩
def plth (l : List Plc) (i : Nat) : Plc := l.getD i Plc.zero
theorem plth_eq (l : List Plc) (i : Nat) (h : i < l.length) : plth l i = l[i] := by unfold plth; rw [List.getD_eq_getElem?_getD, List.getElem?_eq_getElem h]; rfl
structure PlcAt (w : World) (b o : Nat) (r : Plc) : Prop where
  c0 : w.cell? ⟨b, o, none⟩ = some (.int .u64 r.K)
  c1 : w.cell? ⟨b, o + 1, none⟩ = some (.string r.d)
theorem PlcAt.below {w w' : World} {b o : Nat} {r : Plc} (h : PlcAt w b o r) (hb : Below w.heap.size w w') : PlcAt w' b o r := by
  have hl := lt_of_cell h.c0
  have e : ∀ q, w'.cell? ⟨b, q, none⟩ = w.cell? ⟨b, q, none⟩ := fun q => hb.cell (p := ⟨b, q, none⟩) hl
  obtain ⟨c0, c1⟩ := h
  constructor <;> (rw [e]; assumption)
def Plcs (w : World) (a : Option Addr) (l : List Plc) : Prop := ∀ i, i < len l → ∃ b off, a = some ⟨b, off, none⟩ ∧ PlcAt w b (off + i * 2) (plth l i)
theorem Plcs.nil (w : World) (a : Option Addr) : Plcs w a [] := fun i hi => absurd hi (by simp [len])
theorem Plcs.below {w w' : World} {a : Option Addr} {l : List Plc} (h : Plcs w a l) (hb : Below w.heap.size w w') : Plcs w' a l := fun i hi => by
  obtain ⟨b, off, rfl, hc⟩ := h i hi
  exact ⟨b, off, rfl, hc.below hb⟩
theorem Plcs.drew {w w' : World} {a : Option Addr} {l : List Plc} (h : Plcs w a l) (hb : Drew w w') : Plcs w' a l := h.below (hb.below _)
theorem Plcs.take {w : World} {a : Option Addr} {l : List Plc} (h : Plcs w a l) (k : Nat) : Plcs w a (l.take k) := fun i hi => by
  have hi2 : i < l.length ∧ i < k := by simp only [len, List.length_take] at hi; omega
  have hi3 : i < (l.take k).length := hi
  have e : plth (l.take k) i = plth l i := by rw [plth_eq l i hi2.1, plth_eq _ i hi3, List.getElem_take]
  rw [e]; exact h i hi2.1
theorem Plcs.drop {w : World} {b off : Nat} {l : List Plc} (h : Plcs w (some ⟨b, off, none⟩) l) (k : Nat) : Plcs w (some ⟨b, off + k * 2, none⟩) (l.drop k) := fun i hi => by
  have hi2 : k + i < l.length := by simp only [len, List.length_drop] at hi; omega
  have hi3 : i < (l.drop k).length := hi
  have e : plth (l.drop k) i = plth l (k + i) := by rw [plth_eq l _ hi2, plth_eq _ i hi3, List.getElem_drop]
  obtain ⟨b', off', e2, hc⟩ := h (k + i) hi2
  cases e2
  exact ⟨b, _, rfl, by rw [e, show off + k * 2 + i * 2 = off + (k + i) * 2 by omega]; exact hc⟩
theorem Plcs.own {w : World} {base e n : Nat} {v : Value} {l : List Plc} (h : w.ownsRow base e 2 v n (l.flatMap Plc.cells)) : ∃ a cap, v = .slice a (len l) cap ∧ Plcs w a l ∧ len l ≤ cap := by
  have hn : len l = n := by have := h.1; rw [flat_length Plc.cells 2 Plc.cells_len] at this; rw [len_eq]; omega
  obtain ⟨h1, h2⟩ := h
  rcases h2 with ⟨rfl, h2⟩ | ⟨g, cap, cur, rfl, hg, hh, hc1, hc2, hc3, hc4⟩
  · obtain rfl : l = [] := List.eq_nil_of_length_eq_zero (by rw [← len_eq]; omega)
    exact ⟨none, 0, rfl, Plcs.nil _ _, Nat.le_refl _⟩
  · refine ⟨some ⟨g, 0, none⟩, cap, by rw [hn], fun i hi => ⟨g, 0, rfl, ?_⟩, by omega⟩
    have hown : w.ownsRow base e 2 (.slice (some ⟨g, 0, none⟩) n cap) n (l.flatMap Plc.cells) := ⟨h1, .inr ⟨g, cap, cur, rfl, hg, hh, hc1, hc2, hc3, hc4⟩⟩
    have key : ∀ r, r < 2 → w.cell? ⟨g, 0 + i * 2 + r, none⟩ = (plth l i).cells[r]? := fun r hr => by
      have := hown.cellAt (i * 2 + r) (by rw [← hn]; omega)
      rw [Nat.zero_add, this, flat_get Plc.cells 2 Plc.cells_len l i r hi hr, plth_eq l i hi]
    exact ⟨key 0 (by decide), key 1 (by decide)⟩
theorem Plcs.block {w : World} {g : Nat} {l : List Plc} {t : TypeId} {fr : Nat × Nat} (h : w.heap[g]? = some (.cells (l.flatMap Plc.cells).toArray t fr)) : Plcs w (some ⟨g, 0, none⟩) l := fun i hi => ⟨g, 0, rfl, by
  have key : ∀ r, r < 2 → w.cell? ⟨g, 0 + i * 2 + r, none⟩ = (plth l i).cells[r]? := fun r hr => by
    rw [Nat.zero_add, block_cell h, List.getElem?_toArray, flat_get Plc.cells 2 Plc.cells_len l i r hi hr, plth_eq l i hi]
  exact ⟨key 0 (by decide), key 1 (by decide)⟩⟩
end Go.Proofs.YtpobhbdomldecaaGreatDoor
namespace Go.Proofs.YtpobhbdomldecaaGreatDoor
open Go.RowKit Go.Great
set_option linter.unusedSimpArgs false
set_option linter.unusedVariables false
def Ev (a : Act) (n : Nat) (l : List (Nat × Value)) : Prop := a.tmps.size = n ∧ a.defers = [] ∧ ∀ p ∈ l, a.eval (.tmp p.1) = p.2
theorem Ev.put {a : Act} {n : Nat} {l : List (Nat × Value)} (h : Ev a n l) (d : Nat) (v : Value) (hd : d < n) (hf : l.all (fun p => p.1 != d) = true) : Ev (a.put (some d) v) n ((d, v) :: l) := by
  refine ⟨by simp [Act.put, h.1], h.2.1, ?_⟩
  intro p hp
  rcases List.mem_cons.1 hp with rfl | hp
  · exact eval_put_same (by rw [h.1]; exact hd)
  · have h1 := List.all_eq_true.1 hf p hp
    rw [eval_put_ne (by simpa using h1)]
    exact h.2.2 p hp
theorem Ev.at {a : Act} {n : Nat} {l : List (Nat × Value)} (h : Ev a n l) (k d : Nat) (v : Value) (hk : l[k]? = some (d, v)) : a.eval (.tmp d) = v := h.2.2 (d, v) (List.mem_of_getElem? hk)
def zero8R : List W32 := List.replicate 8 0
structure BlkAt (pb rb : Nat) (A9 : Array Value) (w wr : World) : Prop where
  below : Below w.heap.size w wr
  p : wr.heap[pb]? = some (.cells A9 222 (0, 0))
  r : wr.heap[rb]? = some (.cells (wsC zero8R) 222 (0, 0))
theorem BlkAt.next {pb rb : Nat} {A9 : Array Value} {w wr w' : World} (h : BlkAt pb rb A9 w wr) (hb : Below wr.heap.size wr w') : BlkAt pb rb A9 w w' :=
  ⟨bnext h.below hb, (hb.block _ (lt_of_block h.p)).trans h.p, (hb.block _ (lt_of_block h.r)).trans h.r⟩
theorem BlkAt.set {pb rb b o : Nat} {A9 : Array Value} {w wr : World} {v : Value} (h : BlkAt pb rb A9 w wr) (h0 : w.heap.size ≤ b) (h1 : pb ≠ b) (h2 : rb ≠ b) : BlkAt pb rb A9 w (wr.setCell ⟨b, o, none⟩ v) :=
  ⟨bset h.below h0 _, block_setCell_ne h.p h1 _, block_setCell_ne h.r h2 _⟩
attribute [local go_sem] bv_xor bv_and bv_or bv_add bv_addm
end Go.Proofs.YtpobhbdomldecaaGreatDoor
namespace Go.Proofs.YtpobhbdomldecaaGreatDoor
open Go.RowKit Go.ChangeMaps
set_option linter.unusedSimpArgs false
set_option linter.unusedVariables false
structure KlAt (B : Nat) (v : Value) (KL : List Plc) (w : World) : Prop where
  own : w.ownsRow B 279 2 v (len KL) (KL.flatMap Plc.cells)
  ok : ∀ x ∈ KL, 0 ≤ x.K ∧ x.K < 65536 ∧ x.d.size ≤ 1000
theorem KlAt.nil (B : Nat) (w : World) : KlAt B (.slice none 0 0) [] w := ⟨World.ownsRow_nil _ _ _ _, fun x h => by simp at h⟩
theorem KlAt.below {B : Nat} {v : Value} {KL : List Plc} {w w' : World} (h : KlAt B v KL w) (hb : Below w.heap.size w w') : KlAt B v KL w' := ⟨own_below h.own hb, h.ok⟩
end Go.Proofs.YtpobhbdomldecaaGreatDoor
namespace Go.Proofs.YtpobhbdomldecaaGreatDoor
open Go.RowKit
set_option linter.unusedSimpArgs false
set_option linter.unusedVariables false
structure PrIn (ps : List Int) (es ds : List ByteArray) (pa ea da : Option Addr) (dc : Nat) (w : World) : Prop where
  p : U64s w pa ps
  e : Txts w ea es
  d : Txts w da ds
  pl : len ps ≤ 100
  pu : ∀ k ∈ ps, U64 k
  el : len es ≤ 1000000
  dl : len ds ≤ 1000000
  dc_ : len ds ≤ dc
  ez : ∀ i, i < len es → (tth es i).size ≤ 1000000
theorem PrIn.below {ps : List Int} {es ds : List ByteArray} {pa ea da : Option Addr} {dc : Nat} {w w' : World} (h : PrIn ps es ds pa ea da dc w) (hb : Below w.heap.size w w') : PrIn ps es ds pa ea da dc w' :=
  ⟨h.p.below hb, h.e.below hb, h.d.below hb, h.pl, h.pu, h.el, h.dl, h.dc_, h.ez⟩
end Go.Proofs.YtpobhbdomldecaaGreatDoor
namespace Go.Proofs.YtpobhbdomldecaaGreatDoor
open Go.RowKit
set_option linter.unusedSimpArgs false
set_option linter.unusedVariables false
def treeR (l : List ByteArray) : ByteArray := plD l (depN l) (depN l) 0
theorem own_capP {w : World} {base n c : Nat} {a : Option Addr} {xs : List Value} {m : Nat} (h : w.ownsRow base 9 1 (.slice a m c) n xs) : m ≤ c ∧ (a = none → c = 0) := by
  rcases h.2 with ⟨e, _⟩ | ⟨g, cap, cur, e, _, _, h3, _⟩
  · injection e with e1 e2 e3; exact ⟨by omega, fun _ => e3⟩
  · injection e with e1 e2 e3; exact ⟨by omega, fun e9 => by rw [e9] at e1; cases e1⟩
def TextsAre (L : List ByteArray) (v : Value) (w : World) : Prop := ∃ a c, v = .slice a (len L) c ∧ Txts w a L ∧ len L ≤ c ∧ (a = none → c = 0)
theorem TextsAre.below {L : List ByteArray} {v : Value} {w w' : World} (h : TextsAre L v w) (hb : Below w.heap.size w w') : TextsAre L v w' := by
  obtain ⟨a, c, h1, h2, h3, h4⟩ := h
  exact ⟨a, c, h1, h2.below hb, h3, h4⟩
theorem TextsAre.nil (w : World) : TextsAre [] (.slice none 0 0) w := ⟨none, 0, rfl, Txts.nil _ _, Nat.le_refl _, fun _ => rfl⟩
theorem TextsAre.own {w : World} {base n : Nat} {v : Value} {L : List ByteArray} (h : w.ownsRow base 9 1 v n (L.map Value.string)) : TextsAre L v w := by
  obtain ⟨a, c, rfl, ht⟩ := own_txts h
  obtain ⟨h1, h2⟩ := own_capP h
  exact ⟨a, c, rfl, ht, h1, h2⟩
end Go.Proofs.YtpobhbdomldecaaGreatDoor
namespace Go.Proofs.YtpobhbdomldecaaGreatDoor
open Go.RowKit
set_option linter.unusedSimpArgs false
set_option linter.unusedVariables false
structure Hdr where
  rnd : Int
  prev : ByteArray
  txns : ByteArray
  seed : ByteArray
abbrev Hdr.val (r : Hdr) : Value := .agg #[.int .u64 r.rnd, .string r.prev, .string r.txns, .string r.seed]
def Hdr.cells (r : Hdr) : List Value := [.int .u64 r.rnd, .string r.prev, .string r.txns, .string r.seed]
theorem Hdr.cells_len (r : Hdr) : r.cells.length = 4 := rfl
theorem Hdr.cells_one (r : Hdr) : ∀ u ∈ r.cells, u.oneCell' = true := by intro u hu; simp only [Hdr.cells, List.mem_cons, List.not_mem_nil, or_false] at hu; rcases hu with rfl | rfl | rfl | rfl <;> rfl
def Hdr.zero : Hdr := ⟨0, ByteArray.empty, ByteArray.empty, ByteArray.empty⟩
def hnth (l : List Hdr) (i : Nat) : Hdr := l.getD i Hdr.zero
theorem hnth_eq (l : List Hdr) (i : Nat) (h : i < l.length) : hnth l i = l[i] := by unfold hnth; rw [List.getD_eq_getElem?_getD, List.getElem?_eq_getElem h]; rfl
structure HdrAt (w : World) (b o : Nat) (r : Hdr) : Prop where
  c0 : w.cell? ⟨b, o, none⟩ = some (.int .u64 r.rnd)
  c1 : w.cell? ⟨b, o + 1, none⟩ = some (.string r.prev)
  c2 : w.cell? ⟨b, o + 2, none⟩ = some (.string r.txns)
  c3 : w.cell? ⟨b, o + 3, none⟩ = some (.string r.seed)
theorem HdrAt.below {w w' : World} {b o : Nat} {r : Hdr} (h : HdrAt w b o r) (hb : Below w.heap.size w w') : HdrAt w' b o r := by
  have hl := lt_of_cell h.c0
  have e : ∀ q, w'.cell? ⟨b, q, none⟩ = w.cell? ⟨b, q, none⟩ := fun q => hb.cell (p := ⟨b, q, none⟩) hl
  obtain ⟨c0, c1, c2, c3⟩ := h
  constructor <;> (rw [e]; assumption)
def Hdrs (w : World) (a : Option Addr) (l : List Hdr) : Prop := ∀ i, i < len l → ∃ b off, a = some ⟨b, off, none⟩ ∧ HdrAt w b (off + i * 4) (hnth l i)
theorem Hdrs.nil (w : World) (a : Option Addr) : Hdrs w a [] := fun i hi => absurd hi (by simp [len])
theorem Hdrs.below {w w' : World} {a : Option Addr} {l : List Hdr} (h : Hdrs w a l) (hb : Below w.heap.size w w') : Hdrs w' a l := fun i hi => by
  obtain ⟨b, off, rfl, hc⟩ := h i hi
  exact ⟨b, off, rfl, hc.below hb⟩
theorem Hdrs.drew {w w' : World} {a : Option Addr} {l : List Hdr} (h : Hdrs w a l) (hb : Drew w w') : Hdrs w' a l := h.below (hb.below _)
theorem Hdrs.take {w : World} {a : Option Addr} {l : List Hdr} (h : Hdrs w a l) (k : Nat) : Hdrs w a (l.take k) := fun i hi => by
  have hi2 : i < l.length ∧ i < k := by simp only [len, List.length_take] at hi; omega
  have hi3 : i < (l.take k).length := hi
  have e : hnth (l.take k) i = hnth l i := by rw [hnth_eq l i hi2.1, hnth_eq _ i hi3, List.getElem_take]
  rw [e]; exact h i hi2.1
theorem Hdrs.drop {w : World} {b off : Nat} {l : List Hdr} (h : Hdrs w (some ⟨b, off, none⟩) l) (k : Nat) : Hdrs w (some ⟨b, off + k * 4, none⟩) (l.drop k) := fun i hi => by
  have hi2 : k + i < l.length := by simp only [len, List.length_drop] at hi; omega
  have hi3 : i < (l.drop k).length := hi
  have e : hnth (l.drop k) i = hnth l (k + i) := by rw [hnth_eq l _ hi2, hnth_eq _ i hi3, List.getElem_drop]
  obtain ⟨b', off', e2, hc⟩ := h (k + i) hi2
  cases e2
  exact ⟨b, _, rfl, by rw [e, show off + k * 4 + i * 4 = off + (k + i) * 4 by omega]; exact hc⟩
theorem Hdrs.own {w : World} {base e n : Nat} {v : Value} {l : List Hdr} (h : w.ownsRow base e 4 v n (l.flatMap Hdr.cells)) : ∃ a cap, v = .slice a (len l) cap ∧ Hdrs w a l ∧ len l ≤ cap := by
  have hn : len l = n := by have := h.1; rw [flat_length Hdr.cells 4 Hdr.cells_len] at this; rw [len_eq]; omega
  obtain ⟨h1, h2⟩ := h
  rcases h2 with ⟨rfl, h2⟩ | ⟨g, cap, cur, rfl, hg, hh, hc1, hc2, hc3, hc4⟩
  · obtain rfl : l = [] := List.eq_nil_of_length_eq_zero (by rw [← len_eq]; omega)
    exact ⟨none, 0, rfl, Hdrs.nil _ _, Nat.le_refl _⟩
  · refine ⟨some ⟨g, 0, none⟩, cap, by rw [hn], fun i hi => ⟨g, 0, rfl, ?_⟩, by omega⟩
    have hown : w.ownsRow base e 4 (.slice (some ⟨g, 0, none⟩) n cap) n (l.flatMap Hdr.cells) := ⟨h1, .inr ⟨g, cap, cur, rfl, hg, hh, hc1, hc2, hc3, hc4⟩⟩
    have key : ∀ r, r < 4 → w.cell? ⟨g, 0 + i * 4 + r, none⟩ = (hnth l i).cells[r]? := fun r hr => by
      have := hown.cellAt (i * 4 + r) (by rw [← hn]; omega)
      rw [Nat.zero_add, this, flat_get Hdr.cells 4 Hdr.cells_len l i r hi hr, hnth_eq l i hi]
    exact ⟨key 0 (by decide), key 1 (by decide), key 2 (by decide), key 3 (by decide)⟩
theorem Hdrs.block {w : World} {g : Nat} {l : List Hdr} {t : TypeId} {fr : Nat × Nat} (h : w.heap[g]? = some (.cells (l.flatMap Hdr.cells).toArray t fr)) : Hdrs w (some ⟨g, 0, none⟩) l := fun i hi => ⟨g, 0, rfl, by
  have key : ∀ r, r < 4 → w.cell? ⟨g, 0 + i * 4 + r, none⟩ = (hnth l i).cells[r]? := fun r hr => by
    rw [Nat.zero_add, block_cell h, List.getElem?_toArray, flat_get Hdr.cells 4 Hdr.cells_len l i r hi hr, hnth_eq l i hi]
  exact ⟨key 0 (by decide), key 1 (by decide), key 2 (by decide), key 3 (by decide)⟩⟩
structure Hdr.Ok (r : Hdr) : Prop where
  r0 : U64i r.rnd
  p1 : r.prev.size ≤ 1000000
  t1 : r.txns.size ≤ 1000000
  s1 : r.seed.size ≤ 1000000
theorem Hdr.zero_ok : Hdr.zero.Ok := ⟨⟨by decide, by decide⟩, by decide, by decide, by decide⟩
theorem hoks {L : List Hdr} (h : ∀ p ∈ L, p.Ok) : ∀ i, (hnth L i).Ok := fun i => by
  rcases Nat.lt_or_ge i L.length with hi | hi
  · rw [hnth_eq L i hi]; exact h _ (List.getElem_mem hi)
  · unfold hnth; rw [List.getD_eq_getElem?_getD, List.getElem?_eq_none hi]; exact Hdr.zero_ok
def hsp (r : Hdr) : List FSpec := headerSpecs r.rnd r.prev r.txns r.seed
def hOk (r : Hdr) : Bool := allMay (hsp r)
def hbs (r : Hdr) : ByteArray := layP (hsp r)
theorem hOk_eq (r : Hdr) : hOk r = (decide (r.prev.size = 32) && decide (r.seed.size = 32) && decide (r.txns.size = 32)) := may_header _ _ _ _
theorem hbs_size {r : Hdr} (h : hOk r = true) : (hbs r).size ≤ 1000 := headerSz h
def hdg (r : Hdr) : ByteArray := hashP hdrT [hbs r]
theorem hdg_size (r : Hdr) : (hdg r).size = 32 := hashP_size _ _
def stepH (a b : Hdr) : Bool := decide (a.rnd < b.rnd) && decide (b.rnd - a.rnd = 1)
def followH (R : Hdr → Hdr → Bool) (l : List Hdr) : Bool := (List.range (len l)).all fun i => decide (i = 0) || R (hnth l (i - 1)) (hnth l i)
theorem followH_no {R : Hdr → Hdr → Bool} {l : List Hdr} {i : Nat} (hi : i < len l) (h0 : 0 < i) (h : R (hnth l (i - 1)) (hnth l i) = false) : followH R l = false := by
  unfold followH
  rw [List.all_eq_false]
  exact ⟨i, List.mem_range.2 hi, by rw [h]; simp; omega⟩
theorem followH_yes {R : Hdr → Hdr → Bool} {l : List Hdr} (h : ∀ i, i < len l → 0 < i → R (hnth l (i - 1)) (hnth l i) = true) : followH R l = true := by
  unfold followH
  rw [List.all_eq_true]
  intro i hi
  by_cases h0 : i = 0
  · simp [h0]
  · rw [h i (List.mem_range.1 hi) (by omega)]; simp
def laysH (l : List Hdr) : Bool := l.all hOk
theorem laysH_no {l : List Hdr} {i : Nat} (hi : i < len l) (h : hOk (hnth l i) = false) : laysH l = false := by
  unfold laysH
  rw [List.all_eq_false]
  exact ⟨hnth l i, by rw [hnth_eq l i hi]; exact List.getElem_mem hi, by rw [h]; decide⟩
theorem laysH_yes {l : List Hdr} (h : ∀ i, i < len l → hOk (hnth l i) = true) : laysH l = true := by
  unfold laysH
  rw [List.all_eq_true]
  intro x hx
  obtain ⟨i, hi, rfl⟩ := List.getElem_of_mem hx
  have := h i hi
  rwa [hnth_eq l i hi] at this
theorem laysH_at {l : List Hdr} (h : laysH l = true) {i : Nat} (hi : i < len l) : hOk (hnth l i) = true := by
  unfold laysH at h
  rw [hnth_eq l i hi]
  exact List.all_eq_true.1 h _ (List.getElem_mem hi)
def elOk (l : List Hdr) : Bool := decide (0 < len l) && decide (len l ≤ 64) && followH stepH l && laysH l
def elL (l : List Hdr) : List ByteArray := l.map hbs
theorem elL_len (l : List Hdr) : len (elL l) = len l := by unfold elL; rw [len_eq, len_eq, List.length_map]
theorem elL_snoc (l : List Hdr) (m : Nat) (h : m < len l) : elL (l.take (m + 1)) = elL (l.take m) ++ [hbs (hnth l m)] := by
  unfold elL
  have h2 : m < l.length := h
  rw [List.take_succ_eq_append_getElem h2, List.map_append, hnth_eq l m h2]
  rfl
theorem elL_at (l : List Hdr) (i : Nat) (h : i < len l) : tth (elL l) i = hbs (hnth l i) := by
  have h2 : i < l.length := h
  rw [hnth_eq l i h2]
  unfold tth elL
  rw [List.getD_eq_getElem?_getD, List.getElem?_map, List.getElem?_eq_getElem h2]
  rfl
theorem elOk_at {l : List Hdr} (h : elOk l = true) : 0 < len l ∧ len l ≤ 64 ∧ followH stepH l = true ∧ laysH l = true := by
  unfold elOk at h
  simp only [Bool.and_eq_true, decide_eq_true_eq] at h
  exact ⟨h.1.1.1, h.1.1.2, h.1.2, h.2⟩
theorem elOk_of {l : List Hdr} (h1 : 0 < len l) (h2 : len l ≤ 64) (h3 : followH stepH l = true) (h4 : laysH l = true) : elOk l = true := by
  unfold elOk
  rw [decide_eq_true h1, decide_eq_true h2, h3, h4]; rfl
theorem elL_size {l : List Hdr} (h : elOk l = true) : ∀ i, i < len (elL l) → (tth (elL l) i).size ≤ 1000 := fun i hi => by
  rw [elL_len] at hi
  rw [elL_at l i hi]
  exact hbs_size (laysH_at (elOk_at h).2.2.2 hi)
def hroot (l : List Hdr) : ByteArray := treeR (elL l)
def hangH (a b : Hdr) : Bool := decide (b.prev = hdg a)
def linkedH (l : List Hdr) : Bool := elOk l && followH hangH l
def bodsOk (l : List ByteArray) : Bool := decide (len l ≤ 64) && l.all fun s => decide (0 < s.size) && decide (s.size ≤ 64)
def dgS (r : Hdr) : ByteArray := if hOk r = true then hdg r else ⟨#[]⟩
def dgE (r : Hdr) : Int := if hOk r = true then 0 else 2
def DgIs (r : Hdr) (w : World) (e : Ending) (w' : World) : Prop := e = .returned (.tuple #[.string (dgS r), .int .i64 (dgE r)]) ∧ Below w.heap.size w w'
def rtS (l : List Hdr) : ByteArray := if elOk l = true then hroot l else ⟨#[]⟩
def rtE (l : List Hdr) : Int := if elOk l = true then 0 else 2
def RtIs (l : List Hdr) (w : World) (e : Ending) (w' : World) : Prop := e = .returned (.tuple #[.string (rtS l), .int .i64 (rtE l)]) ∧ Below w.heap.size w w'
def txS (l : List ByteArray) : ByteArray := if bodsOk l = true then treeR l else ⟨#[]⟩
def txE (l : List ByteArray) : Int := if bodsOk l = true then 0 else 2
def TxIs (l : List ByteArray) (w : World) (e : Ending) (w' : World) : Prop := e = .returned (.tuple #[.string (txS l), .int .i64 (txE l)]) ∧ Below w.heap.size w w'
end Go.Proofs.YtpobhbdomldecaaGreatDoor
namespace Go.Proofs.YtpobhbdomldecaaGreatDoor
open Go.RowKit
set_option linter.unusedSimpArgs false
set_option linter.unusedVariables false
def zerT : ByteArray := ⟨#[0, 0, 0, 0, 0, 0, 0, 0, 0, 0, 0, 0, 0, 0, 0, 0, 0, 0, 0, 0, 0, 0, 0, 0, 0, 0, 0, 0, 0, 0, 0, 0]⟩
def hAt (n : Int) (p : ByteArray) : Hdr := ⟨n, p, zerT, zerT⟩
theorem hAt_ok {n : Int} {p : ByteArray} (hp : p.size = 32) : hOk (hAt n p) = true := by
  rw [hOk_eq]
  show (decide (p.size = 32) && decide (zerT.size = 32) && decide (zerT.size = 32)) = true
  rw [hp]; rfl
set_option maxRecDepth 100000 in
theorem five_ne : ((hdg (hAt 5 zerT)).data.toList == zerT.data.toList) = false := by kernel_rfl
theorem five_dg : hdg (hAt 5 zerT) ≠ zerT := fun h => by
  have := five_ne
  rw [h] at this
  simp at this
end Go.Proofs.YtpobhbdomldecaaGreatDoor
namespace Go.Proofs.YtpobhbdomldecaaGreatDoor
open Go.RowKit
set_option linter.unusedSimpArgs false
set_option linter.unusedVariables false
structure PT (B : Nat) (w : World) : Prop where
  p : PTab B w
  s : B ≤ w.heap.size
theorem PT.below {B : Nat} {w w' : World} (h : PT B w) (hb : Below w.heap.size w w') : PT B w' := ⟨h.p.keep hb h.s, Nat.le_trans h.s hb.size⟩
def wrongC : List PanicEntry := [{ v := .iface 154 (.agg #[.int .i64 2]), recovered := false }]
theorem hmust_yes (w : World) : Calls Tryz.prog 75 #[.bool true] w fun e w' => e = .returned (.tuple #[]) ∧ w = w' := by
  go_enter Tryz.func75, Tryz.ntmps75
  go_wp2
  go_end0
  exact ⟨rfl, rfl⟩
theorem hmust_no (w : World) : Calls Tryz.prog 75 #[.bool false] w fun e w' => e = .panicked wrongC ∧ w = w' := by
  go_enter Tryz.func75, Tryz.ntmps75
  go_wp2
  exact ⟨rfl, rfl, rfl⟩
theorem hw_any (B : Nat) (r : Hdr) (w : World) (ht : PT B w) (ho : r.Ok) : Calls Tryz.prog 44 #[r.val] w (LaidIs (hsp r) w) :=
  wheader2_any B r.rnd r.prev r.txns r.seed w ht.p ho.r0 (Nat.le_trans ho.p1 (by decide)) (Nat.le_trans ho.t1 (by decide)) (Nat.le_trans ho.s1 (by decide)) (fun h => Nat.le_trans (headerSz h) (by decide))
theorem hw_yes (B : Nat) (r : Hdr) (w : World) (ht : PT B w) (ho : r.Ok) (h : hOk r = true) : Calls Tryz.prog 44 #[r.val] w fun e w' => e = .returned (.tuple #[.string (hbs r), .int .i64 0]) ∧ Below w.heap.size w w' :=
  (hw_any B r w ht ho).mono fun e w' hh => laid_yes h rfl hh
theorem hw_no (B : Nat) (r : Hdr) (w : World) (ht : PT B w) (ho : r.Ok) (h : hOk r = false) : Calls Tryz.prog 44 #[r.val] w fun e w' => e = .returned (.tuple #[.string ⟨#[]⟩, .int .i64 2]) ∧ Below w.heap.size w w' :=
  (hw_any B r w ht ho).mono fun e w' hh => laid_no h hh
set_option maxRecDepth 100000 in
theorem bytes_yes (B : Nat) (r : Hdr) (w : World) (ht : PT B w) (ho : r.Ok) (h : hOk r = true) : Calls Tryz.prog 128 #[r.val] w fun e w' => e = .returned (.string (hbs r)) ∧ Below w.heap.size w w' := by
  have HW := Lib.hid (fun w9 (hb : Below w.heap.size w w9) => hw_yes B r w9 (ht.below hb) ho h)
  clear ht ho h
  go_enter Tryz.func128, Tryz.ntmps128
  go_wp2_with fail
  refine (HW.out _ (balloc (Below.refl _ _) _)).mono ?_
  rintro e w1 ⟨rfl, hb⟩
  have HB : Hid (Below w.heap.size w w1) := Lib.hid (bnext (balloc (Below.refl _ _) _) hb)
  clear hb
  go_wp2_with fail
  refine (hmust_yes _).mono ?_
  rintro e w2 ⟨rfl, rfl⟩
  go_wp2
  go_ret
  exact ⟨rfl, HB.out⟩
set_option maxRecDepth 100000 in
theorem bytes_no (B : Nat) (r : Hdr) (w : World) (ht : PT B w) (ho : r.Ok) (h : hOk r = false) : Calls Tryz.prog 128 #[r.val] w fun e w' => e = .panicked wrongC ∧ Below w.heap.size w w' := by
  have HW := Lib.hid (fun w9 (hb : Below w.heap.size w w9) => hw_no B r w9 (ht.below hb) ho h)
  clear ht ho h
  go_enter Tryz.func128, Tryz.ntmps128
  go_wp2_with fail
  refine (HW.out _ (balloc (Below.refl _ _) _)).mono ?_
  rintro e w1 ⟨rfl, hb⟩
  have HB : Hid (Below w.heap.size w w1) := Lib.hid (bnext (balloc (Below.refl _ _) _) hb)
  clear hb
  go_wp2_with fail
  refine (hmust_no _).mono ?_
  rintro e w2 ⟨rfl, rfl⟩
  go_wp2
  exact ⟨rfl, rfl, HB.out⟩
set_option maxRecDepth 100000 in
theorem digest_yes (B : Nat) (r : Hdr) (w : World) (ht : PT B w) (ho : r.Ok) (h : hOk r = true) : Calls Tryz.prog 78 #[r.val] w fun e w' => e = .returned (.string (hdg r)) ∧ Below w.heap.size w w' := by
  have HW := Lib.hid (fun w9 (hb : Below w.heap.size w w9) => bytes_yes B r w9 (ht.below hb) ho h)
  have HS : Hid ((hbs r).size ≤ 1000000) := Lib.hid (Nat.le_trans (hbs_size h) (by decide))
  clear ht ho h
  go_enter Tryz.func78, Tryz.ntmps78
  go_wp2_with fail
  refine (HW.out _ (balloc (Below.refl _ _) _)).mono ?_
  rintro e w1 ⟨rfl, hb⟩
  have HB : Hid (Below w.heap.size w w1) := Lib.hid (bnext (balloc (Below.refl _ _) _) hb)
  clear hb
  go_wp2_with fail
  refine (hash1_any hdrT (hbs r) _ (by decide) (by decide) HS.out).mono ?_
  rintro e w2 ⟨rfl, hb⟩
  have HB := Lib.hid (bnext HB.out hb)
  clear hb
  go_wp2
  go_ret
  exact ⟨rfl, HB.out⟩
set_option maxRecDepth 100000 in
theorem digest_no (B : Nat) (r : Hdr) (w : World) (ht : PT B w) (ho : r.Ok) (h : hOk r = false) : Calls Tryz.prog 78 #[r.val] w fun e w' => e = .panicked wrongC ∧ Below w.heap.size w w' := by
  have HW := Lib.hid (fun w9 (hb : Below w.heap.size w w9) => bytes_no B r w9 (ht.below hb) ho h)
  clear ht ho h
  go_enter Tryz.func78, Tryz.ntmps78
  go_wp2_with fail
  refine (HW.out _ (balloc (Below.refl _ _) _)).mono ?_
  rintro e w1 ⟨rfl, hb⟩
  have HB : Hid (Below w.heap.size w w1) := Lib.hid (bnext (balloc (Below.refl _ _) _) hb)
  clear hb
  go_wp2
  exact ⟨rfl, rfl, HB.out⟩
set_option maxRecDepth 100000 in
theorem hrootT_any (l : List ByteArray) (a : Option Addr) (c : Nat) (w : World) (hl : Txts w a l) (hn : len l ≤ 65536) (hz : ∀ i, i < len l → (tth l i).size ≤ 140737488355200) : Calls Tryz.prog 69 #[.slice a (len l) c] w fun e w' => e = .returned (.string (treeR l)) ∧ Below w.heap.size w w' := by
  have HW := Lib.hid (build_any l a c w hl hn hz)
  clear hl hn hz
  go_enter Tryz.func69, Tryz.ntmps69
  go_wp2_with fail
  refine HW.out.mono ?_
  rintro e w1 ⟨b, rfl, hs, ht, hb⟩
  have HB := Lib.hid hb
  have HT := Lib.hid ht
  clear hs ht hb
  go_wp2_with fail
  refine (hmust_yes _).mono ?_
  rintro e w2 ⟨rfl, rfl⟩
  go_wp2_with fail
  refine (root_any l b w1 HT.out).mono ?_
  rintro e w2 ⟨rfl, rfl⟩
  go_wp2
  go_ret
  exact ⟨rfl, HB.out⟩
end Go.Proofs.YtpobhbdomldecaaGreatDoor
namespace Go.Proofs.YtpobhbdomldecaaGreatDoor
open Go.RowKit
set_option linter.unusedSimpArgs false
set_option linter.unusedVariables false
theorem follow_end {R : Hdr → Hdr → Bool} {l : List Hdr} {m : Nat} (hm : m = len l) (h : ∀ i, 0 < i → i < m → R (hnth l (i - 1)) (hnth l i) = true) : followH R l = true := by
  subst hm
  exact followH_yes (fun i hi h0 => h i h0 hi)
set_option maxHeartbeats 4000000 in
set_option maxRecDepth 100000 in
theorem follow_any (F : FuncId) (C : Array Value) (R : Hdr → Hdr → Bool) (a : Option Addr) (cap : Nat) (l : List Hdr) (w : World) (hlen : len l ≤ 100000) (hc : Hdrs w a l)
    (eg : ∀ args w, (callFunc F args).run Tryz.prog w = .ok (.enter F args) w)
    (hF : ∀ i, 0 < i → i < len l → ∀ w', Below w.heap.size w w' → Calls Tryz.prog F (#[(hnth l (i - 1)).val, (hnth l i).val] ++ C) w' fun e w'' => e = .returned (.bool (R (hnth l (i - 1)) (hnth l i))) ∧ Below w'.heap.size w' w'') :
    Calls Tryz.prog 76 #[.slice a (len l) cap, .func (.func F) #[] C] w fun e w' => e = .returned (.bool (followH R l)) ∧ Below w.heap.size w w' := by
  have HC := Lib.hid hc
  have HF := Lib.hid hF
  have HN := Lib.hid hlen
  clear hc hF hlen
  go_enter Tryz.func76, Tryz.ntmps76
  go_wp2
  go_loopg [9] (len l) (fun gg i wr => ∃ m : Nat, gg + m = len l ∧ i = .int .i64 (m : Nat) ∧ Hid (Below w.heap.size w wr) ∧ Hid (∀ j, 0 < j → j < m → R (hnth l (j - 1)) (hnth l j) = true))
  case atStart => exact ⟨0, rfl, rfl, Lib.hid (Below.refl _ _), Lib.hid (fun j _ h => by omega)⟩
  case round =>
    obtain ⟨m, hm, rfl, HW, HI⟩ := hrel
    by_cases hlt : m < len l
    · obtain ⟨b, off, rfl, ⟨e0, e1, e2, e3⟩⟩ := (HC.out.below HW.out) m hlt
      obtain ⟨q, hq⟩ : ∃ q, hnth l m = q := ⟨_, rfl⟩
      rw [hq] at e0 e1 e2 e3
      have HQ := Lib.hid hq
      have HLT := Lib.hid hlt
      have b0 : (m : Int) < len l := by omega
      clear hq
      go_upto_region 4 with fail
      clear e0 e1 e2 e3
      obtain ⟨V, hV⟩ : ∃ V, wr.alloc (.cells #[.int .u64 q.rnd, .string q.prev, .string q.txns, .string q.seed] 33) = V := ⟨_, rfl⟩
      obtain ⟨xb, hxb⟩ : ∃ xb, wr.heap.size = xb := ⟨_, rfl⟩
      have HVB : Hid (Below w.heap.size w V) := Lib.hid (by rw [← hV]; exact balloc HW.out _)
      have HVX : Hid (V.heap[xb]? = some (.cells #[.int .u64 q.rnd, .string q.prev, .string q.txns, .string q.seed] 33 (0, 0))) := Lib.hid (by rw [← hV, ← hxb]; exact heap_alloc_new _ _)
      rw [hV, hxb]
      clear hV hxb
      by_cases hm0 : m = 0
      · subst hm0
        refine wp_region_all 1000 (none) (phis [fun u _ => u = (.int .i64 0), fun u _ => u = (.bool false), fun u _ => u = (.bool false), fun u _ => u = undef, fun u _ => u = undef, fun u _ => u = undef, fun u _ => u = undef, fun u _ => u = undef, fun u _ => u = undef, fun u _ => u = undef, fun u _ => u = undef, fun u _ => u = undef, fun u _ => u = (.bool false)]) rfl (by kernel_rfl) (mono_of ⟨mono_eq, mono_eq, mono_eq, mono_eq, mono_eq, mono_eq, mono_eq, mono_eq, mono_eq, mono_eq, mono_eq, mono_eq, mono_eq, trivial⟩) (steps_of 13 ⟨?s0, ?s1, ?s2, ?s3, ?s4, ?s5, ?s6, ?s7, ?s8, ?s9, ?s10, ?s11, ?s12, trivial⟩) ?_
        case s0 =>
          refine step_val (v := (.int .i64 0)) (fun av wv hE hS hO hD => ?_) (fun _ => rfl)
          have h5 : av.eval (.tmp 5) = (.int .i64 0) := hO.2.2 5 rfl
          have f5 := (ev_form av 5).symm.trans h5
          refine ⟨rfl, ?_⟩
          simp [go_sem, f5]
        case s1 =>
          refine step_val (v := (.bool false)) (fun av wv hE hS hO hD => ?_) (fun _ => rfl)
          have d14 : av.eval (.tmp 14) = (.int .i64 0) := hD.1 rfl _ rfl
          have f14 := (ev_form av 14).symm.trans d14
          refine ⟨rfl, ?_⟩
          simp [go_sem, f14]
        case s2 =>
          refine step_val (v := (.bool false)) (fun av wv hE hS hO hD => ?_) (fun _ => rfl)
          have d15 : av.eval (.tmp 15) = (.bool false) := hD.1 rfl _ rfl
          have f15 := (ev_form av 15).symm.trans d15
          refine ⟨rfl, ?_⟩
          simp [go_sem, f15]
        case s3 =>
          refine step_skip (fun av wv hE hS hO hD => ?_) (fun _ => rfl)
          have h1 : av.eval (.tmp 1) = (.func (.func F) #[] C) := hO.2.2 1 rfl
          have f1 := (ev_form av 1).symm.trans h1
          have d16 : av.eval (.tmp 16) = (.bool false) := hD.1 rfl _ rfl
          have f16 := (ev_form av 16).symm.trans d16
          exact (wanted_of (d := 16) (b := false) (want := true) rfl rfl rfl d16)
        case s4 =>
          refine step_skip (fun av wv hE hS hO hD => ?_) (fun _ => rfl)
          have h0 : av.eval (.tmp 0) = (.slice (some ⟨b, off, none⟩) (len l) cap) := hO.2.2 0 rfl
          have f0 := (ev_form av 0).symm.trans h0
          have d16 : av.eval (.tmp 16) = (.bool false) := hD.1 rfl _ rfl
          have f16 := (ev_form av 16).symm.trans d16
          exact (wanted_of (d := 16) (b := false) (want := true) rfl rfl rfl d16)
        case s5 =>
          refine step_skip (fun av wv hE hS hO hD => ?_) (fun _ => rfl)
          have h5 : av.eval (.tmp 5) = (.int .i64 0) := hO.2.2 5 rfl
          have f5 := (ev_form av 5).symm.trans h5
          have d16 : av.eval (.tmp 16) = (.bool false) := hD.1 rfl _ rfl
          have f16 := (ev_form av 16).symm.trans d16
          exact (wanted_of (d := 16) (b := false) (want := true) rfl rfl rfl d16)
        case s6 =>
          refine step_skip (fun av wv hE hS hO hD => ?_) (fun _ => rfl)
          have d19 : av.eval (.tmp 19) = (undef) := hD.1 rfl _ rfl
          have f19 := (ev_form av 19).symm.trans d19
          have d16 : av.eval (.tmp 16) = (.bool false) := hD.2.1 rfl _ rfl
          have f16 := (ev_form av 16).symm.trans d16
          exact (wanted_of (d := 16) (b := false) (want := true) rfl rfl rfl d16)
        case s7 =>
          refine step_skip (fun av wv hE hS hO hD => ?_) (fun _ => rfl)
          have d18 : av.eval (.tmp 18) = (undef) := hD.1 rfl _ rfl
          have f18 := (ev_form av 18).symm.trans d18
          have d20 : av.eval (.tmp 20) = (undef) := hD.2.1 rfl _ rfl
          have f20 := (ev_form av 20).symm.trans d20
          have d16 : av.eval (.tmp 16) = (.bool false) := hD.2.2.1 rfl _ rfl
          have f16 := (ev_form av 16).symm.trans d16
          exact (wanted_of (d := 16) (b := false) (want := true) rfl rfl rfl d16)
        case s8 =>
          refine step_skip (fun av wv hE hS hO hD => ?_) (fun _ => rfl)
          have d21 : av.eval (.tmp 21) = (undef) := hD.1 rfl _ rfl
          have f21 := (ev_form av 21).symm.trans d21
          have d16 : av.eval (.tmp 16) = (.bool false) := hD.2.1 rfl _ rfl
          have f16 := (ev_form av 16).symm.trans d16
          exact (wanted_of (d := 16) (b := false) (want := true) rfl rfl rfl d16)
        case s9 =>
          refine step_skip (fun av wv hE hS hO hD => ?_) (fun _ => rfl)
          have h6 : av.eval (.tmp 6) = (.pointer (some ⟨xb, 0, none⟩)) := hO.2.2 6 rfl
          have f6 := (ev_form av 6).symm.trans h6
          have d16 : av.eval (.tmp 16) = (.bool false) := hD.1 rfl _ rfl
          have f16 := (ev_form av 16).symm.trans d16
          exact (wanted_of (d := 16) (b := false) (want := true) rfl rfl rfl d16)
        case s10 =>
          refine step_skip (fun av wv hE hS hO hD => ?_) (fun _ => rfl)
          have d17 : av.eval (.tmp 17) = (undef) := hD.1 rfl _ rfl
          have f17 := (ev_form av 17).symm.trans d17
          have d22 : av.eval (.tmp 22) = (undef) := hD.2.1 rfl _ rfl
          have f22 := (ev_form av 22).symm.trans d22
          have d23 : av.eval (.tmp 23) = (undef) := hD.2.2.1 rfl _ rfl
          have f23 := (ev_form av 23).symm.trans d23
          have d16 : av.eval (.tmp 16) = (.bool false) := hD.2.2.2.1 rfl _ rfl
          have f16 := (ev_form av 16).symm.trans d16
          exact (wanted_of (d := 16) (b := false) (want := true) rfl rfl rfl d16)
        case s11 =>
          refine step_skip (fun av wv hE hS hO hD => ?_) (fun _ => rfl)
          have d24 : av.eval (.tmp 24) = (undef) := hD.1 rfl _ rfl
          have f24 := (ev_form av 24).symm.trans d24
          have d16 : av.eval (.tmp 16) = (.bool false) := hD.2.1 rfl _ rfl
          have f16 := (ev_form av 16).symm.trans d16
          exact (wanted_of (d := 16) (b := false) (want := true) rfl rfl rfl d16)
        case s12 =>
          refine step_val (v := (.bool false)) (fun av wv hE hS hO hD => ?_) (fun _ => rfl)
          have d16 : av.eval (.tmp 16) = (.bool false) := hD.1 rfl _ rfl
          have f16 := (ev_form av 16).symm.trans d16
          have d25 : av.eval (.tmp 25) = (undef) := hD.2.1 rfl _ rfl
          have f25 := (ev_form av 25).symm.trans d25
          refine ⟨rfl, ?_⟩
          simp [go_sem, f16, f25]
        intro a' w' hE hO hall
        have hA := act_of_outer (ds := [14, 15, 16, 17, 18, 19, 20, 21, 22, 23, 24, 25, 26]) rfl hO (by kernel_rfl)
        have e14 : (fun u _ => u = (.int .i64 0)) (a'.eval (.tmp 14)) w' := hall.1 _ rfl
        have e15 : (fun u _ => u = (.bool false)) (a'.eval (.tmp 15)) w' := hall.2.1 _ rfl
        have e16 : (fun u _ => u = (.bool false)) (a'.eval (.tmp 16)) w' := hall.2.2.1 _ rfl
        have e17 : (fun u _ => u = undef) (a'.eval (.tmp 17)) w' := hall.2.2.2.1 _ rfl
        have e18 : (fun u _ => u = undef) (a'.eval (.tmp 18)) w' := hall.2.2.2.2.1 _ rfl
        have e19 : (fun u _ => u = undef) (a'.eval (.tmp 19)) w' := hall.2.2.2.2.2.1 _ rfl
        have e20 : (fun u _ => u = undef) (a'.eval (.tmp 20)) w' := hall.2.2.2.2.2.2.1 _ rfl
        have e21 : (fun u _ => u = undef) (a'.eval (.tmp 21)) w' := hall.2.2.2.2.2.2.2.1 _ rfl
        have e22 : (fun u _ => u = undef) (a'.eval (.tmp 22)) w' := hall.2.2.2.2.2.2.2.2.1 _ rfl
        have e23 : (fun u _ => u = undef) (a'.eval (.tmp 23)) w' := hall.2.2.2.2.2.2.2.2.2.1 _ rfl
        have e24 : (fun u _ => u = undef) (a'.eval (.tmp 24)) w' := hall.2.2.2.2.2.2.2.2.2.2.1 _ rfl
        have e25 : (fun u _ => u = undef) (a'.eval (.tmp 25)) w' := hall.2.2.2.2.2.2.2.2.2.2.2.1 _ rfl
        have e26 : (fun u _ => u = (.bool false)) (a'.eval (.tmp 26)) w' := hall.2.2.2.2.2.2.2.2.2.2.2.2.1 _ rfl
        simp only [List.foldl_cons, List.foldl_nil, Act.put, List.setIfInBounds_toArray, List.set_cons_succ, List.set_cons_zero, e14, e15, e16, e17, e18, e19, e20, e21, e22, e23, e24, e25, e26] at hA
        clear hO hall e14 e15 e16 e17 e18 e19 e20 e21 e22 e23 e24 e25 e26
        subst hA
        have HB2 : Hid (Below w.heap.size w w') := Lib.hid (bnext HVB.out (of_drew hE))
        have HNN := HN.out
        clear hE
        go_wp2
        go_roundg (gk - 1)
        case rel => exact ⟨1, by omega, by go_num, HB2, Lib.hid (fun j h0 h => by omega)⟩
        case measure => omega
      · obtain ⟨k, hk⟩ : ∃ k, m = k + 1 := ⟨m - 1, by omega⟩
        obtain ⟨b', off', he, ⟨c0, c1, c2, c3⟩⟩ := (HC.out.below HVB.out) k (by omega)
        cases he
        obtain ⟨p, hp⟩ : ∃ p, hnth l k = p := ⟨_, rfl⟩
        obtain ⟨x, hx⟩ : ∃ x, R p q = x := ⟨_, rfl⟩
        have HF2 := Lib.hid (fun w9 (hb : Below V.heap.size V w9) => HF.out m (by omega) hlt w9 (bnext HVB.out hb))
        rw [show m - 1 = k by omega, hp, HQ.out, hx] at HF2
        rw [hp] at c0 c1 c2 c3
        have HXX : Hid (R (hnth l (m - 1)) (hnth l m) = x) := Lib.hid (by rw [show m - 1 = k by omega, hp, HQ.out, hx])
        have d0 : V.cell? ⟨xb, 0, none⟩ = some (.int .u64 q.rnd) := block_cell HVX.out 0
        have d1 : V.cell? ⟨xb, 1, none⟩ = some (.string q.prev) := block_cell HVX.out 1
        have d2 : V.cell? ⟨xb, 2, none⟩ = some (.string q.txns) := block_cell HVX.out 2
        have d3 : V.cell? ⟨xb, 3, none⟩ = some (.string q.seed) := block_cell HVX.out 3
        have i1 : 0 < m := by omega
        have i2 : k < len l := by omega
        have i3 : IntKind.i64.wrap ((m : Int) - 1) = (k : Int) := by have := HN.out; rw [IntWalk.i64_in _ (by omega)]; omega
        have i4 : (k : Int) < len l := by omega
        have HK := Lib.hid hk
        clear hp hx hm0 hk hlt
        refine wp_region_all 1000 (none) (phis [fun u _ => u = (.int .i64 (m : Nat)), fun u _ => u = (.bool true), fun u _ => u = (.bool true), fun u _ => u = (.func (.func F) #[] C), fun u _ => u = (.slice (some ⟨b, off, none⟩) (len l) cap), fun u _ => u = (.int .i64 (m : Nat)), fun u _ => u = (.int .i64 (k : Nat)), fun u _ => u = (.pointer (some ⟨b, off + k * 4, none⟩)), fun u _ => u = ((Hdr.val p)), fun u _ => u = ((Hdr.val q)), fun u _ => u = (.bool x), fun u _ => u = (.bool (!x)), fun u _ => u = (.bool (!x))]) rfl (by kernel_rfl) (mono_of ⟨mono_eq, mono_eq, mono_eq, mono_eq, mono_eq, mono_eq, mono_eq, mono_eq, mono_eq, mono_eq, mono_eq, mono_eq, mono_eq, trivial⟩) (steps_of 13 ⟨?s0, ?s1, ?s2, ?s3, ?s4, ?s5, ?s6, ?s7, ?s8, ?s9, ?s10, ?s11, ?s12, trivial⟩) ?_
        case s0 =>
          refine step_val (v := (.int .i64 (m : Nat))) (fun av wv hE hS hO hD => ?_) (fun _ => rfl)
          have h5 : av.eval (.tmp 5) = (.int .i64 (m : Nat)) := hO.2.2 5 rfl
          have f5 := (ev_form av 5).symm.trans h5
          refine ⟨rfl, ?_⟩
          simp [go_sem, f5, i1, i2, i3, i4]
        case s1 =>
          refine step_val (v := (.bool true)) (fun av wv hE hS hO hD => ?_) (fun _ => rfl)
          have d14 : av.eval (.tmp 14) = (.int .i64 (m : Nat)) := hD.1 rfl _ rfl
          have f14 := (ev_form av 14).symm.trans d14
          refine ⟨rfl, ?_⟩
          simp [go_sem, f14, i1, i2, i3, i4]
        case s2 =>
          refine step_val (v := (.bool true)) (fun av wv hE hS hO hD => ?_) (fun _ => rfl)
          have d15 : av.eval (.tmp 15) = (.bool true) := hD.1 rfl _ rfl
          have f15 := (ev_form av 15).symm.trans d15
          refine ⟨rfl, ?_⟩
          simp [go_sem, f15, i1, i2, i3, i4]
        case s3 =>
          refine step_val (v := (.func (.func F) #[] C)) (fun av wv hE hS hO hD => ?_) (fun _ => rfl)
          have h1 : av.eval (.tmp 1) = (.func (.func F) #[] C) := hO.2.2 1 rfl
          have f1 := (ev_form av 1).symm.trans h1
          have d16 : av.eval (.tmp 16) = (.bool true) := hD.1 rfl _ rfl
          have f16 := (ev_form av 16).symm.trans d16
          refine ⟨(wanted_of (d := 16) (b := true) (want := true) rfl rfl rfl d16), ?_⟩
          simp [go_sem, f1, f16, i1, i2, i3, i4]
        case s4 =>
          refine step_val (v := (.slice (some ⟨b, off, none⟩) (len l) cap)) (fun av wv hE hS hO hD => ?_) (fun _ => rfl)
          have h0 : av.eval (.tmp 0) = (.slice (some ⟨b, off, none⟩) (len l) cap) := hO.2.2 0 rfl
          have f0 := (ev_form av 0).symm.trans h0
          have d16 : av.eval (.tmp 16) = (.bool true) := hD.1 rfl _ rfl
          have f16 := (ev_form av 16).symm.trans d16
          refine ⟨(wanted_of (d := 16) (b := true) (want := true) rfl rfl rfl d16), ?_⟩
          simp [go_sem, f0, f16, i1, i2, i3, i4]
        case s5 =>
          refine step_val (v := (.int .i64 (m : Nat))) (fun av wv hE hS hO hD => ?_) (fun _ => rfl)
          have h5 : av.eval (.tmp 5) = (.int .i64 (m : Nat)) := hO.2.2 5 rfl
          have f5 := (ev_form av 5).symm.trans h5
          have d16 : av.eval (.tmp 16) = (.bool true) := hD.1 rfl _ rfl
          have f16 := (ev_form av 16).symm.trans d16
          refine ⟨(wanted_of (d := 16) (b := true) (want := true) rfl rfl rfl d16), ?_⟩
          simp [go_sem, f5, f16, i1, i2, i3, i4]
        case s6 =>
          refine step_val (v := (.int .i64 (k : Nat))) (fun av wv hE hS hO hD => ?_) (fun _ => rfl)
          have d19 : av.eval (.tmp 19) = (.int .i64 (m : Nat)) := hD.1 rfl _ rfl
          have f19 := (ev_form av 19).symm.trans d19
          have d16 : av.eval (.tmp 16) = (.bool true) := hD.2.1 rfl _ rfl
          have f16 := (ev_form av 16).symm.trans d16
          refine ⟨(wanted_of (d := 16) (b := true) (want := true) rfl rfl rfl d16), ?_⟩
          simp [go_sem, f19, f16, i1, i2, i3, i4]
        case s7 =>
          refine step_val (v := (.pointer (some ⟨b, off + k * 4, none⟩))) (fun av wv hE hS hO hD => ?_) (fun _ => rfl)
          have d18 : av.eval (.tmp 18) = (.slice (some ⟨b, off, none⟩) (len l) cap) := hD.1 rfl _ rfl
          have f18 := (ev_form av 18).symm.trans d18
          have d20 : av.eval (.tmp 20) = (.int .i64 (k : Nat)) := hD.2.1 rfl _ rfl
          have f20 := (ev_form av 20).symm.trans d20
          have d16 : av.eval (.tmp 16) = (.bool true) := hD.2.2.1 rfl _ rfl
          have f16 := (ev_form av 16).symm.trans d16
          refine ⟨(wanted_of (d := 16) (b := true) (want := true) rfl rfl rfl d16), ?_⟩
          simp [go_sem, f18, f20, f16, i1, i2, i3, i4]
        case s8 =>
          refine step_val (v := ((Hdr.val p))) (fun av wv hE hS hO hD => ?_) (fun _ => rfl)
          have d21 : av.eval (.tmp 21) = (.pointer (some ⟨b, off + k * 4, none⟩)) := hD.1 rfl _ rfl
          have f21 := (ev_form av 21).symm.trans d21
          have d16 : av.eval (.tmp 16) = (.bool true) := hD.2.1 rfl _ rfl
          have f16 := (ev_form av 16).symm.trans d16
          have c0 := extB_cell hE (by simp) c0
          have c1 := extB_cell hE (by simp) c1
          have c2 := extB_cell hE (by simp) c2
          have c3 := extB_cell hE (by simp) c3
          have d0 := extB_cell hE (by simp) d0
          have d1 := extB_cell hE (by simp) d1
          have d2 := extB_cell hE (by simp) d2
          have d3 := extB_cell hE (by simp) d3
          refine ⟨(wanted_of (d := 16) (b := true) (want := true) rfl rfl rfl d16), ?_⟩
          simp [go_sem, f21, f16, c0, c1, c2, c3, d0, d1, d2, d3, i1, i2, i3, i4]
        case s9 =>
          refine step_val (v := ((Hdr.val q))) (fun av wv hE hS hO hD => ?_) (fun _ => rfl)
          have h6 : av.eval (.tmp 6) = (.pointer (some ⟨xb, 0, none⟩)) := hO.2.2 6 rfl
          have f6 := (ev_form av 6).symm.trans h6
          have d16 : av.eval (.tmp 16) = (.bool true) := hD.1 rfl _ rfl
          have f16 := (ev_form av 16).symm.trans d16
          have c0 := extB_cell hE (by simp) c0
          have c1 := extB_cell hE (by simp) c1
          have c2 := extB_cell hE (by simp) c2
          have c3 := extB_cell hE (by simp) c3
          have d0 := extB_cell hE (by simp) d0
          have d1 := extB_cell hE (by simp) d1
          have d2 := extB_cell hE (by simp) d2
          have d3 := extB_cell hE (by simp) d3
          refine ⟨(wanted_of (d := 16) (b := true) (want := true) rfl rfl rfl d16), ?_⟩
          simp [go_sem, f6, f16, c0, c1, c2, c3, d0, d1, d2, d3, i1, i2, i3, i4]
        case s10 =>
          refine step_wp (fun av wv hE hS hO hD => ?_)
          have d17 : av.eval (.tmp 17) = (.func (.func F) #[] C) := hD.1 rfl _ rfl
          have f17 := (ev_form av 17).symm.trans d17
          have d22 : av.eval (.tmp 22) = ((Hdr.val p)) := hD.2.1 rfl _ rfl
          have f22 := (ev_form av 22).symm.trans d22
          have d23 : av.eval (.tmp 23) = ((Hdr.val q)) := hD.2.2.1 rfl _ rfl
          have f23 := (ev_form av 23).symm.trans d23
          have d16 : av.eval (.tmp 16) = (.bool true) := hD.2.2.2.1 rfl _ rfl
          have f16 := (ev_form av 16).symm.trans d16
          refine ⟨(wanted_of (d := 16) (b := true) (want := true) rfl rfl rfl d16), ?_⟩
          refine wp_of_call (v := .bool x) (by simp [go_sem, f17, f22, f23]; exact eg _ _) (HF2.out wv (of_drew hE)) (fun w2 hb => ⟨_, rfl, es_of_ext hb, rfl⟩)
        case s11 =>
          refine step_val (v := (.bool (!x))) (fun av wv hE hS hO hD => ?_) (fun _ => rfl)
          have d24 : av.eval (.tmp 24) = (.bool x) := hD.1 rfl _ rfl
          have f24 := (ev_form av 24).symm.trans d24
          have d16 : av.eval (.tmp 16) = (.bool true) := hD.2.1 rfl _ rfl
          have f16 := (ev_form av 16).symm.trans d16
          refine ⟨(wanted_of (d := 16) (b := true) (want := true) rfl rfl rfl d16), ?_⟩
          simp [go_sem, f24, f16, i1, i2, i3, i4]
        case s12 =>
          refine step_val (v := (.bool (!x))) (fun av wv hE hS hO hD => ?_) (fun _ => rfl)
          have d16 : av.eval (.tmp 16) = (.bool true) := hD.1 rfl _ rfl
          have f16 := (ev_form av 16).symm.trans d16
          have d25 : av.eval (.tmp 25) = (.bool (!x)) := hD.2.1 rfl _ rfl
          have f25 := (ev_form av 25).symm.trans d25
          refine ⟨rfl, ?_⟩
          simp [go_sem, f16, f25, i1, i2, i3, i4]
        intro a' w' hE hO hall
        have hA := act_of_outer (ds := [14, 15, 16, 17, 18, 19, 20, 21, 22, 23, 24, 25, 26]) rfl hO (by kernel_rfl)
        have e14 : (fun u _ => u = (.int .i64 (m : Nat))) (a'.eval (.tmp 14)) w' := hall.1 _ rfl
        have e15 : (fun u _ => u = (.bool true)) (a'.eval (.tmp 15)) w' := hall.2.1 _ rfl
        have e16 : (fun u _ => u = (.bool true)) (a'.eval (.tmp 16)) w' := hall.2.2.1 _ rfl
        have e17 : (fun u _ => u = (.func (.func F) #[] C)) (a'.eval (.tmp 17)) w' := hall.2.2.2.1 _ rfl
        have e18 : (fun u _ => u = (.slice (some ⟨b, off, none⟩) (len l) cap)) (a'.eval (.tmp 18)) w' := hall.2.2.2.2.1 _ rfl
        have e19 : (fun u _ => u = (.int .i64 (m : Nat))) (a'.eval (.tmp 19)) w' := hall.2.2.2.2.2.1 _ rfl
        have e20 : (fun u _ => u = (.int .i64 (k : Nat))) (a'.eval (.tmp 20)) w' := hall.2.2.2.2.2.2.1 _ rfl
        have e21 : (fun u _ => u = (.pointer (some ⟨b, off + k * 4, none⟩))) (a'.eval (.tmp 21)) w' := hall.2.2.2.2.2.2.2.1 _ rfl
        have e22 : (fun u _ => u = ((Hdr.val p))) (a'.eval (.tmp 22)) w' := hall.2.2.2.2.2.2.2.2.1 _ rfl
        have e23 : (fun u _ => u = ((Hdr.val q))) (a'.eval (.tmp 23)) w' := hall.2.2.2.2.2.2.2.2.2.1 _ rfl
        have e24 : (fun u _ => u = (.bool x)) (a'.eval (.tmp 24)) w' := hall.2.2.2.2.2.2.2.2.2.2.1 _ rfl
        have e25 : (fun u _ => u = (.bool (!x))) (a'.eval (.tmp 25)) w' := hall.2.2.2.2.2.2.2.2.2.2.2.1 _ rfl
        have e26 : (fun u _ => u = (.bool (!x))) (a'.eval (.tmp 26)) w' := hall.2.2.2.2.2.2.2.2.2.2.2.2.1 _ rfl
        simp only [List.foldl_cons, List.foldl_nil, Act.put, List.setIfInBounds_toArray, List.set_cons_succ, List.set_cons_zero, e14, e15, e16, e17, e18, e19, e20, e21, e22, e23, e24, e25, e26] at hA
        clear hO hall e14 e15 e16 e17 e18 e19 e20 e21 e22 e23 e24 e25 e26
        subst hA
        have HB2 : Hid (Below w.heap.size w w') := Lib.hid (bnext HVB.out (of_drew hE))
        have HNN := HN.out
        clear hE c0 c1 c2 c3 d0 d1 d2 d3 i1 i2 i3 i4
        cases x
        · have HNO : Hid (followH R l = false) := Lib.hid (followH_no HLT.out (by have := HK.out; omega) HXX.out)
          go_wp2
          go_ret
          exact ⟨ret_bool (by rw [HNO.out]; try rfl), HB2.out⟩
        · go_wp2
          go_roundg (gk - 1)
          case rel => exact ⟨m + 1, by omega, by go_num, HB2, Lib.hid (fun j h0 h => by
            by_cases e : j = m
            · subst e; exact HXX.out
            · exact HI.out j h0 (by omega))⟩
          case measure => omega
    · have b0 : ¬ (m : Int) < len l := by omega
      have HYE : Hid (followH R l = true) := Lib.hid (follow_end (m := m) (by omega) HI.out)
      go_wp2
      go_ret
      exact ⟨ret_bool (by rw [HYE.out]; try rfl), HW.out⟩
theorem step_val2 (p q : Hdr) : stepH p q = (decide (p.rnd < q.rnd) && (q.rnd - p.rnd == 1)) := by
  unfold stepH
  by_cases e : q.rnd - p.rnd = 1 <;> simp [e]
set_option maxRecDepth 100000 in
theorem step_any (p q : Hdr) (w : World) (hp : p.Ok) (hq : q.Ok) : Calls Tryz.prog 127 #[p.val, q.val] w fun e w' => e = .returned (.bool (stepH p q)) ∧ Below w.heap.size w w' := by
  have HS := Lib.hid (step_val2 p q)
  have hp0 := hp.r0
  have hq0 := hq.r0
  unfold U64i at hp0 hq0
  obtain ⟨x, hx⟩ : ∃ x, p.rnd = x := ⟨_, rfl⟩
  obtain ⟨y, hy⟩ : ∃ y, q.rnd = y := ⟨_, rfl⟩
  rw [hx, hy] at HS
  rw [hx] at hp0
  rw [hy] at hq0
  have HX := Lib.hid hx
  have HY := Lib.hid hy
  by_cases h : x < y
  · have i1 : IntKind.u64.wrap (y - x) = y - x := IntWalk.u64_in _ (by omega)
    have HE : Hid (stepH p q = (y - x == 1)) := Lib.hid (by rw [HS.out, decide_eq_true h]; rfl)
    have h2 := HX.out
    have h3 := HY.out
    clear hp hq hp0 hq0 hx hy
    go_enter Tryz.func127, Tryz.ntmps127
    go_wp2
    go_ret
    refine ⟨ret_bool ?_, by (repeat (first | exact Below.refl _ _ | assumption | (refine bdrew ?_) | (refine bdrewN ?_ _) | (refine balloc ?_ _) | (refine bset ?_ (by first | omega | (simp; done) | (simp; omega)) _) | (refine bnext ?_ (by assumption))))⟩
    rw [HE.out]
    try rfl
  · have HE : Hid (stepH p q = false) := Lib.hid (by rw [HS.out, decide_eq_false h]; rfl)
    have h2 := HX.out
    have h3 := HY.out
    clear hp hq hp0 hq0 hx hy
    go_enter Tryz.func127, Tryz.ntmps127
    go_wp2
    go_ret
    refine ⟨ret_bool ?_, by (repeat (first | exact Below.refl _ _ | assumption | (refine bdrew ?_) | (refine bdrewN ?_ _) | (refine balloc ?_ _) | (refine bset ?_ (by first | omega | (simp; done) | (simp; omega)) _) | (refine bnext ?_ (by assumption))))⟩
    rw [HE.out]
    try rfl
theorem len_appH {α : Type} (a b : List α) : len (a ++ b) = len a + len b := by rw [len_eq, List.length_append]; rfl
def ElemIs (l : List Hdr) (w : World) (e : Ending) (w' : World) : Prop := Below w.heap.size w w' ∧ ((elOk l = true ∧ ∃ v, e = .returned v ∧ TextsAre (elL l) v w') ∨ (elOk l = false ∧ e = .panicked wrongC))
structure ElPr (B : Nat) (l : List Hdr) (w wr : World) (v : Value) (m : Nat) : Prop where
  b : Below w.heap.size w wr
  o : wr.ownsRow w.heap.size 9 1 v (len (elL (l.take m))) ((elL (l.take m)).map Value.string)
  y : ∀ j, j < m → hOk (hnth l j) = true
theorem lenT2 (l : List Hdr) (m : Nat) (h : m ≤ len l) : len (elL (l.take m)) = m := by rw [elL_len, len_eq, List.length_take]; rw [len_eq] at h; omega
set_option maxRecDepth 100000 in
set_option maxHeartbeats 4000000 in
theorem elements_any (B : Nat) (l : List Hdr) (a : Option Addr) (cap : Nat) (w : World) (ht : PT B w) (hc : Hdrs w a l) (ho : ∀ i, (hnth l i).Ok) (hn : len l ≤ 100000) :
    Calls Tryz.prog 70 #[.slice a (len l) cap] w (ElemIs l w) := by
  have HT := Lib.hid ht
  have HC := Lib.hid hc
  have HO := Lib.hid ho
  have HN := Lib.hid hn
  clear ht hc ho hn
  obtain ⟨i0, hi, hz0, hz1, hz2⟩ := info_parts info_str
  have HZ := Lib.hid hz0
  clear hz0
  by_cases h64 : 0 < len l ∧ len l ≤ 64
  · have a1 : 0 < len l := h64.1
    have a2 : (len l : Int) ≤ 64 := by omega
    have H64 := Lib.hid h64
    clear h64
    go_enter Tryz.func70, Tryz.ntmps70
    go_wp2_with fail
    refine (hmust_yes _).mono ?_
    rintro e w1 ⟨rfl, rfl⟩
    clear a1 a2
    go_wp2_with fail
    refine (follow_any 127 #[] stepH a cap l w HN.out HC.out (fun _ _ => rfl) (fun i h0 h1 w9 hb => step_any _ _ w9 (HO.out _) (HO.out _))).mono ?_
    rintro e w1 ⟨rfl, hb⟩
    have HB := Lib.hid hb
    clear hb
    cases hf : followH stepH l with
    | false =>
      have HNO : Hid (elOk l = false) := Lib.hid (by unfold elOk; rw [hf]; simp)
      clear hf
      go_wp2_with fail
      refine (hmust_no _).mono ?_
      rintro e w2 ⟨rfl, rfl⟩
      go_wp2
      exact ⟨rfl, HB.out, .inr ⟨HNO.out, rfl⟩⟩
    | true =>
      have HF := Lib.hid hf
      clear hf
      go_wp2_with fail
      refine (hmust_yes _).mono ?_
      rintro e w2 ⟨rfl, rfl⟩
      go_wp2
      go_loopg [3, 20] (len l) (fun gg v i wr => ∃ m : Nat, gg + m = len l ∧ i = .int .i64 (m : Nat) ∧ Hid (ElPr B l w wr v m))
      case atStart => exact ⟨0, rfl, rfl, Lib.hid ⟨HB.out, World.ownsRow_nil _ _ _ _, fun j h => by omega⟩⟩
      case round =>
        obtain ⟨m, hm, rfl, HS⟩ := hrel
        by_cases hlt : m < len l
        · obtain ⟨b, off, rfl, ⟨e0, e1, e2, e3⟩⟩ := (HC.out.below HS.out.b) m hlt
          have HRO := Lib.hid (HO.out m)
          obtain ⟨r, hr⟩ : ∃ r, hnth l m = r := ⟨_, rfl⟩
          rw [hr] at e0 e1 e2 e3 HRO
          have HRE := Lib.hid hr
          have b0 : (m : Int) < len l := by omega
          have HLT := Lib.hid hlt
          have HB := Lib.hid (HS.out.b)
          have HTR := Lib.hid (HT.out.below HS.out.b)
          clear hr hlt
          by_cases hok : hOk r = true
          · have HOK := Lib.hid hok
            clear hok
            go_wp2_with fail
            refine (bytes_yes B r _ (HTR.out.below (balloc (Below.refl _ _) _)) HRO.out HOK.out).mono ?_
            rintro e w1 ⟨rfl, hb⟩
            have HB2 : Hid (Below w.heap.size w w1) := Lib.hid (bnext (balloc HB.out _) hb)
            have HO2 := Lib.hid (own_below (HS.out.o.alloc (.cells #[.int .u64 r.rnd, .string r.prev, .string r.txns, .string r.seed] 33)) hb)
            have hd0 := HO2.out
            obtain ⟨w', hw'⟩ : ∃ w', w1 = w' := ⟨_, rfl⟩
            subst hw'
            have HD := Lib.hid hd0
            clear hb e0 e1 e2 e3 hd0
            go_wp2_with (at_builtin; refine wpList_append_own _ rfl _ _ 36 rfl w.heap.size 9 i0 (.string ⟨#[]⟩) 1 16 Tryz.underlying36 hi HZ.out hz1 hz2 rfl (by decide) _ _ _ rfl (HO2.out.alloc _) ⟨w1.heap.size, 0, none⟩ 1 1 [.string (hbs r)] rfl rfl ?c1 ?c2 ?c3 ?c4 ?c5 ?_)
            case c1 => exact World.news_of_block (alloc_new_at _ rfl)
            case c2 => intro u hu; simp at hu; subst hu; rfl
            case c3 => unfold maxLen; have := HN.out; have := lenT2 l m (Nat.le_of_lt HLT.out); have := HLT.out; omega
            case c4 => have := HN.out; have := lenT2 l m (Nat.le_of_lt HLT.out); have := HLT.out; omega
            case c5 => have := HB2.out.size; simp; omega
            intro v' w2 hown' hgrow _
            have HB3 : Hid (Below w.heap.size w w2) := Lib.hid (grownBy_below (balloc HB2.out _) hgrow (fun k hk => (HO2.out.lt k hk).1))
            have HO3 : Hid (w2.ownsRow w.heap.size 9 1 v' (len (elL (l.take (m + 1)))) ((elL (l.take (m + 1))).map Value.string)) := Lib.hid (by
              rw [elL_snoc l m HLT.out, HRE.out, List.map_append, len_appH, show len [hbs r] = 1 from rfl]; exact hown')
            clear hown' hgrow HD
            have HNN := HN.out
            go_wp2
            go_roundg (gk - 1)
            case rel => exact ⟨m + 1, by omega, by go_num, Lib.hid ⟨HB3.out, HO3.out, fun j hj => by
              by_cases e : j = m
              · subst e; rw [HRE.out]; exact HOK.out
              · exact HS.out.y j (by omega)⟩⟩
            case measure => omega
          · have hok : hOk r = false := by simpa using hok
            have HNO : Hid (elOk l = false) := Lib.hid (by unfold elOk; rw [laysH_no HLT.out (by rw [HRE.out]; exact hok)]; simp)
            go_wp2_with fail
            refine (bytes_no B r _ (HTR.out.below (balloc (Below.refl _ _) _)) HRO.out hok).mono ?_
            rintro e w1 ⟨rfl, hb⟩
            have HB2 : Hid (Below w.heap.size w w1) := Lib.hid (bnext (balloc HB.out _) hb)
            clear hb e0 e1 e2 e3
            go_wp2
            exact ⟨rfl, HB2.out, .inr ⟨HNO.out, rfl⟩⟩
        · obtain rfl : m = len l := by omega
          have b0 : ¬ ((len l : Nat) : Int) < (len l : Nat) := by omega
          have HYE : Hid (elOk l = true) := Lib.hid (elOk_of H64.out.1 H64.out.2 HF.out (laysH_yes (fun i hi => HS.out.y i hi)))
          have HTK : Hid (l.take (len l) = l) := Lib.hid (take_len l)
          have HSO := Lib.hid HS.out.o
          rw [HTK.out] at HSO
          have HSB := Lib.hid HS.out.b
          go_wp2
          go_ret
          exact ⟨HSB.out, .inl ⟨HYE.out, _, rfl, TextsAre.own HSO.out⟩⟩
  · have HNO : Hid (elOk l = false) := Lib.hid (by
      unfold elOk
      by_cases h1 : 0 < len l
      · rw [decide_eq_false (show ¬ len l ≤ 64 from fun h => h64 ⟨h1, h⟩)]; simp
      · rw [decide_eq_false h1]; simp)
    by_cases a1 : 0 < len l
    · have a2 : ¬ (len l : Int) ≤ 64 := by omega
      clear h64
      go_enter Tryz.func70, Tryz.ntmps70
      go_wp2_with fail
      refine (hmust_no _).mono ?_
      rintro e w1 ⟨rfl, rfl⟩
      go_wp2
      exact ⟨rfl, Below.refl _ _, .inr ⟨HNO.out, rfl⟩⟩
    · clear h64
      go_enter Tryz.func70, Tryz.ntmps70
      go_wp2_with fail
      refine (hmust_no _).mono ?_
      rintro e w1 ⟨rfl, rfl⟩
      go_wp2
      exact ⟨rfl, Below.refl _ _, .inr ⟨HNO.out, rfl⟩⟩
theorem elements_yes (B : Nat) (l : List Hdr) (a : Option Addr) (cap : Nat) (w : World) (ht : PT B w) (hc : Hdrs w a l) (ho : ∀ i, (hnth l i).Ok) (hn : len l ≤ 100000) (h : elOk l = true) :
    Calls Tryz.prog 70 #[.slice a (len l) cap] w fun e w' => ∃ v, e = .returned v ∧ TextsAre (elL l) v w' ∧ Below w.heap.size w w' :=
  (elements_any B l a cap w ht hc ho hn).mono (fun e w' hh => by
    rcases hh.2 with ⟨_, v, h1, h2⟩ | ⟨h1, _⟩
    · exact ⟨v, h1, h2, hh.1⟩
    · rw [h] at h1; cases h1)
theorem elements_no (B : Nat) (l : List Hdr) (a : Option Addr) (cap : Nat) (w : World) (ht : PT B w) (hc : Hdrs w a l) (ho : ∀ i, (hnth l i).Ok) (hn : len l ≤ 100000) (h : elOk l = false) :
    Calls Tryz.prog 70 #[.slice a (len l) cap] w fun e w' => e = .panicked wrongC ∧ Below w.heap.size w w' :=
  (elements_any B l a cap w ht hc ho hn).mono (fun e w' hh => by
    rcases hh.2 with ⟨h1, _⟩ | ⟨_, h1⟩
    · rw [h] at h1; cases h1
    · exact ⟨h1, hh.1⟩)
set_option maxRecDepth 100000 in
theorem hang_any (B : Nat) (p q : Hdr) (w : World) (ht : PT B w) (hp : p.Ok) (hq : q.Ok) (h : hOk p = true) : Calls Tryz.prog 77 #[p.val, q.val] w fun e w' => e = .returned (.bool (hangH p q)) ∧ Below w.heap.size w w' := by
  obtain ⟨X, hX⟩ : ∃ X, hdg p = X := ⟨_, rfl⟩
  obtain ⟨x, hx⟩ : ∃ x, (q.prev.toList == X.toList) = x := ⟨_, rfl⟩
  have HE : Hid (hangH p q = x) := Lib.hid (by unfold hangH; rw [hX, ← hx, str_beq])
  have HD0 := Lib.hid (fun w9 (hb : Below w.heap.size w w9) => digest_yes B p w9 (ht.below hb) hp h)
  rw [hX] at HD0
  have HHX := Lib.hid hx
  clear ht hp hq h hX hx
  go_enter Tryz.func77, Tryz.ntmps77
  go_upto_region 1 with fail
  obtain ⟨V, hV⟩ : ∃ V, (w.alloc (.cells #[.int .u64 p.rnd, .string p.prev, .string p.txns, .string p.seed] 33)).alloc (.cells #[.int .u64 q.rnd, .string q.prev, .string q.txns, .string q.seed] 33) = V := ⟨_, rfl⟩
  have HVB : Hid (Below w.heap.size w V) := Lib.hid (by rw [← hV]; (repeat (first | exact Below.refl _ _ | assumption | (refine bdrew ?_) | (refine bdrewN ?_ _) | (refine balloc ?_ _) | (refine bset ?_ (by first | omega | (simp; done) | (simp; omega)) _) | (refine bnext ?_ (by assumption)))))
  have HV0 : Hid (V.heap[w.heap.size]? = some (.cells #[.int .u64 p.rnd, .string p.prev, .string p.txns, .string p.seed] 33 (0, 0))) := Lib.hid (by rw [← hV]; exact block_alloc (heap_alloc_new _ _) _)
  have HV1 : Hid (V.heap[w.heap.size + 1]? = some (.cells #[.int .u64 q.rnd, .string q.prev, .string q.txns, .string q.seed] 33 (0, 0))) := Lib.hid (by rw [← hV]; exact alloc_new_at _ (alloc_size _ rfl))
  rw [hV]
  have HD := Lib.hid (fun w9 (hb : Below V.heap.size V w9) => HD0.out w9 (bnext HVB.out hb))
  have c0 : V.cell? ⟨w.heap.size, 0, none⟩ = some (.int .u64 p.rnd) := block_cell HV0.out 0
  have c1 : V.cell? ⟨w.heap.size, 1, none⟩ = some (.string p.prev) := block_cell HV0.out 1
  have c2 : V.cell? ⟨w.heap.size, 2, none⟩ = some (.string p.txns) := block_cell HV0.out 2
  have c3 : V.cell? ⟨w.heap.size, 3, none⟩ = some (.string p.seed) := block_cell HV0.out 3
  have d1 : V.cell? ⟨w.heap.size + 1, 1, none⟩ = some (.string q.prev) := block_cell HV1.out 1
  have hx := HHX.out
  clear hV
  refine wp_region_all 1000 (none) (phis [fun u _ => u = (.pointer (some ⟨w.heap.size + 1, 1, none⟩)), fun u _ => u = (.string q.prev), fun u _ => u = ((Hdr.val p)), fun u _ => u = (.string X), fun u _ => u = (.bool x), fun u _ => u = (.bool x)]) rfl (by kernel_rfl) (mono_of ⟨mono_eq, mono_eq, mono_eq, mono_eq, mono_eq, mono_eq, trivial⟩) (steps_of 6 ⟨?s0, ?s1, ?s2, ?s3, ?s4, ?s5, trivial⟩) ?_
  case s0 =>
    refine step_val (v := (.pointer (some ⟨w.heap.size + 1, 1, none⟩))) (fun av wv hE hS hO hD => ?_) (fun _ => rfl)
    have h3 : av.eval (.tmp 3) = (.pointer (some ⟨w.heap.size + 1, 0, none⟩)) := hO.2.2 3 rfl
    have f3 := (ev_form av 3).symm.trans h3
    refine ⟨rfl, ?_⟩
    simp [go_sem, f3, hx]
  case s1 =>
    refine step_val (v := (.string q.prev)) (fun av wv hE hS hO hD => ?_) (fun _ => rfl)
    have d5 : av.eval (.tmp 5) = (.pointer (some ⟨w.heap.size + 1, 1, none⟩)) := hD.1 rfl _ rfl
    have f5 := (ev_form av 5).symm.trans d5
    have c0 := extB_cell hE (by simp) c0
    have c1 := extB_cell hE (by simp) c1
    have c2 := extB_cell hE (by simp) c2
    have c3 := extB_cell hE (by simp) c3
    have d1 := extB_cell hE (by simp) d1
    refine ⟨rfl, ?_⟩
    simp [go_sem, f5, c0, c1, c2, c3, d1, hx]
  case s2 =>
    refine step_val (v := ((Hdr.val p))) (fun av wv hE hS hO hD => ?_) (fun _ => rfl)
    have h2 : av.eval (.tmp 2) = (.pointer (some ⟨w.heap.size, 0, none⟩)) := hO.2.2 2 rfl
    have f2 := (ev_form av 2).symm.trans h2
    have c0 := extB_cell hE (by simp) c0
    have c1 := extB_cell hE (by simp) c1
    have c2 := extB_cell hE (by simp) c2
    have c3 := extB_cell hE (by simp) c3
    have d1 := extB_cell hE (by simp) d1
    refine ⟨rfl, ?_⟩
    simp [go_sem, f2, c0, c1, c2, c3, d1, hx]
  case s3 =>
    refine step_wp (fun av wv hE hS hO hD => ?_)
    have d7 : av.eval (.tmp 7) = ((Hdr.val p)) := hD.1 rfl _ rfl
    have f7 := (ev_form av 7).symm.trans d7
    refine ⟨rfl, ?_⟩
    refine wp_of_call (v := .string X) (by simp [go_sem, f7]) (HD.out wv (of_drew hE)) (fun w2 hb => ⟨_, rfl, es_of_ext hb, rfl⟩)
  case s4 =>
    refine step_val (v := (.bool x)) (fun av wv hE hS hO hD => ?_) (fun _ => rfl)
    have d6 : av.eval (.tmp 6) = (.string q.prev) := hD.1 rfl _ rfl
    have f6 := (ev_form av 6).symm.trans d6
    have d8 : av.eval (.tmp 8) = (.string X) := hD.2.1 rfl _ rfl
    have f8 := (ev_form av 8).symm.trans d8
    refine ⟨rfl, ?_⟩
    simp [go_sem, f6, f8, hx]
  case s5 =>
    refine step_val (v := (.bool x)) (fun av wv hE hS hO hD => ?_) (fun _ => rfl)
    have d9 : av.eval (.tmp 9) = (.bool x) := hD.1 rfl _ rfl
    have f9 := (ev_form av 9).symm.trans d9
    refine ⟨rfl, ?_⟩
    simp [go_sem, f9, hx]
  intro a' w' hE hO hall
  have hA := act_of_outer (ds := [5, 6, 7, 8, 9, 4]) rfl hO (by kernel_rfl)
  have e5 : (fun u _ => u = (.pointer (some ⟨w.heap.size + 1, 1, none⟩))) (a'.eval (.tmp 5)) w' := hall.1 _ rfl
  have e6 : (fun u _ => u = (.string q.prev)) (a'.eval (.tmp 6)) w' := hall.2.1 _ rfl
  have e7 : (fun u _ => u = ((Hdr.val p))) (a'.eval (.tmp 7)) w' := hall.2.2.1 _ rfl
  have e8 : (fun u _ => u = (.string X)) (a'.eval (.tmp 8)) w' := hall.2.2.2.1 _ rfl
  have e9 : (fun u _ => u = (.bool x)) (a'.eval (.tmp 9)) w' := hall.2.2.2.2.1 _ rfl
  have e4 : (fun u _ => u = (.bool x)) (a'.eval (.tmp 4)) w' := hall.2.2.2.2.2.1 _ rfl
  simp only [List.foldl_cons, List.foldl_nil, Act.put, List.setIfInBounds_toArray, List.set_cons_succ, List.set_cons_zero, e5, e6, e7, e8, e9, e4] at hA
  clear hO hall e5 e6 e7 e8 e9 e4
  subst hA
  have HB2 : Hid (Below w.heap.size w w') := Lib.hid (bnext HVB.out (of_drew hE))
  clear hE c0 c1 c2 c3 d1 hx
  go_wp2
  go_ret
  exact ⟨ret_bool (by rw [HE.out]; try rfl), HB2.out⟩
end Go.Proofs.YtpobhbdomldecaaGreatDoor
namespace Go.Proofs.YtpobhbdomldecaaGreatDoor
open Go.RowKit
set_option linter.unusedSimpArgs false
set_option linter.unusedVariables false
set_option maxRecDepth 100000 in
theorem safe_frame (p q x : Value) : #[p, q] ++ ((Array.replicate 16 undef).setIfInBounds 3 x).setIfInBounds 0 x = #[p, q, x, undef, undef, x, undef, undef, undef, undef, undef, undef, undef, undef, undef, undef, undef, undef] := by
  simp [Array.replicate, List.replicate]
set_option maxRecDepth 100000 in
theorem safe_idle (p q : Value) (w : World) :
    CallsD Tryz.prog 126 #[p, q] .returning w fun e u' w' => e = .returned (.tuple #[]) ∧ u' = .returning ∧ w' = w := by
  refine callsD_of_wpS Tryz.func126 rfl fun c₀ cs hu => ?_
  apply wpS_seq
  apply wpS_region
  simp [wpOpsS, go_sem, recoverD, hu, Tryz.ntmps126, Exit.thenS]
  refine wpS_of_wp ?_
  obtain ⟨Q, hQ⟩ : ∃ Q : Exit → Act → World → Prop, (fun e a' w' => bodyPostS Tryz.prog Tryz.f126 c₀ cs (fun e u' w' => e = Ending.returned (.tuple #[]) ∧ u' = .returning ∧ w' = w) e a' (c₀ :: cs) w') = Q := ⟨_, rfl⟩
  rw [hQ, safe_frame]
  have HQ := Lib.hid hQ
  clear hQ
  go_wp2
  rw [← HQ.out]
  simp [bodyPostS, results, Tryz.results126]
  cases c₀; simp_all
theorem assert_wrong (k : Int) (w : World) : (Instr.typeAssert (.iface 154 (.agg #[.int .i64 k])) 20 154 true).run Tryz.prog w = .ok (.tuple #[.agg #[.int .i64 k], .bool true]) w := by kernel_rfl
structure Boxes (w : World) (sb eb : Nat) (s : ByteArray) (k : Int) : Prop where
  s_ : w.heap[sb]? = some (.cells #[.string s] 9 (0, 0))
  e_ : w.heap[eb]? = some (.cells #[.int .i64 k] 27 (0, 0))
set_option maxRecDepth 100000 in
set_option maxHeartbeats 1000000 in
theorem safe_some (older : List PanicEntry) (sb eb : Nat) (s : ByteArray) (k : Int) (w : World) (h : Boxes w sb eb s k) (hne : sb ≠ eb) (B : Nat) (hs : B ≤ sb) (he : B ≤ eb) (hB : B ≤ w.heap.size) :
    CallsD Tryz.prog 126 #[.pointer (some ⟨sb, 0, none⟩), .pointer (some ⟨eb, 0, none⟩)] (.panicking ({ v := .iface 154 (.agg #[.int .i64 2]), recovered := false } :: older)) w fun e u' w' =>
      e = .returned (.tuple #[]) ∧ u' = .panicking ({ v := .iface 154 (.agg #[.int .i64 2]), recovered := true } :: older) ∧ Boxes w' sb eb ⟨#[]⟩ 2 ∧ Below B w w' := by
  refine callsD_of_wpS Tryz.func126 rfl fun c₀ cs hu => ?_
  apply wpS_seq
  apply wpS_region
  simp [wpOpsS, go_sem, recoverD, hu, Tryz.ntmps126, Exit.thenS]
  refine wpS_of_wp ?_
  obtain ⟨Q, hQ⟩ : ∃ Q : Exit → Act → World → Prop, (fun e a' w' => bodyPostS Tryz.prog Tryz.f126 c₀ cs (fun e u' w' => e = Ending.returned (.tuple #[]) ∧ u' = .panicking ({ v := .iface 154 (.agg #[.int .i64 2]), recovered := true } :: older) ∧ Boxes w' sb eb ⟨#[]⟩ 2 ∧ Below B w w') e a' ({ c₀ with mode := .panicking ({ v := .iface 154 (.agg #[.int .i64 2]), recovered := true } :: older) } :: cs) w') = Q := ⟨_, rfl⟩
  rw [hQ, safe_frame]
  have HQ := Lib.hid hQ
  have HX := Lib.hid h
  have ha := assert_wrong 2
  clear hQ hu h
  go_upto_region 5 with fail
  obtain ⟨V, hV⟩ : ∃ V, w.alloc (.cells #[.int .i64 2] 154) = V := ⟨_, rfl⟩
  obtain ⟨xb, hxb⟩ : ∃ xb, w.heap.size = xb := ⟨_, rfl⟩
  have HBV : Hid (Below w.heap.size w V) := Lib.hid (by rw [← hV]; exact balloc (Below.refl _ _) _)
  have HVS := Lib.hid ((HBV.out.block _ (lt_of_block HX.out.s_)).trans HX.out.s_)
  have HVE := Lib.hid ((HBV.out.block _ (lt_of_block HX.out.e_)).trans HX.out.e_)
  have HXB : Hid (V.heap[xb]? = some (.cells #[.int .i64 2] 154 (0, 0))) := Lib.hid (by rw [← hV, ← hxb]; exact heap_alloc_new _ _)
  have n1 : sb ≠ xb := by have := lt_of_block HX.out.s_; omega
  have n2 : eb ≠ xb := by have := lt_of_block HX.out.e_; omega
  have cx : V.cell? ⟨xb, 0, none⟩ = some (.int .i64 2) := block_cell HXB.out 0
  have cs : V.cell? ⟨sb, 0, none⟩ = some (.string s) := block_cell HVS.out 0
  have ce : V.cell? ⟨eb, 0, none⟩ = some (.int .i64 k) := block_cell HVE.out 0
  have fs : V.frozen? ⟨sb, 0, none⟩ = false := block_free HVS.out 0
  have fe : V.frozen? ⟨eb, 0, none⟩ = false := block_free HVE.out 0
  have HBB : Hid (Below B w V) := Lib.hid (HBV.out.mono (by omega))
  rw [hV, hxb]
  clear hV hxb ha
  go_region
  rw [← HQ.out]
  exact ⟨rfl, _, rfl, .tuple #[], by simp [results, Tryz.results126], rfl, rfl, ⟨block_setCell_ne (block_setCell HVS.out _) hne _, block_setCell (block_setCell_ne HVE.out (fun e => hne e.symm) _) _⟩, ((HBB.out.setCell hs _).setCell he _).drew⟩
set_option maxRecDepth 100000 in
set_option maxHeartbeats 1000000 in
theorem safely_yes (F : FuncId) (C : Array Value) (s : ByteArray) (w : World) (eg : ∀ args w, (callFunc F args).run Tryz.prog w = .ok (.enter F args) w) (h : ∀ w', Below w.heap.size w w' → Calls Tryz.prog F C w' fun e w'' => e = .returned (.string s) ∧ Below w'.heap.size w' w'') :
    Calls Tryz.prog 67 #[.func (.func F) #[] C] w fun e w' => e = .returned (.tuple #[.string s, .int .i64 0]) ∧ Below w.heap.size w w' := by
  have HF := Lib.hid h
  clear h
  go_enter_defers Tryz.func67, Tryz.ntmps67
  go_wp2_with fail
  obtain ⟨V, hV⟩ : ∃ V, (w.alloc (.cells #[.string ⟨#[]⟩] 9)).alloc (.cells #[.int .i64 0] 27) = V := ⟨_, rfl⟩
  have HBV : Hid (Below w.heap.size w V) := Lib.hid (by rw [← hV]; (repeat (first | exact Below.refl _ _ | assumption | (refine bdrew ?_) | (refine bdrewN ?_ _) | (refine balloc ?_ _) | (refine bset ?_ (by first | omega | (simp; done) | (simp; omega)) _) | (refine bnext ?_ (by assumption)))))
  have HV0 : Hid (V.heap[w.heap.size]? = some (.cells #[.string ⟨#[]⟩] 9 (0, 0))) := Lib.hid (by rw [← hV]; (repeat (first | exact alloc_new_at _ (by repeat (first | rfl | refine alloc_size _ ?_)) | refine block_alloc ?_ _)))
  have HV1 : Hid (V.heap[w.heap.size + 1]? = some (.cells #[.int .i64 0] 27 (0, 0))) := Lib.hid (by rw [← hV]; (repeat (first | exact alloc_new_at _ (by repeat (first | rfl | refine alloc_size _ ?_)) | refine block_alloc ?_ _)))
  rw [hV]
  clear hV
  refine (HF.out V HBV.out).mono ?_
  rintro e w1 ⟨rfl, hb⟩
  have HB : Hid (Below w.heap.size w w1) := Lib.hid (bnext HBV.out hb)
  have HW0 := Lib.hid ((hb.block _ (lt_of_block HV0.out)).trans HV0.out)
  have HW1 := Lib.hid ((hb.block _ (lt_of_block HV1.out)).trans HV1.out)
  have c0 : w1.cell? ⟨w.heap.size, 0, none⟩ = some (.string ⟨#[]⟩) := block_cell HW0.out 0
  have c1 : w1.cell? ⟨w.heap.size + 1, 0, none⟩ = some (.int .i64 0) := block_cell HW1.out 0
  have f0 : w1.frozen? ⟨w.heap.size, 0, none⟩ = false := block_free HW0.out 0
  have f1 : w1.frozen? ⟨w.heap.size + 1, 0, none⟩ = false := block_free HW1.out 0
  clear hb
  go_wp2
  obtain ⟨X, hX⟩ : ∃ X, (w1.setCell ⟨w.heap.size, 0, none⟩ (.string s)).setCell ⟨w.heap.size + 1, 0, none⟩ (.int .i64 0) = X := ⟨_, rfl⟩
  have HX0 : Hid (X.heap[w.heap.size]? = some (.cells #[.string s] 9 (0, 0))) := Lib.hid (by rw [← hX]; exact block_setCell_ne (block_setCell HW0.out _) (by simp) _)
  have HX1 : Hid (X.heap[w.heap.size + 1]? = some (.cells #[.int .i64 0] 27 (0, 0))) := Lib.hid (by rw [← hX]; exact block_setCell (block_setCell_ne HW1.out (by simp) _) _)
  have HXB : Hid (Below w.heap.size w X) := Lib.hid (by rw [← hX]; exact bset (bset HB.out (Nat.le_refl _) _) (by simp) _)
  rw [hX]
  clear hX
  refine leaves_cons (f := 126) (args := #[.pointer (some ⟨w.heap.size, 0, none⟩), .pointer (some ⟨w.heap.size + 1, 0, none⟩)]) (by simp) (by simp [go_sem]) ?_
  refine (safe_idle (.pointer (some ⟨w.heap.size, 0, none⟩)) (.pointer (some ⟨w.heap.size + 1, 0, none⟩)) _).mono ?_
  rintro e u' w'' ⟨rfl, rfl, rfl⟩
  have x0 : w''.cell? ⟨w.heap.size, 0, none⟩ = some (.string s) := block_cell HX0.out 0
  have x1 : w''.cell? ⟨w.heap.size + 1, 0, none⟩ = some (.int .i64 0) := block_cell HX1.out 0
  exact ⟨_, by simp [results, Tryz.results67, go_sem, x0, x1], rfl, HXB.out⟩
set_option maxRecDepth 100000 in
set_option maxHeartbeats 1000000 in
theorem safely_no (F : FuncId) (C : Array Value) (w : World) (eg : ∀ args w, (callFunc F args).run Tryz.prog w = .ok (.enter F args) w) (h : ∀ w', Below w.heap.size w w' → Calls Tryz.prog F C w' fun e w'' => e = .panicked wrongC ∧ Below w'.heap.size w' w'') :
    Calls Tryz.prog 67 #[.func (.func F) #[] C] w fun e w' => e = .returned (.tuple #[.string ⟨#[]⟩, .int .i64 2]) ∧ Below w.heap.size w w' := by
  have HF := Lib.hid h
  clear h
  go_enter_defers Tryz.func67, Tryz.ntmps67
  go_wp2_with fail
  obtain ⟨V, hV⟩ : ∃ V, (w.alloc (.cells #[.string ⟨#[]⟩] 9)).alloc (.cells #[.int .i64 0] 27) = V := ⟨_, rfl⟩
  have HBV : Hid (Below w.heap.size w V) := Lib.hid (by rw [← hV]; (repeat (first | exact Below.refl _ _ | assumption | (refine bdrew ?_) | (refine bdrewN ?_ _) | (refine balloc ?_ _) | (refine bset ?_ (by first | omega | (simp; done) | (simp; omega)) _) | (refine bnext ?_ (by assumption)))))
  have HV0 : Hid (V.heap[w.heap.size]? = some (.cells #[.string ⟨#[]⟩] 9 (0, 0))) := Lib.hid (by rw [← hV]; (repeat (first | exact alloc_new_at _ (by repeat (first | rfl | refine alloc_size _ ?_)) | refine block_alloc ?_ _)))
  have HV1 : Hid (V.heap[w.heap.size + 1]? = some (.cells #[.int .i64 0] 27 (0, 0))) := Lib.hid (by rw [← hV]; (repeat (first | exact alloc_new_at _ (by repeat (first | rfl | refine alloc_size _ ?_)) | refine block_alloc ?_ _)))
  rw [hV]
  clear hV
  refine (HF.out V HBV.out).mono ?_
  rintro e w1 ⟨rfl, hb⟩
  have HB : Hid (Below w.heap.size w w1) := Lib.hid (bnext HBV.out hb)
  have HW0 := Lib.hid ((hb.block _ (lt_of_block HV0.out)).trans HV0.out)
  have HW1 := Lib.hid ((hb.block _ (lt_of_block HV1.out)).trans HV1.out)
  clear hb
  go_wp2
  refine leaves_cons (f := 126) (args := #[.pointer (some ⟨w.heap.size, 0, none⟩), .pointer (some ⟨w.heap.size + 1, 0, none⟩)]) (by simp) (by simp [go_sem]) ?_
  refine (safe_some [] w.heap.size (w.heap.size + 1) ⟨#[]⟩ 0 w1 ⟨HW0.out, HW1.out⟩ (by simp) w.heap.size (Nat.le_refl _) (by simp) HB.out.size).mono ?_
  rintro e u' w'' ⟨rfl, rfl, hx, hb⟩
  have x0 : w''.cell? ⟨w.heap.size, 0, none⟩ = some (.string ⟨#[]⟩) := block_cell hx.s_ 0
  have x1 : w''.cell? ⟨w.heap.size + 1, 0, none⟩ = some (.int .i64 2) := block_cell hx.e_ 0
  exact ⟨_, by simp [results, Tryz.results67, go_sem, x0, x1], rfl, HB.out.trans hb⟩
end Go.Proofs.YtpobhbdomldecaaGreatDoor
namespace Go.Proofs.YtpobhbdomldecaaGreatDoor
open Go.RowKit
set_option linter.unusedSimpArgs false
set_option linter.unusedVariables false
set_option maxRecDepth 100000 in
theorem digest1_yes (B : Nat) (r : Hdr) (xb : Nat) (w : World) (ht : PT B w) (ho : r.Ok) (h : hOk r = true) (hx : w.heap[xb]? = some (.cells #[.int .u64 r.rnd, .string r.prev, .string r.txns, .string r.seed] 33 (0, 0))) :
    Calls Tryz.prog 79 #[.pointer (some ⟨xb, 0, none⟩)] w fun e w' => e = .returned (.string (hdg r)) ∧ Below w.heap.size w w' := by
  have HW := Lib.hid (digest_yes B r w ht ho h)
  have c : ∀ o, w.cell? ⟨xb, o, none⟩ = _ := block_cell hx
  clear ht ho h hx
  go_enter Tryz.func79, Tryz.ntmps79
  go_wp2_with fail
  refine HW.out.mono ?_
  rintro e w1 ⟨rfl, hb⟩
  have HB := Lib.hid hb
  clear hb c
  go_wp2
  go_ret
  exact ⟨rfl, HB.out⟩
set_option maxRecDepth 100000 in
theorem digest1_no (B : Nat) (r : Hdr) (xb : Nat) (w : World) (ht : PT B w) (ho : r.Ok) (h : hOk r = false) (hx : w.heap[xb]? = some (.cells #[.int .u64 r.rnd, .string r.prev, .string r.txns, .string r.seed] 33 (0, 0))) :
    Calls Tryz.prog 79 #[.pointer (some ⟨xb, 0, none⟩)] w fun e w' => e = .panicked wrongC ∧ Below w.heap.size w w' := by
  have HW := Lib.hid (digest_no B r w ht ho h)
  have c : ∀ o, w.cell? ⟨xb, o, none⟩ = _ := block_cell hx
  clear ht ho h hx
  go_enter Tryz.func79, Tryz.ntmps79
  go_wp2_with fail
  refine HW.out.mono ?_
  rintro e w1 ⟨rfl, hb⟩
  have HB := Lib.hid hb
  clear hb c
  go_wp2
  exact ⟨rfl, rfl, HB.out⟩
set_option maxRecDepth 100000 in
theorem hdig_any (B : Nat) (r : Hdr) (w : World) (ht : PT B w) (ho : r.Ok) : Calls Tryz.prog 21 #[r.val] w (DgIs r w) := by
  have HT := Lib.hid ht
  have HO := Lib.hid ho
  clear ht ho
  by_cases h : hOk r = true
  · have HE : Hid (dgS r = hdg r ∧ dgE r = 0) := Lib.hid ⟨if_pos h, if_pos h⟩
    go_enter Tryz.func21, Tryz.ntmps21
    go_wp2_with fail
    refine (safely_yes 79 #[.pointer (some ⟨w.heap.size, 0, none⟩)] (hdg r) _ (fun _ _ => rfl) (fun w' hb => digest1_yes B r w.heap.size w' ((HT.out.below (balloc (Below.refl _ _) _)).below hb) HO.out h ((hb.block _ (by simp)).trans (heap_alloc_new _ _)))).mono ?_
    rintro e w1 ⟨rfl, hb⟩
    have HB : Hid (Below w.heap.size w w1) := Lib.hid (bnext (balloc (Below.refl _ _) _) hb)
    clear hb
    go_wp2
    go_ret2
    exact ⟨by rw [HE.out.1, HE.out.2]; rfl, HB.out⟩
  · have h : hOk r = false := by simpa using h
    have HE : Hid (dgS r = ⟨#[]⟩ ∧ dgE r = 2) := Lib.hid ⟨if_neg (by rw [h]; decide), if_neg (by rw [h]; decide)⟩
    go_enter Tryz.func21, Tryz.ntmps21
    go_wp2_with fail
    refine (safely_no 79 #[.pointer (some ⟨w.heap.size, 0, none⟩)] _ (fun _ _ => rfl) (fun w' hb => digest1_no B r w.heap.size w' ((HT.out.below (balloc (Below.refl _ _) _)).below hb) HO.out h ((hb.block _ (by simp)).trans (heap_alloc_new _ _)))).mono ?_
    rintro e w1 ⟨rfl, hb⟩
    have HB : Hid (Below w.heap.size w w1) := Lib.hid (bnext (balloc (Below.refl _ _) _) hb)
    clear hb
    go_wp2
    go_ret2
    exact ⟨by rw [HE.out.1, HE.out.2]; rfl, HB.out⟩
def BoxL (w : World) (xb : Nat) (a : Option Addr) (n cap : Nat) : Prop := w.heap[xb]? = some (.cells #[.slice a n cap] 22 (0, 0))
theorem BoxL.below {w w' : World} {xb : Nat} {a : Option Addr} {n cap : Nat} (h : BoxL w xb a n cap) (hb : Below w.heap.size w w') : BoxL w' xb a n cap := (hb.block _ (lt_of_block h)).trans h
set_option maxRecDepth 100000 in
theorem root1_yes (B : Nat) (l : List Hdr) (a : Option Addr) (cap xb : Nat) (w : World) (ht : PT B w) (hc : Hdrs w a l) (ho : ∀ i, (hnth l i).Ok) (hn : len l ≤ 100000) (h : elOk l = true) (hx : BoxL w xb a (len l) cap) :
    Calls Tryz.prog 68 #[.pointer (some ⟨xb, 0, none⟩)] w fun e w' => e = .returned (.string (hroot l)) ∧ Below w.heap.size w w' := by
  have HW := Lib.hid (elements_yes B l a cap w ht hc ho hn h)
  have HS := Lib.hid (elL_size h)
  have HL : Hid (len (elL l) ≤ 65536) := Lib.hid (by rw [elL_len]; have := (elOk_at h).2.1; omega)
  have c0 : w.cell? ⟨xb, 0, none⟩ = some (.slice a (len l) cap) := block_cell hx 0
  clear ht ho h hx hn hc
  go_enter Tryz.func68, Tryz.ntmps68
  go_wp2_with fail
  refine HW.out.mono ?_
  rintro e w1 ⟨v, rfl, ⟨a1, c1, rfl, hx, _, _⟩, hb⟩
  have HB := Lib.hid hb
  have HX := Lib.hid hx
  clear hb c0 hx
  go_wp2_with fail
  refine (hrootT_any (elL l) a1 c1 w1 HX.out HL.out (fun i hi => Nat.le_trans (HS.out i hi) (by decide))).mono ?_
  rintro e w2 ⟨rfl, hb⟩
  have HB := Lib.hid (bnext HB.out hb)
  clear hb
  go_wp2
  go_ret
  exact ⟨rfl, HB.out⟩
set_option maxRecDepth 100000 in
theorem root1_no (B : Nat) (l : List Hdr) (a : Option Addr) (cap xb : Nat) (w : World) (ht : PT B w) (hc : Hdrs w a l) (ho : ∀ i, (hnth l i).Ok) (hn : len l ≤ 100000) (h : elOk l = false) (hx : BoxL w xb a (len l) cap) :
    Calls Tryz.prog 68 #[.pointer (some ⟨xb, 0, none⟩)] w fun e w' => e = .panicked wrongC ∧ Below w.heap.size w w' := by
  have HW := Lib.hid (elements_no B l a cap w ht hc ho hn h)
  have c0 : w.cell? ⟨xb, 0, none⟩ = some (.slice a (len l) cap) := block_cell hx 0
  clear ht ho h hx hn hc
  go_enter Tryz.func68, Tryz.ntmps68
  go_wp2_with fail
  refine HW.out.mono ?_
  rintro e w1 ⟨rfl, hb⟩
  have HB := Lib.hid hb
  clear hb c0
  go_wp2
  exact ⟨rfl, rfl, HB.out⟩
set_option maxRecDepth 100000 in
theorem hroot_any (B : Nat) (l : List Hdr) (a : Option Addr) (cap : Nat) (w : World) (ht : PT B w) (hc : Hdrs w a l) (ho : ∀ i, (hnth l i).Ok) (hn : len l ≤ 100000) : Calls Tryz.prog 17 #[.slice a (len l) cap] w (RtIs l w) := by
  have HT := Lib.hid ht
  have HO := Lib.hid ho
  have HC := Lib.hid hc
  have HN := Lib.hid hn
  clear ht ho hc hn
  by_cases h : elOk l = true
  · have HE : Hid (rtS l = hroot l ∧ rtE l = 0) := Lib.hid ⟨if_pos h, if_pos h⟩
    go_enter Tryz.func17, Tryz.ntmps17
    go_wp2_with fail
    refine (safely_yes 68 #[.pointer (some ⟨w.heap.size, 0, none⟩)] (hroot l) _ (fun _ _ => rfl) (fun w' hb => root1_yes B l a cap w.heap.size w' ((HT.out.below (balloc (Below.refl _ _) _)).below hb) ((HC.out.below (balloc (Below.refl _ _) _)).below hb) HO.out HN.out h ((hb.block _ (by simp)).trans (heap_alloc_new _ _)))).mono ?_
    rintro e w1 ⟨rfl, hb⟩
    have HB : Hid (Below w.heap.size w w1) := Lib.hid (bnext (balloc (Below.refl _ _) _) hb)
    clear hb
    go_wp2
    go_ret2
    exact ⟨by rw [HE.out.1, HE.out.2]; rfl, HB.out⟩
  · have h : elOk l = false := by simpa using h
    have HE : Hid (rtS l = ⟨#[]⟩ ∧ rtE l = 2) := Lib.hid ⟨if_neg (by rw [h]; decide), if_neg (by rw [h]; decide)⟩
    go_enter Tryz.func17, Tryz.ntmps17
    go_wp2_with fail
    refine (safely_no 68 #[.pointer (some ⟨w.heap.size, 0, none⟩)] _ (fun _ _ => rfl) (fun w' hb => root1_no B l a cap w.heap.size w' ((HT.out.below (balloc (Below.refl _ _) _)).below hb) ((HC.out.below (balloc (Below.refl _ _) _)).below hb) HO.out HN.out h ((hb.block _ (by simp)).trans (heap_alloc_new _ _)))).mono ?_
    rintro e w1 ⟨rfl, hb⟩
    have HB : Hid (Below w.heap.size w w1) := Lib.hid (bnext (balloc (Below.refl _ _) _) hb)
    clear hb
    go_wp2
    go_ret2
    exact ⟨by rw [HE.out.1, HE.out.2]; rfl, HB.out⟩
set_option maxRecDepth 100000 in
theorem link1_any (B : Nat) (l : List Hdr) (a : Option Addr) (cap xb : Nat) (w : World) (ht : PT B w) (hc : Hdrs w a l) (ho : ∀ i, (hnth l i).Ok) (hn : len l ≤ 100000) (hx : BoxL w xb a (len l) cap) :
    Calls Tryz.prog 74 #[.pointer (some ⟨xb, 0, none⟩)] w fun e w' => (linkedH l = true ∧ e = .returned (.string ⟨#[]⟩) ∨ linkedH l = false ∧ e = .panicked wrongC) ∧ Below w.heap.size w w' := by
  have HT := Lib.hid ht
  have HC := Lib.hid hc
  have HO := Lib.hid ho
  have HN := Lib.hid hn
  have HX := Lib.hid hx
  have HE := Lib.hid (elements_any B l a cap w ht hc ho hn)
  have c0 : w.cell? ⟨xb, 0, none⟩ = some (.slice a (len l) cap) := block_cell hx 0
  clear ht hc ho hn hx
  go_enter Tryz.func74, Tryz.ntmps74
  go_wp2_with fail
  refine HE.out.mono ?_
  rintro e w1 ⟨hb, hh⟩
  have HB := Lib.hid hb
  rcases hh with ⟨hel, v, rfl, -⟩ | ⟨hel, rfl⟩
  · have HEL := Lib.hid hel
    have c1 : w1.cell? ⟨xb, 0, none⟩ = some (.slice a (len l) cap) := block_cell (HX.out.below hb) 0
    clear hb hel c0
    go_wp2_with fail
    refine (follow_any 77 #[] hangH a cap l w1 HN.out (HC.out.below HB.out) (fun _ _ => rfl) (fun i h0 h1 w9 hb => hang_any B _ _ w9 ((HT.out.below HB.out).below hb) (HO.out _) (HO.out _) (laysH_at (elOk_at HEL.out).2.2.2 (by omega)))).mono ?_
    rintro e w2 ⟨rfl, hb⟩
    have HB2 : Hid (Below w.heap.size w w2) := Lib.hid (bnext HB.out hb)
    clear hb c1
    cases hf : followH hangH l with
    | false =>
      have HL : Hid (linkedH l = false) := Lib.hid (by unfold linkedH; rw [hf]; simp)
      clear hf
      go_wp2_with fail
      refine (hmust_no _).mono ?_
      rintro e w3 ⟨rfl, rfl⟩
      go_wp2
      exact ⟨rfl, .inr ⟨HL.out, rfl⟩, HB2.out⟩
    | true =>
      have HL : Hid (linkedH l = true) := Lib.hid (by unfold linkedH; rw [hf, HEL.out]; rfl)
      clear hf
      go_wp2_with fail
      refine (hmust_yes _).mono ?_
      rintro e w3 ⟨rfl, rfl⟩
      go_wp2
      go_ret
      exact ⟨.inl ⟨HL.out, rfl⟩, HB2.out⟩
  · have HL : Hid (linkedH l = false) := Lib.hid (by unfold linkedH; rw [hel]; rfl)
    clear hb hel c0
    go_wp2
    exact ⟨rfl, .inr ⟨HL.out, rfl⟩, HB.out⟩
set_option maxRecDepth 100000 in
theorem hlinked_any (B : Nat) (l : List Hdr) (a : Option Addr) (cap : Nat) (w : World) (ht : PT B w) (hc : Hdrs w a l) (ho : ∀ i, (hnth l i).Ok) (hn : len l ≤ 100000) :
    Calls Tryz.prog 19 #[.slice a (len l) cap] w fun e w' => e = .returned (.bool (linkedH l)) ∧ Below w.heap.size w w' := by
  have H1 := Lib.hid (fun w' (hb : Below (w.alloc (.cells #[.slice a (len l) cap] 22)).heap.size (w.alloc (.cells #[.slice a (len l) cap] 22)) w') => link1_any B l a cap w.heap.size w' ((ht.below (balloc (Below.refl _ _) _)).below hb) ((hc.below (balloc (Below.refl _ _) _)).below hb) ho hn ((hb.block _ (by simp)).trans (heap_alloc_new _ _)))
  clear ht hc ho hn
  cases hl : linkedH l with
  | true =>
    go_enter Tryz.func19, Tryz.ntmps19
    go_wp2_with fail
    refine (safely_yes 74 #[.pointer (some ⟨w.heap.size, 0, none⟩)] ⟨#[]⟩ _ (fun _ _ => rfl) (fun w' hb => (H1.out w' hb).mono (fun e w2 hh => ⟨hh.1.elim (fun h => h.2) (fun h => absurd h.1 (by rw [hl]; decide)), hh.2⟩))).mono ?_
    rintro e w1 ⟨rfl, hb⟩
    have HB : Hid (Below w.heap.size w w1) := Lib.hid (bnext (balloc (Below.refl _ _) _) hb)
    clear hb hl
    go_wp2
    go_ret
    exact ⟨rfl, HB.out⟩
  | false =>
    go_enter Tryz.func19, Tryz.ntmps19
    go_wp2_with fail
    refine (safely_no 74 #[.pointer (some ⟨w.heap.size, 0, none⟩)] _ (fun _ _ => rfl) (fun w' hb => (H1.out w' hb).mono (fun e w2 hh => ⟨hh.1.elim (fun h => absurd h.1 (by rw [hl]; decide)) (fun h => h.2), hh.2⟩))).mono ?_
    rintro e w1 ⟨rfl, hb⟩
    have HB : Hid (Below w.heap.size w w1) := Lib.hid (bnext (balloc (Below.refl _ _) _) hb)
    clear hb hl
    go_wp2
    go_ret
    exact ⟨rfl, HB.out⟩
def BoxT (w : World) (xb : Nat) (a : Option Addr) (n cap : Nat) : Prop := w.heap[xb]? = some (.cells #[.slice a n cap] 36 (0, 0))
theorem BoxT.below {w w' : World} {xb : Nat} {a : Option Addr} {n cap : Nat} (h : BoxT w xb a n cap) (hb : Below w.heap.size w w') : BoxT w' xb a n cap := (hb.block _ (lt_of_block h)).trans h
theorem bods_no {l : List ByteArray} {m : Nat} (hm : m < len l) (h : ¬ (0 < (tth l m).size ∧ (tth l m).size ≤ 64)) : bodsOk l = false := by
  unfold bodsOk
  have : (l.all fun s => decide (0 < s.size) && decide (s.size ≤ 64)) = false := by
    rw [List.all_eq_false]
    refine ⟨tth l m, by rw [tth_eq l m hm]; exact List.getElem_mem hm, ?_⟩
    simp only [Bool.and_eq_true, decide_eq_true_eq]
    exact h
  rw [this]; simp
theorem bods_yes {l : List ByteArray} (hn : len l ≤ 64) (h : ∀ m, m < len l → 0 < (tth l m).size ∧ (tth l m).size ≤ 64) : bodsOk l = true := by
  unfold bodsOk
  rw [decide_eq_true hn, Bool.true_and, List.all_eq_true]
  intro x hx
  obtain ⟨i, hi, rfl⟩ := List.getElem_of_mem hx
  have := h i hi
  rw [tth_eq l i hi] at this
  simp [this.1, this.2]
set_option maxRecDepth 100000 in
set_option maxHeartbeats 4000000 in
theorem txns1_any (l : List ByteArray) (a : Option Addr) (cap xb : Nat) (w : World) (hn : len l ≤ 65536) (hc : Txts w a l) (hz : ∀ i, i < len l → (tth l i).size ≤ 1000000) (hx : BoxT w xb a (len l) cap) :
    Calls Tryz.prog 82 #[.pointer (some ⟨xb, 0, none⟩)] w fun e w' => (bodsOk l = true ∧ e = .returned (.string (treeR l)) ∨ bodsOk l = false ∧ e = .panicked wrongC) ∧ Below w.heap.size w w' := by
  have HC := Lib.hid hc
  have HN := Lib.hid hn
  have HZ := Lib.hid hz
  have c0 : w.cell? ⟨xb, 0, none⟩ = some (.slice a (len l) cap) := block_cell hx 0
  have HCX := Lib.hid c0
  clear hc hz hn hx
  by_cases h64 : len l ≤ 64
  · have c1 : (len l : Int) ≤ 64 := by omega
    have H64 := Lib.hid h64
    go_enter Tryz.func82, Tryz.ntmps82
    go_wp2_with fail
    refine (hmust_yes _).mono ?_
    rintro e w1 ⟨rfl, rfl⟩
    go_wp2
    go_loopg [10] (len l) (fun gg i wr => ∃ m : Nat, gg + m = len l ∧ i = .int .i64 (m : Nat) ∧ wr = w ∧ Hid (∀ j, j < m → 0 < (tth l j).size ∧ (tth l j).size ≤ 64))
    case atStart => exact ⟨0, rfl, rfl, rfl, Lib.hid (fun j hj => by omega)⟩
    case round =>
      obtain ⟨m, hm, rfl, rfl, HI⟩ := hrel
      by_cases hlt : m < len l
      · obtain ⟨b, off, rfl, e0⟩ := HC.out m hlt
        have hz := HZ.out m hlt
        have HLT := Lib.hid hlt
        obtain ⟨s, hs⟩ : ∃ s, tth l m = s := ⟨_, rfl⟩
        rw [hs] at e0 hz
        have HS := Lib.hid hs
        have b0 : (m : Int) < len l := by omega
        clear hs
        by_cases q1 : 0 < s.size ∧ s.size ≤ 64
        · have HG := Lib.hid q1
          have q2 : 0 < s.size := q1.1
          have q3 : (s.size : Int) ≤ 64 := by omega
          have HNN := HN.out
          clear q1
          go_wp2_with fail
          refine (hmust_yes _).mono ?_
          rintro e w1 ⟨rfl, rfl⟩
          clear q2 q3
          go_wp2
          go_roundg (gk - 1)
          case rel => exact ⟨m + 1, by omega, by go_num, rfl, Lib.hid (fun j hj => by
            by_cases e : j = m
            · subst e; rw [HS.out]; exact HG.out
            · exact HI.out j (by omega))⟩
          case measure => omega
        · have HNO : Hid (bodsOk l = false) := Lib.hid (bods_no HLT.out (by rw [HS.out]; exact q1))
          by_cases q2 : 0 < s.size
          · have q3 : ¬ (s.size : Int) ≤ 64 := by omega
            clear q1
            go_wp2_with fail
            refine (hmust_no _).mono ?_
            rintro e w1 ⟨rfl, rfl⟩
            go_wp2
            exact ⟨rfl, .inr ⟨HNO.out, rfl⟩, Below.refl _ _⟩
          · clear q1
            go_wp2_with fail
            refine (hmust_no _).mono ?_
            rintro e w1 ⟨rfl, rfl⟩
            go_wp2
            exact ⟨rfl, .inr ⟨HNO.out, rfl⟩, Below.refl _ _⟩
      · have b0 : ¬ (m : Int) < len l := by omega
        have HYE : Hid (bodsOk l = true) := Lib.hid (bods_yes H64.out (fun j hj => HI.out j (by omega)))
        go_wp2_with fail
        refine (hrootT_any l a cap _ HC.out HN.out (fun i hi => Nat.le_trans (HZ.out i hi) (by decide))).mono ?_
        rintro e w2 ⟨rfl, hb⟩
        have HB := Lib.hid hb
        clear hb
        go_wp2
        go_ret
        exact ⟨.inl ⟨HYE.out, rfl⟩, HB.out⟩
  · have c1 : ¬ (len l : Int) ≤ 64 := by omega
    have HNO : Hid (bodsOk l = false) := Lib.hid (by unfold bodsOk; rw [decide_eq_false h64]; rfl)
    go_enter Tryz.func82, Tryz.ntmps82
    go_wp2_with fail
    refine (hmust_no _).mono ?_
    rintro e w1 ⟨rfl, rfl⟩
    go_wp2
    exact ⟨rfl, .inr ⟨HNO.out, rfl⟩, Below.refl _ _⟩
set_option maxRecDepth 100000 in
theorem htxns_any (l : List ByteArray) (a : Option Addr) (cap : Nat) (w : World) (hn : len l ≤ 65536) (hc : Txts w a l) (hz : ∀ i, i < len l → (tth l i).size ≤ 1000000) :
    Calls Tryz.prog 24 #[.slice a (len l) cap] w (TxIs l w) := by
  have H1 := Lib.hid (fun w' (hb : Below (w.alloc (.cells #[.slice a (len l) cap] 36)).heap.size (w.alloc (.cells #[.slice a (len l) cap] 36)) w') => txns1_any l a cap w.heap.size w' hn ((hc.below (balloc (Below.refl _ _) _)).below hb) hz ((hb.block _ (by simp)).trans (heap_alloc_new _ _)))
  clear hc hz hn
  cases hl : bodsOk l with
  | true =>
    have HE : Hid (txS l = treeR l ∧ txE l = 0) := Lib.hid ⟨if_pos hl, if_pos hl⟩
    go_enter Tryz.func24, Tryz.ntmps24
    go_wp2_with fail
    refine (safely_yes 82 #[.pointer (some ⟨w.heap.size, 0, none⟩)] (treeR l) _ (fun _ _ => rfl) (fun w' hb => (H1.out w' hb).mono (fun e w2 hh => ⟨hh.1.elim (fun h => h.2) (fun h => absurd h.1 (by rw [hl]; decide)), hh.2⟩))).mono ?_
    rintro e w1 ⟨rfl, hb⟩
    have HB : Hid (Below w.heap.size w w1) := Lib.hid (bnext (balloc (Below.refl _ _) _) hb)
    clear hb hl
    go_wp2
    go_ret2
    exact ⟨by rw [HE.out.1, HE.out.2]; rfl, HB.out⟩
  | false =>
    have HE : Hid (txS l = ⟨#[]⟩ ∧ txE l = 2) := Lib.hid ⟨if_neg (by rw [hl]; decide), if_neg (by rw [hl]; decide)⟩
    go_enter Tryz.func24, Tryz.ntmps24
    go_wp2_with fail
    refine (safely_no 82 #[.pointer (some ⟨w.heap.size, 0, none⟩)] _ (fun _ _ => rfl) (fun w' hb => (H1.out w' hb).mono (fun e w2 hh => ⟨hh.1.elim (fun h => absurd h.1 (by rw [hl]; decide)) (fun h => h.2), hh.2⟩))).mono ?_
    rintro e w1 ⟨rfl, hb⟩
    have HB : Hid (Below w.heap.size w w1) := Lib.hid (bnext (balloc (Below.refl _ _) _) hb)
    clear hb hl
    go_wp2
    go_ret2
    exact ⟨by rw [HE.out.1, HE.out.2]; rfl, HB.out⟩
end Go.Proofs.YtpobhbdomldecaaGreatDoor
namespace Go.Proofs.YtpobhbdomldecaaGreatDoor
open Go.RowKit
set_option linter.unusedSimpArgs false
set_option linter.unusedVariables false
theorem txts_take {w : World} {a : Option Addr} {l : List ByteArray} (h : Txts w a l) (m : Nat) : Txts w a (l.take m) := fun i hi => by
  have h2 : i < (l.take m).length := hi
  have h3 : i < m ∧ i < l.length := by rw [List.length_take] at h2; omega
  obtain ⟨b, off, e1, e2⟩ := h i h3.2
  refine ⟨b, off, e1, ?_⟩
  rw [e2, tth_eq l i h3.2, tth_eq _ i h2, List.getElem_take]
def Apart (u v : Value) : Prop := ∀ k, u.ownBlock = some k → v.ownBlock ≠ some k
theorem Apart.symm {u v : Value} (h : Apart u v) : Apart v u := fun k h1 h2 => h k h2 h1
theorem Apart.keep {w w1 : World} {u v : Value} {base e size n : Nat} {xs : List Value} (h : Apart u v) (ho : w.ownsRow base e size u n xs) (hg : w.grownBy w1 v.ownBlock) : w1.ownsRow base e size u n xs :=
  ho.kept hg (by
    cases hp : Value.ownBlock u with
    | none => exact .inl rfl
    | some k => exact .inr (fun e => h k hp e.symm))
end Go.Proofs.YtpobhbdomldecaaGreatDoor
namespace Go.Proofs.YtpobhbdomldecaaGreatDoor
open Go.RowKit
set_option linter.unusedSimpArgs false
set_option linter.unusedVariables false
def Ref9At (els : List ByteArray) (b : Nat) (w : World) : Prop := ∃ a c, w.heap[b]? = some (.cells #[.slice a (len els) c] 157 (0, 0)) ∧ Txts w a els
theorem Ref9At.below {els : List ByteArray} {b : Nat} {w w' : World} (h : Ref9At els b w) (hb : Below w.heap.size w w') : Ref9At els b w' := by
  obtain ⟨a, c, h1, h2⟩ := h
  exact ⟨a, c, (hb.block _ (lt_of_block h1)).trans h1, h2.below hb⟩
end Go.Proofs.YtpobhbdomldecaaGreatDoor
namespace Go.Proofs.YtpobhbdomldecaaGreatDoor
open Go.RowKit
set_option linter.unusedSimpArgs false
set_option linter.unusedVariables false
theorem step_no {l : List Hdr} {m : Nat} (hm : m + 1 < len l) (h : stepH (hnth l m) (hnth l (m + 1)) = false) : elOk l = false := by
  have := followH_no (R := stepH) hm (by omega) h
  unfold elOk
  rw [this]
  simp
theorem lay_no {l : List Hdr} {m : Nat} (hm : m < len l) (h : hOk (hnth l m) = false) : elOk l = false := by
  unfold elOk
  rw [laysH_no hm h]
  simp
theorem bod_yes {l : List ByteArray} (hn : len l ≤ 64) (h : ∀ m, m < len l → 0 < (tth l m).size ∧ (tth l m).size ≤ 64) : bodsOk l = true := by
  unfold bodsOk
  rw [decide_eq_true hn, Bool.true_and, List.all_eq_true]
  intro x hx
  obtain ⟨i, hi, rfl⟩ := List.getElem_of_mem hx
  have := h i hi
  rw [tth_eq l i hi] at this
  simp [this.1, this.2]
end Go.Proofs.YtpobhbdomldecaaGreatDoor
namespace Go.Proofs.YtpobhbdomldecaaGreatDoor
open Go.RowKit
set_option linter.unusedSimpArgs false
set_option linter.unusedVariables false
def zerN (k : Nat) : ByteArray := ⟨(List.replicate k (0 : UInt8)).toArray⟩
theorem zerN_size (k : Nat) : (zerN k).size = k := by
  show (List.replicate k (0 : UInt8)).toArray.size = k
  simp
def digT (s : ByteArray) : ByteArray := s.extract 0 (min s.size 32) ++ zerN (32 - min s.size 32)
theorem digT_nil : digT ⟨#[]⟩ = zerT := by decide
theorem info_u8h : (Tryz.prog.info? 5).map (fun i => (i.zero, i.size, i.bytes)) = some (some (.int .u8 0), 1, 1) := by kernel_rfl
set_option maxRecDepth 100000 in
theorem make_zb (k : Nat) (kI : Int) (hkI : kI = (k : Int)) (hk : k ≤ 100) (W : World) : ∃ W', (Instr.makeSlice 41 (.int .i64 kI) (.int .i64 kI)).run Tryz.prog W = .ok (.slice (some ⟨W.heap.size, 0, none⟩) k k) W' ∧ Below W.heap.size W W' ∧ (convert 41 9 (.slice (some ⟨W.heap.size, 0, none⟩) k k)).run Tryz.prog W' = .ok (.string (zerN k)) W' := by
  subst hkI
  obtain ⟨i0, hi, hz0, hz1, hz2⟩ := info_parts info_u8h
  have hr := run_make (P := Tryz.prog) W 41 5 i0 (.int .u8 0) Tryz.underlying41 hi hz0 .i64 .i64 k k (by omega) (Int.le_refl _) (by rw [hz2]; omega) (by omega)
  refine ⟨_, hr, balloc (Below.refl _ _) _, ?_⟩
  refine conv_block _ W.heap.size 0 k k (List.replicate k 0) (by simp) (fun i hi2 => ?_)
  rw [Nat.zero_add, block_cell (heap_alloc_new _ _)]
  have e : (List.replicate k (0 : UInt8)).getD i 0 = 0 := by
    rw [List.getD_eq_getElem?_getD, List.getElem?_replicate]
    split <;> rfl
  rw [e, hz1]
  have h2 : (madeCells (Value.int .u8 0).cells (k * 1)).toList[i]? = some (.int .u8 0) := by
    show (madeCells #[.int .u8 0] (k * 1)).toList[i]? = _
    rw [toList_madeCells_one, List.getElem?_replicate]; simp; omega
  rw [Array.getElem?_toList] at h2
  exact h2
set_option maxRecDepth 100000 in
theorem dig23_any (s : ByteArray) (w : World) (hs : s.size ≤ 1000000) : Calls Tryz.prog 26 #[.string s] w fun e w' => e = .returned (.string (digT s)) ∧ Below w.heap.size w w' := by
  obtain ⟨q, hq⟩ : ∃ q : Nat, min s.size 32 = q := ⟨_, rfl⟩
  obtain ⟨t, ht⟩ : ∃ t, s.extract 0 q = t := ⟨_, rfl⟩
  have hts : t.size = q := by rw [← ht, ByteArray.size_extract]; omega
  have HE : Hid (digT s = t ++ zerN (32 - q)) := Lib.hid (by unfold digT; rw [hq, ht])
  obtain ⟨k, hk⟩ : ∃ k, 32 - q = k := ⟨_, rfl⟩
  rw [hk] at HE
  have hk32 : k ≤ 32 := by omega
  obtain ⟨W', mk, hb, cv⟩ := make_zb k ((k : Nat) : Int) rfl (by omega) w
  have HB := Lib.hid hb
  have mn : min ((s.size : Nat) : Int) 32 = ((q : Nat) : Int) := by omega
  have qs : q ≤ s.size := by omega
  have qs2 : ¬ s.size < q := by omega
  have sb : IntKind.i64.wrap (32 - ((q : Nat) : Int)) = ((k : Nat) : Int) := by rw [IntWalk.i64_in _ (by omega)]; omega
  have hzs : (zerN k).size = k := zerN_size k
  clear hq hk hb
  go_enter Tryz.func26, Tryz.ntmps26
  go_wp2
  go_ret
  exact ⟨by rw [HE.out]; rfl, HB.out⟩
set_option maxRecDepth 100000 in
theorem at23_any (n : Int) (p : ByteArray) (w : World) : Calls Tryz.prog 27 #[.int .u64 n, .string p] w fun e w' => e = .returned (hAt n p).val ∧ Below w.heap.size w w' := by
  go_enter Tryz.func27, Tryz.ntmps27
  go_wp2_with fail
  refine (dig23_any ⟨#[]⟩ _ (by decide)).mono ?_
  rintro e w1 ⟨rfl, hb⟩
  rw [digT_nil]
  have H0 := Lib.hid ((hb.block _ (by simp)).trans (heap_alloc_new w _))
  have HB : Hid (Below w.heap.size w w1) := Lib.hid (bnext (balloc (Below.refl _ _) _) hb)
  have c : ∀ o, w1.cell? ⟨w.heap.size, o, none⟩ = _ := block_cell H0.out
  have f : ∀ o, w1.frozen? ⟨w.heap.size, o, none⟩ = false := block_free H0.out
  obtain ⟨z, hz⟩ : ∃ z, zerT = z := ⟨_, rfl⟩
  have HZ := Lib.hid hz
  rw [hz]
  clear hb hz
  go_wp2
  obtain ⟨X, hX⟩ : ∃ X, (((w1.setCell ⟨w.heap.size, 0, none⟩ (.int .u64 n)).setCell ⟨w.heap.size, 1, none⟩ (.string p)).setCell ⟨w.heap.size, 2, none⟩ (.string z)).setCell ⟨w.heap.size, 3, none⟩ (.string z) = X := ⟨_, rfl⟩
  have HX : Hid (X.heap[w.heap.size]? = some (.cells #[.int .u64 n, .string p, .string z, .string z] 33 (0, 0))) := Lib.hid (by rw [← hX]; exact block_setCell (block_setCell (block_setCell (block_setCell H0.out _) _) _) _)
  have HXB : Hid (Below w.heap.size w X) := Lib.hid (by rw [← hX]; exact bset (bset (bset (bset HB.out (Nat.le_refl _) _) (Nat.le_refl _) _) (Nat.le_refl _) _) (Nat.le_refl _) _)
  rw [hX]
  clear hX c f
  have d : ∀ o, X.cell? ⟨w.heap.size, o, none⟩ = _ := block_cell HX.out
  refine bodyPost_ret (v := .agg #[.int .u64 n, .string p, .string z, .string z]) (by simp [results, Tryz.results27, go_sem, d]) rfl ?_
  exact ⟨by rw [← HZ.out]; rfl, HXB.out⟩
set_option maxRecDepth 100000 in
theorem refused_any (B : Nat) (l : List Hdr) (a : Option Addr) (cap : Nat) (w : World) (ht : PT B w) (hc : Hdrs w a l) (ho : ∀ i, (hnth l i).Ok) (hn : len l ≤ 100000) :
    Calls Tryz.prog 28 #[.slice a (len l) cap] w fun e w' => e = .returned (.bool (!elOk l)) ∧ Below w.heap.size w w' := by
  have HT := Lib.hid ht
  have HC := Lib.hid hc
  have HO := Lib.hid ho
  have HN := Lib.hid hn
  have HR := Lib.hid (hroot_any B l a cap w ht hc ho hn)
  clear ht hc ho hn
  cases hel : elOk l with
  | true =>
    have HE : Hid (rtE l = 0) := Lib.hid (if_pos hel)
    clear hel
    go_enter Tryz.func28, Tryz.ntmps28
    go_wp2_with fail
    refine HR.out.mono ?_
    rintro e w1 ⟨rfl, hb⟩
    rw [HE.out]
    have HB := Lib.hid hb
    clear hb
    go_wp2
    go_ret
    exact ⟨rfl, HB.out⟩
  | false =>
    have HE : Hid (rtE l = 2 ∧ rtS l = ⟨#[]⟩) := Lib.hid ⟨if_neg (by rw [hel]; decide), if_neg (by rw [hel]; decide)⟩
    have HL : Hid (linkedH l = false) := Lib.hid (by unfold linkedH; rw [hel]; rfl)
    clear hel
    go_enter Tryz.func28, Tryz.ntmps28
    go_wp2_with fail
    refine HR.out.mono ?_
    rintro e w1 ⟨rfl, hb⟩
    rw [HE.out.1, HE.out.2]
    have HB := Lib.hid hb
    clear hb
    go_wp2_with fail
    refine (hlinked_any B l a cap w1 (HT.out.below HB.out) (HC.out.below HB.out) HO.out HN.out).mono ?_
    rintro e w2 ⟨rfl, hb⟩
    rw [HL.out]
    have HB2 := Lib.hid (bnext HB.out hb)
    clear hb
    go_wp2
    go_ret
    exact ⟨rfl, HB2.out⟩
theorem info_hdr : (Tryz.prog.info? 33).map (fun i => (i.zero, i.size, i.bytes)) = some (some Hdr.zero.val, 4, 56) := by kernel_rfl
end Go.Proofs.YtpobhbdomldecaaGreatDoor
namespace Go.Proofs.YtpobhbdomldecaaGreatDoor
open Go.RowKit
set_option linter.unusedSimpArgs false
set_option linter.unusedVariables false
theorem own_setk {base n c g m k : Nat} {w : World} {e : TypeId} {xs : List Value} {u : Value} (h : w.ownsRow base e k (.slice (some ⟨g, 0, none⟩) n c) n xs) : (w.setCell ⟨g, m, none⟩ u).ownsRow base e k (.slice (some ⟨g, 0, none⟩) n c) n (xs.set m u) := by
  refine ⟨by rw [List.length_set]; exact h.1, ?_⟩
  rcases h.2 with ⟨hz, _⟩ | ⟨g9, cap, cur, hv, hg, hh, h1, h2, h3, h4⟩
  · cases hz
  · cases hv
    refine Or.inr ⟨g, c, cur.setIfInBounds m u, rfl, hg, block_setCell hh u, h1, h2, by rw [Array.size_setIfInBounds]; exact h3, ?_⟩
    rw [Array.toList_setIfInBounds, ← h4, List.take_set]
theorem flat_set {α β : Type} (f : α → List β) (k : Nat) (hf : ∀ x, (f x).length = k) {u : β} {x' : α} : ∀ (l : List α) (i j : Nat) (hi : i < l.length), j < k → f x' = (f l[i]).set j u → (l.flatMap f).set (i * k + j) u = (l.set i x').flatMap f
  | x :: l, 0, j, _, hj, hx => by
    simp only [List.flatMap_cons, Nat.zero_mul, Nat.zero_add, List.getElem_cons_zero, List.set_cons_zero] at hx ⊢
    rw [List.set_append_left _ _ (by rw [hf]; exact hj), hx]
  | x :: l, i + 1, j, hi, hj, hx => by
    simp only [List.flatMap_cons, List.getElem_cons_succ, List.set_cons_succ] at hx ⊢
    rw [List.set_append_right _ _ (by rw [hf, Nat.add_mul]; omega), hf, show (i + 1) * k + j - k = i * k + j by rw [Nat.add_mul]; omega]
    rw [flat_set f k hf l i j (by simpa using hi) hj hx]
def OwnH (base g c : Nat) (L : List Hdr) (w : World) : Prop := w.ownsRow base 33 4 (.slice (some ⟨g, 0, none⟩) (len L) c) (len L) (L.flatMap Hdr.cells)
theorem OwnH.below {base g c : Nat} {L : List Hdr} {w w' : World} (h : OwnH base g c L w) (hb : Below w.heap.size w w') : OwnH base g c L w' := own_below h hb
theorem OwnH.set {base g c : Nat} {L : List Hdr} {w : World} (h : OwnH base g c L w) {i j : Nat} {u : Value} {r' : Hdr} (hi : i < len L) (hj : j < 4) (hr : r'.cells = (hnth L i).cells.set j u) : OwnH base g c (L.set i r') (w.setCell ⟨g, i * 4 + j, none⟩ u) := by
  unfold OwnH
  have hl : len (L.set i r') = len L := by rw [len_eq, len_eq, List.length_set]
  rw [hl, ← flat_set Hdr.cells 4 Hdr.cells_len L i j hi hj (by rw [hr, hnth_eq L i hi])]
  exact own_setk h
theorem OwnH.lt {base g c : Nat} {L : List Hdr} {w : World} (h : OwnH base g c L w) : base ≤ g ∧ g < w.heap.size := h.1 |> fun _ => World.ownsRow.lt h g rfl
structure HCells (w : World) (g i : Nat) (r : Hdr) : Prop where
  c0 : w.cell? ⟨g, i * 4, none⟩ = some (.int .u64 r.rnd)
  c1 : w.cell? ⟨g, i * 4 + 1, none⟩ = some (.string r.prev)
  c2 : w.cell? ⟨g, i * 4 + 2, none⟩ = some (.string r.txns)
  c3 : w.cell? ⟨g, i * 4 + 3, none⟩ = some (.string r.seed)
  f : ∀ o, w.frozen? ⟨g, o, none⟩ = false
theorem OwnH.at {base g c : Nat} {L : List Hdr} {w : World} (h : OwnH base g c L w) {i : Nat} (hi : i < len L) : HCells w g i (hnth L i) := by
  obtain ⟨a, cap, e, hh, _⟩ := Hdrs.own h
  cases e
  obtain ⟨b, off, e, ⟨h0, h1, h2, h3⟩⟩ := hh i hi
  cases e
  rw [Nat.zero_add] at h0 h1 h2 h3
  rcases h.2 with ⟨hz, _⟩ | ⟨g9, cap, cur, hv, hg, hb, _⟩
  · cases hz
  · cases hv
    exact ⟨h0, h1, h2, h3, block_free hb⟩
end Go.Proofs.YtpobhbdomldecaaGreatDoor
namespace Go.Proofs.YtpobhbdomldecaaGreatDoor
open Go.RowKit
set_option linter.unusedSimpArgs false
set_option linter.unusedVariables false
def abT : List ByteArray := [⟨#[97]⟩, ⟨#[98]⟩]
theorem abT_txts {w : World} {b : Nat} {t : TypeId} {fr : Nat × Nat} (h : w.heap[b]? = some (.cells #[.string ⟨#[97]⟩, .string ⟨#[98]⟩] t fr)) : Txts w (some ⟨b, 0, none⟩) abT := fun i hi => ⟨b, 0, rfl, by
  have hi : i < 2 := hi
  rw [block_cell h, Nat.zero_add]
  have : i = 0 ∨ i = 1 := by omega
  rcases this with rfl | rfl <;> rfl⟩
theorem abT_size : ∀ i, i < len abT → (tth abT i).size ≤ 1 := fun i hi => by
  have hi : i < 2 := hi
  have : i = 0 ∨ i = 1 := by omega
  rcases this with rfl | rfl <;> decide
theorem one_txts1 {w : World} {b : Nat} {t : TypeId} {fr : Nat × Nat} {s : ByteArray} (h : w.heap[b]? = some (.cells #[.string s] t fr)) : Txts w (some ⟨b, 0, none⟩) [s] := fun i hi => ⟨b, 0, rfl, by
  have hi : i < 1 := hi
  obtain rfl : i = 0 := by omega
  rw [block_cell h]; rfl⟩
theorem bods_nil : bodsOk [] = true := by decide
theorem bods_ab : bodsOk abT = true := by decide
theorem bods_65 : bodsOk [zerN 65] = false := by decide
theorem tree_nil : treeR [] = hashP noneT [] := by
  unfold treeR
  have : depN [] = 0 := by decide
  rw [this]
  rfl
theorem step_h (n : Int) (p : ByteArray) (m : Int) (q : ByteArray) : stepH (hAt n p) (hAt m q) = (decide (n < m) && decide (m - n = 1)) := rfl
theorem follow2 (R : Hdr → Hdr → Bool) (x y : Hdr) : followH R [x, y] = R x y := by
  cases h : R x y with
  | true => exact followH_yes (fun i hi h0 => by
      have hi : i < 2 := hi
      obtain rfl : i = 1 := by omega
      exact h)
  | false => exact followH_no (i := 1) (show 1 < 2 by decide) (by decide) h
theorem follow1 (R : Hdr → Hdr → Bool) (x : Hdr) : followH R [x] = true := followH_yes (fun i hi h0 => by
  have hi : i < 1 := hi
  omega)
theorem elOk2 (n m : Int) (p q : ByteArray) (hp : p.size = 32) (hq : q.size = 32) : elOk [hAt n p, hAt m q] = stepH (hAt n p) (hAt m q) := by
  unfold elOk laysH
  rw [follow2]
  simp [hAt_ok hp, hAt_ok hq, len]
theorem elOk1 (n : Int) (p : ByteArray) (hp : p.size = 32) : elOk [hAt n p] = true := by
  unfold elOk laysH
  rw [follow1]
  simp [hAt_ok hp, len]
theorem linked2 (n m : Int) (p q : ByteArray) (hp : p.size = 32) (hq : q.size = 32) : linkedH [hAt n p, hAt m q] = (stepH (hAt n p) (hAt m q) && decide (q = hdg (hAt n p))) := by
  unfold linkedH
  rw [elOk2 n m p q hp hq, follow2]
  rfl
theorem linked1 (n : Int) (p : ByteArray) (hp : p.size = 32) : linkedH [hAt n p] = true := by
  unfold linkedH
  rw [elOk1 n p hp, follow1]
  rfl
theorem hAt_Ok {n : Int} {p : ByteArray} (hn : U64i n) (hp : p.size = 32) : (hAt n p).Ok := ⟨hn, by show p.size ≤ _; rw [hp]; decide, by show zerT.size ≤ _; decide, by show zerT.size ≤ _; decide⟩
theorem oks2 {x y : Hdr} (hx : x.Ok) (hy : y.Ok) : ∀ i, (hnth [x, y] i).Ok := hoks (fun p hp => by
  rcases List.mem_cons.1 hp with rfl | hp
  · exact hx
  · rw [List.mem_singleton.1 hp]; exact hy)
theorem oks1 {x : Hdr} (hx : x.Ok) : ∀ i, (hnth [x] i).Ok := hoks (fun p hp => by
  rw [List.mem_singleton.1 hp]; exact hx)
set_option maxRecDepth 100000 in
set_option maxHeartbeats 8000000 in
theorem works23_any (B : Nat) (w : World) (ht : PT B w) : Calls Tryz.prog 23 #[] w fun e w' => e = .returned (.bool true) ∧ Below w.heap.size w w' := by
  have HT := Lib.hid ht
  clear ht
  go_enter Tryz.func23, Tryz.ntmps23
  go_wp2_with fail
  refine (dig23_any ⟨#[]⟩ w (by decide)).mono ?_
  rintro e w1 ⟨rfl, hb⟩
  rw [digT_nil]
  have HB1 := Lib.hid hb
  clear hb
  go_wp2_with fail
  refine (at23_any 5 zerT w1).mono ?_
  rintro e w2 ⟨rfl, hb⟩
  have HB2 : Hid (Below w.heap.size w w2) := Lib.hid (bnext HB1.out hb)
  clear hb
  have ok5 : ∀ n p, U64i n → p.size = 32 → (hAt n p).Ok := fun n p => hAt_Ok
  have HW := Lib.hid (fun w9 (h : PT B w9) => hw_yes B (hAt 5 zerT) w9 h (ok5 5 zerT ⟨by decide, by decide⟩ rfl) (hAt_ok rfl))
  have HG := Lib.hid (fun w9 (h : PT B w9) => hdig_any B (hAt 5 zerT) w9 h (ok5 5 zerT ⟨by decide, by decide⟩ rfl))
  unfold DgIs at HG
  have e1 : dgS (hAt 5 zerT) = hdg (hAt 5 zerT) := if_pos (hAt_ok rfl)
  have e2 : dgE (hAt 5 zerT) = 0 := if_pos (hAt_ok rfl)
  rw [e1, e2] at HG
  obtain ⟨d, hd⟩ : ∃ d, hdg (hAt 5 zerT) = d := ⟨_, rfl⟩
  have HDS : Hid (d.size = 32) := Lib.hid (by rw [← hd]; exact hdg_size _)
  have HDN : Hid (¬ zerT = d) := Lib.hid (fun h => five_dg (hd.trans h.symm))
  have HHASH : Hid (hashP hdrT [hbs (hAt 5 zerT)] = d) := Lib.hid hd
  have HBZ : Hid ((hbs (hAt 5 zerT)).size ≤ 1000000) := Lib.hid (Nat.le_trans (hbs_size (hAt_ok rfl)) (by decide))
  obtain ⟨S, hS⟩ : ∃ S, hbs (hAt 5 zerT) = S := ⟨_, rfl⟩
  rw [hS] at HW HHASH HBZ
  rw [hd] at HG
  have lift : ∀ {F : FuncId} (L : List Hdr) (v : Bool) (cs : Array Value), (L.flatMap Hdr.cells).toArray = cs → (∀ (a : Option Addr) (c : Nat) (w9 : World), PT B w9 → Hdrs w9 a L → Calls Tryz.prog F #[.slice a (len L) c] w9 fun e w' => e = .returned (.bool v) ∧ Below w9.heap.size w9 w') →
      ∀ (w9 : World) (b : Nat), PT B w9 → w9.heap[b]? = some (.cells cs 33 (0, 0)) → Calls Tryz.prog F #[.slice (some ⟨b, 0, none⟩) (len L) (len L)] w9 fun e w' => e = .returned (.bool v) ∧ Below w9.heap.size w9 w' :=
    fun L v cs hcs hh w9 b hp hb => hh _ _ w9 hp (Hdrs.block (by rw [hcs]; exact hb))
  have u5 : U64i 5 := ⟨by decide, by decide⟩
  have u6 : U64i 6 := ⟨by decide, by decide⟩
  have u7 : U64i 7 := ⟨by decide, by decide⟩
  have HF7 := Lib.hid (lift (F := 28) [hAt 5 zerT, hAt 7 zerT] true _ rfl (fun a c w9 hp hh => by
    have := refused_any B _ a c w9 hp hh (oks2 (ok5 5 zerT u5 rfl) (ok5 7 zerT u7 rfl)) (by decide)
    rw [elOk2 5 7 zerT zerT rfl rfl, step_h] at this
    exact this))
  have HF5 := Lib.hid (lift (F := 28) [hAt 5 zerT, hAt 5 zerT] true _ rfl (fun a c w9 hp hh => by
    have := refused_any B _ a c w9 hp hh (oks2 (ok5 5 zerT u5 rfl) (ok5 5 zerT u5 rfl)) (by decide)
    rw [elOk2 5 5 zerT zerT rfl rfl, step_h] at this
    exact this))
  have HL1 := Lib.hid (lift (F := 19) [hAt 5 zerT] true _ rfl (fun a c w9 hp hh => by
    have := hlinked_any B _ a c w9 hp hh (oks1 (ok5 5 zerT u5 rfl)) (by decide)
    rw [linked1 5 zerT rfl] at this
    exact this))
  have HL2 := Lib.hid (lift (F := 19) [hAt 5 zerT, hAt 6 zerT] false _ rfl (fun a c w9 hp hh => by
    have := hlinked_any B _ a c w9 hp hh (oks2 (ok5 5 zerT u5 rfl) (ok5 6 zerT u6 rfl)) (by decide)
    rw [linked2 5 6 zerT zerT rfl rfl, step_h, hd, decide_eq_false HDN.out] at this
    exact this))
  have HL3 := Lib.hid (lift (F := 19) [hAt 5 zerT, hAt 6 d] true _ rfl (fun a c w9 hp hh => by
    have := hlinked_any B _ a c w9 hp hh (oks2 (ok5 5 zerT u5 rfl) (ok5 6 d u6 HDS.out)) (show 2 ≤ 100000 by decide)
    rw [linked2 5 6 zerT d rfl HDS.out, step_h, hd, decide_eq_true rfl] at this
    exact this))
  have HR0 := Lib.hid (fun w9 (hp : PT B w9) => refused_any B [] none 0 w9 hp (Hdrs.nil _ _) (hoks (fun p hp => by cases hp)) (by decide))
  have el0 : (!elOk []) = true := by decide
  rw [el0] at HR0
  have HA7 := Lib.hid (fun w9 => at23_any 7 zerT w9)
  have HA5 := Lib.hid (fun w9 => at23_any 5 zerT w9)
  have HA6 := Lib.hid (fun w9 => at23_any 6 zerT w9)
  have HD6 := Lib.hid (fun w9 => at23_any 6 d w9)
  unfold hAt at HW HG HF7 HF5 HL1 HL2 HL3 HA7 HA5 HA6 HD6 ⊢
  obtain ⟨z, hz⟩ : ∃ z, zerT = z := ⟨_, rfl⟩
  rw [hz] at HW HG HF7 HF5 HL1 HL2 HL3 HA7 HA5 HA6 HD6 ⊢
  clear hz lift u5 u6 u7 ok5 e1 e2 hd hS HDN
  go_wp2_with fail
  obtain ⟨V, hV⟩ : ∃ V, w2.alloc (.cells #[.int .u64 5, .string z, .string z, .string z] 33) = V := ⟨_, rfl⟩
  obtain ⟨hb, hhb⟩ : ∃ hb, w2.heap.size = hb := ⟨_, rfl⟩
  have HBV : Hid (Below w.heap.size w V) := Lib.hid (by rw [← hV]; exact balloc HB2.out _)
  have HHB : Hid (V.heap[hb]? = some (.cells #[.int .u64 5, .string z, .string z, .string z] 33 (0, 0))) := Lib.hid (by rw [← hV, ← hhb]; exact heap_alloc_new _ _)
  rw [hV, hhb]
  clear hV hhb
  refine (HW.out V (HT.out.below HBV.out)).mono ?_
  rintro e w3 ⟨rfl, hb3⟩
  have HB3 : Hid (Below w.heap.size w w3) := Lib.hid (bnext HBV.out hb3)
  have HH3 := Lib.hid ((hb3.block _ (lt_of_block HHB.out)).trans HHB.out)
  have c : ∀ o, w3.cell? ⟨hb, o, none⟩ = _ := block_cell HH3.out
  clear hb3
  go_wp2_with fail
  refine (HG.out w3 (HT.out.below HB3.out)).mono ?_
  rintro e w4 ⟨rfl, hb4⟩
  have HB4 : Hid (Below w.heap.size w w4) := Lib.hid (bnext HB3.out hb4)
  have HH4 := Lib.hid ((hb4.block _ (lt_of_block HH3.out)).trans HH3.out)
  clear hb4 c el0
  go_wp2_with fail
  refine (hdig_any B Hdr.zero w4 (HT.out.below HB4.out) Hdr.zero_ok).mono ?_
  rintro e w5 ⟨rfl, hb5⟩
  have z1 : dgS Hdr.zero = ⟨#[]⟩ := if_neg (by decide)
  have z2 : dgE Hdr.zero = 2 := if_neg (by decide)
  rw [z1, z2]
  have HB5 : Hid (Below w.heap.size w w5) := Lib.hid (bnext HB4.out hb5)
  have HH5 := Lib.hid ((hb5.block _ (lt_of_block HH4.out)).trans HH4.out)
  clear hb5 z1 z2
  go_wp2_with fail
  refine (htxns_any [] none 0 w5 (by decide) (Txts.nil _ _) (fun i hi => absurd hi (by simp [len]))).mono ?_
  rintro e w6 ⟨rfl, hb6⟩
  have z1 : txS [] = hashP noneT [] := by rw [← tree_nil]; exact if_pos bods_nil
  have z2 : txE [] = 0 := if_pos bods_nil
  rw [z1, z2]
  obtain ⟨ta, hta⟩ : ∃ ta, hashP noneT [] = ta := ⟨_, rfl⟩
  have HTA := Lib.hid hta
  rw [hta]
  have HB6 : Hid (Below w.heap.size w w6) := Lib.hid (bnext HB5.out hb6)
  have HH6 := Lib.hid ((hb6.block _ (lt_of_block HH5.out)).trans HH5.out)
  clear hb6 z1 z2 hta
  go_wp2_with fail
  refine (htxns_any abT (some ⟨w6.heap.size, 0, none⟩) 2 _ (by decide) (abT_txts (heap_alloc_new _ _)) (fun i hi => Nat.le_trans (abT_size i hi) (by decide))).mono ?_
  rintro e w7 ⟨rfl, hb7⟩
  have z1 : txS abT = treeR abT := if_pos bods_ab
  have z2 : txE abT = 0 := if_pos bods_ab
  rw [z1, z2]
  obtain ⟨tb, htb⟩ : ∃ tb, treeR abT = tb := ⟨_, rfl⟩
  have HTB := Lib.hid htb
  rw [htb]
  have HX7 := Lib.hid (bnext (balloc (Below.refl w6.heap.size w6) _) hb7)
  have HB7 : Hid (Below w.heap.size w w7) := Lib.hid (bnext HB6.out HX7.out)
  have HH7 := Lib.hid ((HX7.out.block _ (lt_of_block HH6.out)).trans HH6.out)
  clear hb7 z1 z2 htb
  obtain ⟨W8, mk, hb8, cv⟩ := make_zb 65 65 rfl (by decide) w7
  obtain ⟨z65, hz65⟩ : ∃ z65, zerN 65 = z65 := ⟨_, rfl⟩
  have HZ65 : Hid (bodsOk [z65] = false ∧ z65.size = 65) := Lib.hid (by rw [← hz65]; exact ⟨bods_65, zerN_size 65⟩)
  rw [hz65] at cv
  have HX8 := Lib.hid hb8
  clear hz65 hb8
  go_wp2_with fail
  refine (htxns_any [z65] (some ⟨W8.heap.size, 0, none⟩) 1 _ (show 1 ≤ 65536 by decide) (one_txts1 (heap_alloc_new _ _)) (fun i hi => by
    have hi : i < 1 := hi
    obtain rfl : i = 0 := by omega
    show z65.size ≤ _
    rw [HZ65.out.2]; decide)).mono ?_
  rintro e w9 ⟨rfl, hb9⟩
  have z1 : txS [z65] = ⟨#[]⟩ := if_neg (by rw [HZ65.out.1]; decide)
  have z2 : txE [z65] = 2 := if_neg (by rw [HZ65.out.1]; decide)
  rw [z1, z2]
  have HX9 := Lib.hid (bnext (balloc HX8.out _) hb9)
  have HB9 : Hid (Below w.heap.size w w9) := Lib.hid (bnext HB7.out HX9.out)
  have HH9 := Lib.hid ((HX9.out.block _ (lt_of_block HH7.out)).trans HH7.out)
  clear hb9 z1 z2 mk cv
  go_wp2_with fail
  refine (build_any abT (some ⟨w9.heap.size, 0, none⟩) 2 _ (abT_txts (heap_alloc_new _ _)) (by decide) (fun i hi => Nat.le_trans (abT_size i hi) (by decide))).mono ?_
  rintro e w10 ⟨tp, rfl, htp, htr, hb10⟩
  have HX10 := Lib.hid (bnext (balloc (Below.refl w9.heap.size w9) _) hb10)
  have HB10 : Hid (Below w.heap.size w w10) := Lib.hid (bnext HB9.out HX10.out)
  have HH10 := Lib.hid ((HX10.out.block _ (lt_of_block HH9.out)).trans HH9.out)
  have HTR := Lib.hid htr
  clear hb10 htp htr
  go_wp2_with fail
  refine (hash1_any hdrT S w10 (by decide) (by decide) HBZ.out).mono ?_
  rintro e w11 ⟨rfl, hb11⟩
  rw [HHASH.out]
  have HB11 : Hid (Below w.heap.size w w11) := Lib.hid (bnext HB10.out hb11)
  have HH11 := Lib.hid ((hb11.block _ (lt_of_block HH10.out)).trans HH10.out)
  have HTR11 := Lib.hid (HTR.out.below hb11)
  have sd : (d.toList != d.toList) = false := by unfold bne; rw [str_beq, decide_eq_true rfl]; rfl
  clear hb11
  go_upto_region 12 with fail
  clear sd
  have c0 : w11.cell? ⟨hb, 0, none⟩ = some (.int .u64 5) := block_cell HH11.out 0
  have c1 : w11.cell? ⟨hb, 1, none⟩ = some (.string z) := block_cell HH11.out 1
  have c2 : w11.cell? ⟨hb, 2, none⟩ = some (.string z) := block_cell HH11.out 2
  have c3 : w11.cell? ⟨hb, 3, none⟩ = some (.string z) := block_cell HH11.out 3
  have sa : (ta.toList == ta.toList) = true := by rw [str_beq]; exact decide_eq_true rfl
  have sb : (tb.toList == tb.toList) = true := by rw [str_beq]; exact decide_eq_true rfl
  have HTW := Lib.hid (HT.out.below HB11.out)
  have HF7 := Lib.hid (fun w9 b (hw : Below w11.heap.size w11 w9) => HF7.out w9 b (HTW.out.below hw))
  have HF5 := Lib.hid (fun w9 b (hw : Below w11.heap.size w11 w9) => HF5.out w9 b (HTW.out.below hw))
  have HL1 := Lib.hid (fun w9 b (hw : Below w11.heap.size w11 w9) => HL1.out w9 b (HTW.out.below hw))
  have HL2 := Lib.hid (fun w9 b (hw : Below w11.heap.size w11 w9) => HL2.out w9 b (HTW.out.below hw))
  have HL3 := Lib.hid (fun w9 b (hw : Below w11.heap.size w11 w9) => HL3.out w9 b (HTW.out.below hw))
  have HR0 := Lib.hid (fun w9 (hw : Below w11.heap.size w11 w9) => HR0.out w9 (HTW.out.below hw))
  have HNO := Lib.hid (fun w9 => hash0_any noneT w9 (by decide) (by decide))
  rw [HTA.out] at HNO
  have HRT := Lib.hid (fun w9 (hw : Below w11.heap.size w11 w9) => (root_any abT tp w9 (HTR11.out.below hw)).mono (fun e w' hh => (⟨hh.1, by rw [hh.2]; exact Below.refl _ _⟩ : e = .returned (.string (treeR abT)) ∧ Below w9.heap.size w9 w')))
  rw [HTB.out] at HRT
  refine wp_region_all 1000 (none) (phis [fun u _ => u = (.bool true), fun u _ => u = (.bool true), fun u _ => u = (.agg #[.int .u64 5, .string z, .string z, .string z]), fun u _ => u = (.string z), fun u _ => u = (.agg #[.int .u64 7, .string z, .string z, .string z]), fun u w' => ∃ b, u = .slice (some ⟨b, 0, none⟩) 2 2 ∧ w'.heap[b]? = some (.cells #[.int .u64 5, .string z, .string z, .string z, .int .u64 7, .string z, .string z, .string z] 33 (0, 0)), fun u _ => u = (.bool true), fun u _ => u = (.bool true), fun u _ => u = (.bool true), fun u _ => u = (.agg #[.int .u64 5, .string z, .string z, .string z]), fun u _ => u = (.string z), fun u _ => u = (.agg #[.int .u64 5, .string z, .string z, .string z]), fun u w' => ∃ b, u = .slice (some ⟨b, 0, none⟩) 2 2 ∧ w'.heap[b]? = some (.cells #[.int .u64 5, .string z, .string z, .string z, .int .u64 5, .string z, .string z, .string z] 33 (0, 0)), fun u _ => u = (.bool true), fun u _ => u = (.bool true), fun u _ => u = (.bool true), fun u _ => u = (.agg #[.int .u64 5, .string z, .string z, .string z]), fun u w' => ∃ b, u = .slice (some ⟨b, 0, none⟩) 1 1 ∧ w'.heap[b]? = some (.cells #[.int .u64 5, .string z, .string z, .string z] 33 (0, 0)), fun u _ => u = (.bool true), fun u _ => u = (.bool true), fun u _ => u = (.bool true), fun u _ => u = (.agg #[.int .u64 5, .string z, .string z, .string z]), fun u _ => u = (.string z), fun u _ => u = (.agg #[.int .u64 6, .string z, .string z, .string z]), fun u w' => ∃ b, u = .slice (some ⟨b, 0, none⟩) 2 2 ∧ w'.heap[b]? = some (.cells #[.int .u64 5, .string z, .string z, .string z, .int .u64 6, .string z, .string z, .string z] 33 (0, 0)), fun u _ => u = (.bool false), fun u _ => u = (.bool true), fun u _ => u = (.bool true), fun u _ => u = (.bool true), fun u _ => u = (.agg #[.int .u64 5, .string z, .string z, .string z]), fun u _ => u = (.string d), fun u _ => u = (.agg #[.int .u64 6, .string d, .string z, .string z]), fun u w' => ∃ b, u = .slice (some ⟨b, 0, none⟩) 2 2 ∧ w'.heap[b]? = some (.cells #[.int .u64 5, .string z, .string z, .string z, .int .u64 6, .string d, .string z, .string z] 33 (0, 0)), fun u _ => u = (.bool true), fun u _ => u = (.bool true), fun u _ => u = (.bool true), fun u _ => u = (.int .i64 0), fun u _ => u = (.bool true), fun u _ => u = (.bool true), fun u _ => u = (.bool true), fun u _ => u = (.string ta), fun u _ => u = (.string ta), fun u _ => u = (.bool true), fun u _ => u = (.bool true), fun u _ => u = (.bool true), fun u _ => u = (.int .i64 0), fun u _ => u = (.bool true), fun u _ => u = (.bool true), fun u _ => u = (.bool true), fun u _ => u = (.string tb), fun u _ => u = (.pointer (some ⟨tp, 0, none⟩)), fun u _ => u = (.string tb), fun u _ => u = (.bool true), fun u _ => u = (.bool true), fun u _ => u = (.bool true), fun u _ => u = (.int .i64 2), fun u _ => u = (.bool true), fun u _ => u = (.bool true), fun u _ => u = (.bool true)]) rfl (by kernel_rfl) (mono_of ⟨mono_eq, mono_eq, mono_eq, mono_eq, mono_eq, ?m5, mono_eq, mono_eq, mono_eq, mono_eq, mono_eq, mono_eq, ?m12, mono_eq, mono_eq, mono_eq, mono_eq, ?m17, mono_eq, mono_eq, mono_eq, mono_eq, mono_eq, mono_eq, ?m24, mono_eq, mono_eq, mono_eq, mono_eq, mono_eq, mono_eq, mono_eq, ?m32, mono_eq, mono_eq, mono_eq, mono_eq, mono_eq, mono_eq, mono_eq, mono_eq, mono_eq, mono_eq, mono_eq, mono_eq, mono_eq, mono_eq, mono_eq, mono_eq, mono_eq, mono_eq, mono_eq, mono_eq, mono_eq, mono_eq, mono_eq, mono_eq, mono_eq, mono_eq, trivial⟩) (steps_of 59 ⟨?s0, ?s1, ?s2, ?s3, ?s4, ?s5, ?s6, ?s7, ?s8, ?s9, ?s10, ?s11, ?s12, ?s13, ?s14, ?s15, ?s16, ?s17, ?s18, ?s19, ?s20, ?s21, ?s22, ?s23, ?s24, ?s25, ?s26, ?s27, ?s28, ?s29, ?s30, ?s31, ?s32, ?s33, ?s34, ?s35, ?s36, ?s37, ?s38, ?s39, ?s40, ?s41, ?s42, ?s43, ?s44, ?s45, ?s46, ?s47, ?s48, ?s49, ?s50, ?s51, ?s52, ?s53, ?s54, ?s55, ?s56, ?s57, ?s58, trivial⟩) ?_
  case m5 =>
    exact ⟨fun u w1 w' h ⟨b, h1, hb⟩ => ⟨b, h1, ext_block h hb⟩, fun _ u w1 w' h ⟨b, h1, hb⟩ => ⟨b, h1, extB_block h (by simp) hb⟩⟩
  case m12 =>
    exact ⟨fun u w1 w' h ⟨b, h1, hb⟩ => ⟨b, h1, ext_block h hb⟩, fun _ u w1 w' h ⟨b, h1, hb⟩ => ⟨b, h1, extB_block h (by simp) hb⟩⟩
  case m17 =>
    exact ⟨fun u w1 w' h ⟨b, h1, hb⟩ => ⟨b, h1, ext_block h hb⟩, fun _ u w1 w' h ⟨b, h1, hb⟩ => ⟨b, h1, extB_block h (by simp) hb⟩⟩
  case m24 =>
    exact ⟨fun u w1 w' h ⟨b, h1, hb⟩ => ⟨b, h1, ext_block h hb⟩, fun _ u w1 w' h ⟨b, h1, hb⟩ => ⟨b, h1, extB_block h (by simp) hb⟩⟩
  case m32 =>
    exact ⟨fun u w1 w' h ⟨b, h1, hb⟩ => ⟨b, h1, ext_block h hb⟩, fun _ u w1 w' h ⟨b, h1, hb⟩ => ⟨b, h1, extB_block h (by simp) hb⟩⟩
  case s0 =>
    refine step_wp (fun av wv hE hS hO hD => ?_)
    refine ⟨rfl, ?_⟩
    refine wp_of_call (v := .bool true) (by simp [go_sem]; rfl) (HR0.out wv (of_drew hE)) (fun w2 hb => ⟨_, rfl, es_of_ext hb, rfl⟩)
  case s1 =>
    refine step_val (v := (.bool true)) (fun av wv hE hS hO hD => ?_) (fun _ => rfl)
    have d81 : av.eval (.tmp 81) = (.bool true) := hD.1 rfl _ rfl
    have f81 := (ev_form av 81).symm.trans d81
    refine ⟨rfl, ?_⟩
    simp [go_sem, f81, sa, sb]
  case s2 =>
    refine step_val (v := (.agg #[.int .u64 5, .string z, .string z, .string z])) (fun av wv hE hS hO hD => ?_) (fun _ => rfl)
    have h2 : av.eval (.tmp 2) = (.pointer (some ⟨hb, 0, none⟩)) := hO.2.2 2 rfl
    have f2 := (ev_form av 2).symm.trans h2
    have d82 : av.eval (.tmp 82) = (.bool true) := hD.1 rfl _ rfl
    have f82 := (ev_form av 82).symm.trans d82
    have c0 := extB_cell hE (by simp) c0
    have c1 := extB_cell hE (by simp) c1
    have c2 := extB_cell hE (by simp) c2
    have c3 := extB_cell hE (by simp) c3
    refine ⟨(wanted_of (d := 82) (b := true) (want := true) rfl rfl rfl d82), ?_⟩
    simp [go_sem, f2, f82, c0, c1, c2, c3, sa, sb]
  case s3 =>
    refine step_val (v := (.string z)) (fun av wv hE hS hO hD => ?_) (fun _ => rfl)
    have h1 : av.eval (.tmp 1) = (.string z) := hO.2.2 1 rfl
    have f1 := (ev_form av 1).symm.trans h1
    have d82 : av.eval (.tmp 82) = (.bool true) := hD.1 rfl _ rfl
    have f82 := (ev_form av 82).symm.trans d82
    refine ⟨(wanted_of (d := 82) (b := true) (want := true) rfl rfl rfl d82), ?_⟩
    simp [go_sem, f1, f82, sa, sb]
  case s4 =>
    refine step_wp (fun av wv hE hS hO hD => ?_)
    have d84 : av.eval (.tmp 84) = (.string z) := hD.1 rfl _ rfl
    have f84 := (ev_form av 84).symm.trans d84
    have d82 : av.eval (.tmp 82) = (.bool true) := hD.2.1 rfl _ rfl
    have f82 := (ev_form av 82).symm.trans d82
    refine ⟨(wanted_of (d := 82) (b := true) (want := true) rfl rfl rfl d82), ?_⟩
    refine wp_of_call (v := .agg #[.int .u64 7, .string z, .string z, .string z]) (by simp [go_sem, f84]) (HA7.out wv) (fun w2 hb => ⟨_, rfl, es_of_ext hb, rfl⟩)
  case s5 =>
    refine step_wp (fun av wv hE hS hO hD => ?_)
    have d83 : av.eval (.tmp 83) = (.agg #[.int .u64 5, .string z, .string z, .string z]) := hD.1 rfl _ rfl
    have f83 := (ev_form av 83).symm.trans d83
    have d85 : av.eval (.tmp 85) = (.agg #[.int .u64 7, .string z, .string z, .string z]) := hD.2.1 rfl _ rfl
    have f85 := (ev_form av 85).symm.trans d85
    have d82 : av.eval (.tmp 82) = (.bool true) := hD.2.2.1 rfl _ rfl
    have f82 := (ev_form av 82).symm.trans d82
    refine ⟨(wanted_of (d := 82) (b := true) (want := true) rfl rfl rfl d82), ?_⟩
    exact wp_of_run (v := .slice (some ⟨wv.heap.size, 0, none⟩) 2 2) (w' := wv.alloc (.cells #[.int .u64 5, .string z, .string z, .string z, .int .u64 7, .string z, .string z, .string z] 33)) (by simp [go_sem, f83, f85]) ⟨_, rfl, es_of_ext (balloc (Ext_refl _) _), wv.heap.size, rfl, heap_alloc_new _ _⟩
  case s6 =>
    refine step_wp (fun av wv hE hS hO hD => ?_)
    have d86 : (fun u w' => ∃ b, u = .slice (some ⟨b, 0, none⟩) 2 2 ∧ w'.heap[b]? = some (.cells #[.int .u64 5, .string z, .string z, .string z, .int .u64 7, .string z, .string z, .string z] 33 (0, 0))) (av.eval (.tmp 86)) wv := hD.1 rfl _ rfl
    have d82 : av.eval (.tmp 82) = (.bool true) := hD.2.2.1 rfl _ rfl
    have f82 := (ev_form av 82).symm.trans d82
    refine ⟨(wanted_of (d := 82) (b := true) (want := true) rfl rfl rfl d82), ?_⟩
    obtain ⟨bq, hq, hcq⟩ := d86
    have fq := (ev_form av 86).symm.trans hq
    refine wp_of_call (v := .bool true) (by simp [go_sem, fq]; rfl) (HF7.out wv bq (of_drew hE) hcq) (fun w2 hb => ⟨_, rfl, es_of_ext hb, rfl⟩)
  case s7 =>
    refine step_val (v := (.bool true)) (fun av wv hE hS hO hD => ?_) (fun _ => rfl)
    have d82 : av.eval (.tmp 82) = (.bool true) := hD.1 rfl _ rfl
    have f82 := (ev_form av 82).symm.trans d82
    have d87 : av.eval (.tmp 87) = (.bool true) := hD.2.1 rfl _ rfl
    have f87 := (ev_form av 87).symm.trans d87
    refine ⟨rfl, ?_⟩
    simp [go_sem, f82, f87, sa, sb]
  case s8 =>
    refine step_val (v := (.bool true)) (fun av wv hE hS hO hD => ?_) (fun _ => rfl)
    have d88 : av.eval (.tmp 88) = (.bool true) := hD.1 rfl _ rfl
    have f88 := (ev_form av 88).symm.trans d88
    refine ⟨rfl, ?_⟩
    simp [go_sem, f88, sa, sb]
  case s9 =>
    refine step_val (v := (.agg #[.int .u64 5, .string z, .string z, .string z])) (fun av wv hE hS hO hD => ?_) (fun _ => rfl)
    have h2 : av.eval (.tmp 2) = (.pointer (some ⟨hb, 0, none⟩)) := hO.2.2 2 rfl
    have f2 := (ev_form av 2).symm.trans h2
    have d89 : av.eval (.tmp 89) = (.bool true) := hD.1 rfl _ rfl
    have f89 := (ev_form av 89).symm.trans d89
    have c0 := extB_cell hE (by simp) c0
    have c1 := extB_cell hE (by simp) c1
    have c2 := extB_cell hE (by simp) c2
    have c3 := extB_cell hE (by simp) c3
    refine ⟨(wanted_of (d := 89) (b := true) (want := true) rfl rfl rfl d89), ?_⟩
    simp [go_sem, f2, f89, c0, c1, c2, c3, sa, sb]
  case s10 =>
    refine step_val (v := (.string z)) (fun av wv hE hS hO hD => ?_) (fun _ => rfl)
    have h1 : av.eval (.tmp 1) = (.string z) := hO.2.2 1 rfl
    have f1 := (ev_form av 1).symm.trans h1
    have d89 : av.eval (.tmp 89) = (.bool true) := hD.1 rfl _ rfl
    have f89 := (ev_form av 89).symm.trans d89
    refine ⟨(wanted_of (d := 89) (b := true) (want := true) rfl rfl rfl d89), ?_⟩
    simp [go_sem, f1, f89, sa, sb]
  case s11 =>
    refine step_wp (fun av wv hE hS hO hD => ?_)
    have d91 : av.eval (.tmp 91) = (.string z) := hD.1 rfl _ rfl
    have f91 := (ev_form av 91).symm.trans d91
    have d89 : av.eval (.tmp 89) = (.bool true) := hD.2.1 rfl _ rfl
    have f89 := (ev_form av 89).symm.trans d89
    refine ⟨(wanted_of (d := 89) (b := true) (want := true) rfl rfl rfl d89), ?_⟩
    refine wp_of_call (v := .agg #[.int .u64 5, .string z, .string z, .string z]) (by simp [go_sem, f91]) (HA5.out wv) (fun w2 hb => ⟨_, rfl, es_of_ext hb, rfl⟩)
  case s12 =>
    refine step_wp (fun av wv hE hS hO hD => ?_)
    have d90 : av.eval (.tmp 90) = (.agg #[.int .u64 5, .string z, .string z, .string z]) := hD.1 rfl _ rfl
    have f90 := (ev_form av 90).symm.trans d90
    have d92 : av.eval (.tmp 92) = (.agg #[.int .u64 5, .string z, .string z, .string z]) := hD.2.1 rfl _ rfl
    have f92 := (ev_form av 92).symm.trans d92
    have d89 : av.eval (.tmp 89) = (.bool true) := hD.2.2.1 rfl _ rfl
    have f89 := (ev_form av 89).symm.trans d89
    refine ⟨(wanted_of (d := 89) (b := true) (want := true) rfl rfl rfl d89), ?_⟩
    exact wp_of_run (v := .slice (some ⟨wv.heap.size, 0, none⟩) 2 2) (w' := wv.alloc (.cells #[.int .u64 5, .string z, .string z, .string z, .int .u64 5, .string z, .string z, .string z] 33)) (by simp [go_sem, f90, f92]) ⟨_, rfl, es_of_ext (balloc (Ext_refl _) _), wv.heap.size, rfl, heap_alloc_new _ _⟩
  case s13 =>
    refine step_wp (fun av wv hE hS hO hD => ?_)
    have d93 : (fun u w' => ∃ b, u = .slice (some ⟨b, 0, none⟩) 2 2 ∧ w'.heap[b]? = some (.cells #[.int .u64 5, .string z, .string z, .string z, .int .u64 5, .string z, .string z, .string z] 33 (0, 0))) (av.eval (.tmp 93)) wv := hD.1 rfl _ rfl
    have d89 : av.eval (.tmp 89) = (.bool true) := hD.2.2.1 rfl _ rfl
    have f89 := (ev_form av 89).symm.trans d89
    refine ⟨(wanted_of (d := 89) (b := true) (want := true) rfl rfl rfl d89), ?_⟩
    obtain ⟨bq, hq, hcq⟩ := d93
    have fq := (ev_form av 93).symm.trans hq
    refine wp_of_call (v := .bool true) (by simp [go_sem, fq]; rfl) (HF5.out wv bq (of_drew hE) hcq) (fun w2 hb => ⟨_, rfl, es_of_ext hb, rfl⟩)
  case s14 =>
    refine step_val (v := (.bool true)) (fun av wv hE hS hO hD => ?_) (fun _ => rfl)
    have d89 : av.eval (.tmp 89) = (.bool true) := hD.1 rfl _ rfl
    have f89 := (ev_form av 89).symm.trans d89
    have d94 : av.eval (.tmp 94) = (.bool true) := hD.2.1 rfl _ rfl
    have f94 := (ev_form av 94).symm.trans d94
    refine ⟨rfl, ?_⟩
    simp [go_sem, f89, f94, sa, sb]
  case s15 =>
    refine step_val (v := (.bool true)) (fun av wv hE hS hO hD => ?_) (fun _ => rfl)
    have d95 : av.eval (.tmp 95) = (.bool true) := hD.1 rfl _ rfl
    have f95 := (ev_form av 95).symm.trans d95
    refine ⟨rfl, ?_⟩
    simp [go_sem, f95, sa, sb]
  case s16 =>
    refine step_val (v := (.agg #[.int .u64 5, .string z, .string z, .string z])) (fun av wv hE hS hO hD => ?_) (fun _ => rfl)
    have h2 : av.eval (.tmp 2) = (.pointer (some ⟨hb, 0, none⟩)) := hO.2.2 2 rfl
    have f2 := (ev_form av 2).symm.trans h2
    have d96 : av.eval (.tmp 96) = (.bool true) := hD.1 rfl _ rfl
    have f96 := (ev_form av 96).symm.trans d96
    have c0 := extB_cell hE (by simp) c0
    have c1 := extB_cell hE (by simp) c1
    have c2 := extB_cell hE (by simp) c2
    have c3 := extB_cell hE (by simp) c3
    refine ⟨(wanted_of (d := 96) (b := true) (want := true) rfl rfl rfl d96), ?_⟩
    simp [go_sem, f2, f96, c0, c1, c2, c3, sa, sb]
  case s17 =>
    refine step_wp (fun av wv hE hS hO hD => ?_)
    have d97 : av.eval (.tmp 97) = (.agg #[.int .u64 5, .string z, .string z, .string z]) := hD.1 rfl _ rfl
    have f97 := (ev_form av 97).symm.trans d97
    have d96 : av.eval (.tmp 96) = (.bool true) := hD.2.1 rfl _ rfl
    have f96 := (ev_form av 96).symm.trans d96
    refine ⟨(wanted_of (d := 96) (b := true) (want := true) rfl rfl rfl d96), ?_⟩
    exact wp_of_run (v := .slice (some ⟨wv.heap.size, 0, none⟩) 1 1) (w' := wv.alloc (.cells #[.int .u64 5, .string z, .string z, .string z] 33)) (by simp [go_sem, f97]) ⟨_, rfl, es_of_ext (balloc (Ext_refl _) _), wv.heap.size, rfl, heap_alloc_new _ _⟩
  case s18 =>
    refine step_wp (fun av wv hE hS hO hD => ?_)
    have d98 : (fun u w' => ∃ b, u = .slice (some ⟨b, 0, none⟩) 1 1 ∧ w'.heap[b]? = some (.cells #[.int .u64 5, .string z, .string z, .string z] 33 (0, 0))) (av.eval (.tmp 98)) wv := hD.1 rfl _ rfl
    have d96 : av.eval (.tmp 96) = (.bool true) := hD.2.1 rfl _ rfl
    have f96 := (ev_form av 96).symm.trans d96
    refine ⟨(wanted_of (d := 96) (b := true) (want := true) rfl rfl rfl d96), ?_⟩
    obtain ⟨bq, hq, hcq⟩ := d98
    have fq := (ev_form av 98).symm.trans hq
    refine wp_of_call (v := .bool true) (by simp [go_sem, fq]; rfl) (HL1.out wv bq (of_drew hE) hcq) (fun w2 hb => ⟨_, rfl, es_of_ext hb, rfl⟩)
  case s19 =>
    refine step_val (v := (.bool true)) (fun av wv hE hS hO hD => ?_) (fun _ => rfl)
    have d96 : av.eval (.tmp 96) = (.bool true) := hD.1 rfl _ rfl
    have f96 := (ev_form av 96).symm.trans d96
    have d99 : av.eval (.tmp 99) = (.bool true) := hD.2.1 rfl _ rfl
    have f99 := (ev_form av 99).symm.trans d99
    refine ⟨rfl, ?_⟩
    simp [go_sem, f96, f99, sa, sb]
  case s20 =>
    refine step_val (v := (.bool true)) (fun av wv hE hS hO hD => ?_) (fun _ => rfl)
    have d100 : av.eval (.tmp 100) = (.bool true) := hD.1 rfl _ rfl
    have f100 := (ev_form av 100).symm.trans d100
    refine ⟨rfl, ?_⟩
    simp [go_sem, f100, sa, sb]
  case s21 =>
    refine step_val (v := (.agg #[.int .u64 5, .string z, .string z, .string z])) (fun av wv hE hS hO hD => ?_) (fun _ => rfl)
    have h2 : av.eval (.tmp 2) = (.pointer (some ⟨hb, 0, none⟩)) := hO.2.2 2 rfl
    have f2 := (ev_form av 2).symm.trans h2
    have d101 : av.eval (.tmp 101) = (.bool true) := hD.1 rfl _ rfl
    have f101 := (ev_form av 101).symm.trans d101
    have c0 := extB_cell hE (by simp) c0
    have c1 := extB_cell hE (by simp) c1
    have c2 := extB_cell hE (by simp) c2
    have c3 := extB_cell hE (by simp) c3
    refine ⟨(wanted_of (d := 101) (b := true) (want := true) rfl rfl rfl d101), ?_⟩
    simp [go_sem, f2, f101, c0, c1, c2, c3, sa, sb]
  case s22 =>
    refine step_val (v := (.string z)) (fun av wv hE hS hO hD => ?_) (fun _ => rfl)
    have h1 : av.eval (.tmp 1) = (.string z) := hO.2.2 1 rfl
    have f1 := (ev_form av 1).symm.trans h1
    have d101 : av.eval (.tmp 101) = (.bool true) := hD.1 rfl _ rfl
    have f101 := (ev_form av 101).symm.trans d101
    refine ⟨(wanted_of (d := 101) (b := true) (want := true) rfl rfl rfl d101), ?_⟩
    simp [go_sem, f1, f101, sa, sb]
  case s23 =>
    refine step_wp (fun av wv hE hS hO hD => ?_)
    have d103 : av.eval (.tmp 103) = (.string z) := hD.1 rfl _ rfl
    have f103 := (ev_form av 103).symm.trans d103
    have d101 : av.eval (.tmp 101) = (.bool true) := hD.2.1 rfl _ rfl
    have f101 := (ev_form av 101).symm.trans d101
    refine ⟨(wanted_of (d := 101) (b := true) (want := true) rfl rfl rfl d101), ?_⟩
    refine wp_of_call (v := .agg #[.int .u64 6, .string z, .string z, .string z]) (by simp [go_sem, f103]) (HA6.out wv) (fun w2 hb => ⟨_, rfl, es_of_ext hb, rfl⟩)
  case s24 =>
    refine step_wp (fun av wv hE hS hO hD => ?_)
    have d102 : av.eval (.tmp 102) = (.agg #[.int .u64 5, .string z, .string z, .string z]) := hD.1 rfl _ rfl
    have f102 := (ev_form av 102).symm.trans d102
    have d104 : av.eval (.tmp 104) = (.agg #[.int .u64 6, .string z, .string z, .string z]) := hD.2.1 rfl _ rfl
    have f104 := (ev_form av 104).symm.trans d104
    have d101 : av.eval (.tmp 101) = (.bool true) := hD.2.2.1 rfl _ rfl
    have f101 := (ev_form av 101).symm.trans d101
    refine ⟨(wanted_of (d := 101) (b := true) (want := true) rfl rfl rfl d101), ?_⟩
    exact wp_of_run (v := .slice (some ⟨wv.heap.size, 0, none⟩) 2 2) (w' := wv.alloc (.cells #[.int .u64 5, .string z, .string z, .string z, .int .u64 6, .string z, .string z, .string z] 33)) (by simp [go_sem, f102, f104]) ⟨_, rfl, es_of_ext (balloc (Ext_refl _) _), wv.heap.size, rfl, heap_alloc_new _ _⟩
  case s25 =>
    refine step_wp (fun av wv hE hS hO hD => ?_)
    have d105 : (fun u w' => ∃ b, u = .slice (some ⟨b, 0, none⟩) 2 2 ∧ w'.heap[b]? = some (.cells #[.int .u64 5, .string z, .string z, .string z, .int .u64 6, .string z, .string z, .string z] 33 (0, 0))) (av.eval (.tmp 105)) wv := hD.1 rfl _ rfl
    have d101 : av.eval (.tmp 101) = (.bool true) := hD.2.2.1 rfl _ rfl
    have f101 := (ev_form av 101).symm.trans d101
    refine ⟨(wanted_of (d := 101) (b := true) (want := true) rfl rfl rfl d101), ?_⟩
    obtain ⟨bq, hq, hcq⟩ := d105
    have fq := (ev_form av 105).symm.trans hq
    refine wp_of_call (v := .bool false) (by simp [go_sem, fq]; rfl) (HL2.out wv bq (of_drew hE) hcq) (fun w2 hb => ⟨_, rfl, es_of_ext hb, rfl⟩)
  case s26 =>
    refine step_val (v := (.bool true)) (fun av wv hE hS hO hD => ?_) (fun _ => rfl)
    have d106 : av.eval (.tmp 106) = (.bool false) := hD.1 rfl _ rfl
    have f106 := (ev_form av 106).symm.trans d106
    have d101 : av.eval (.tmp 101) = (.bool true) := hD.2.1 rfl _ rfl
    have f101 := (ev_form av 101).symm.trans d101
    refine ⟨(wanted_of (d := 101) (b := true) (want := true) rfl rfl rfl d101), ?_⟩
    simp [go_sem, f106, f101, sa, sb]
  case s27 =>
    refine step_val (v := (.bool true)) (fun av wv hE hS hO hD => ?_) (fun _ => rfl)
    have d101 : av.eval (.tmp 101) = (.bool true) := hD.1 rfl _ rfl
    have f101 := (ev_form av 101).symm.trans d101
    have d107 : av.eval (.tmp 107) = (.bool true) := hD.2.1 rfl _ rfl
    have f107 := (ev_form av 107).symm.trans d107
    refine ⟨rfl, ?_⟩
    simp [go_sem, f101, f107, sa, sb]
  case s28 =>
    refine step_val (v := (.bool true)) (fun av wv hE hS hO hD => ?_) (fun _ => rfl)
    have d108 : av.eval (.tmp 108) = (.bool true) := hD.1 rfl _ rfl
    have f108 := (ev_form av 108).symm.trans d108
    refine ⟨rfl, ?_⟩
    simp [go_sem, f108, sa, sb]
  case s29 =>
    refine step_val (v := (.agg #[.int .u64 5, .string z, .string z, .string z])) (fun av wv hE hS hO hD => ?_) (fun _ => rfl)
    have h2 : av.eval (.tmp 2) = (.pointer (some ⟨hb, 0, none⟩)) := hO.2.2 2 rfl
    have f2 := (ev_form av 2).symm.trans h2
    have d109 : av.eval (.tmp 109) = (.bool true) := hD.1 rfl _ rfl
    have f109 := (ev_form av 109).symm.trans d109
    have c0 := extB_cell hE (by simp) c0
    have c1 := extB_cell hE (by simp) c1
    have c2 := extB_cell hE (by simp) c2
    have c3 := extB_cell hE (by simp) c3
    refine ⟨(wanted_of (d := 109) (b := true) (want := true) rfl rfl rfl d109), ?_⟩
    simp [go_sem, f2, f109, c0, c1, c2, c3, sa, sb]
  case s30 =>
    refine step_val (v := (.string d)) (fun av wv hE hS hO hD => ?_) (fun _ => rfl)
    have h5 : av.eval (.tmp 5) = (.string d) := hO.2.2 5 rfl
    have f5 := (ev_form av 5).symm.trans h5
    have d109 : av.eval (.tmp 109) = (.bool true) := hD.1 rfl _ rfl
    have f109 := (ev_form av 109).symm.trans d109
    refine ⟨(wanted_of (d := 109) (b := true) (want := true) rfl rfl rfl d109), ?_⟩
    simp [go_sem, f5, f109, sa, sb]
  case s31 =>
    refine step_wp (fun av wv hE hS hO hD => ?_)
    have d111 : av.eval (.tmp 111) = (.string d) := hD.1 rfl _ rfl
    have f111 := (ev_form av 111).symm.trans d111
    have d109 : av.eval (.tmp 109) = (.bool true) := hD.2.1 rfl _ rfl
    have f109 := (ev_form av 109).symm.trans d109
    refine ⟨(wanted_of (d := 109) (b := true) (want := true) rfl rfl rfl d109), ?_⟩
    refine wp_of_call (v := .agg #[.int .u64 6, .string d, .string z, .string z]) (by simp [go_sem, f111]) (HD6.out wv) (fun w2 hb => ⟨_, rfl, es_of_ext hb, rfl⟩)
  case s32 =>
    refine step_wp (fun av wv hE hS hO hD => ?_)
    have d110 : av.eval (.tmp 110) = (.agg #[.int .u64 5, .string z, .string z, .string z]) := hD.1 rfl _ rfl
    have f110 := (ev_form av 110).symm.trans d110
    have d112 : av.eval (.tmp 112) = (.agg #[.int .u64 6, .string d, .string z, .string z]) := hD.2.1 rfl _ rfl
    have f112 := (ev_form av 112).symm.trans d112
    have d109 : av.eval (.tmp 109) = (.bool true) := hD.2.2.1 rfl _ rfl
    have f109 := (ev_form av 109).symm.trans d109
    refine ⟨(wanted_of (d := 109) (b := true) (want := true) rfl rfl rfl d109), ?_⟩
    exact wp_of_run (v := .slice (some ⟨wv.heap.size, 0, none⟩) 2 2) (w' := wv.alloc (.cells #[.int .u64 5, .string z, .string z, .string z, .int .u64 6, .string d, .string z, .string z] 33)) (by simp [go_sem, f110, f112]) ⟨_, rfl, es_of_ext (balloc (Ext_refl _) _), wv.heap.size, rfl, heap_alloc_new _ _⟩
  case s33 =>
    refine step_wp (fun av wv hE hS hO hD => ?_)
    have d113 : (fun u w' => ∃ b, u = .slice (some ⟨b, 0, none⟩) 2 2 ∧ w'.heap[b]? = some (.cells #[.int .u64 5, .string z, .string z, .string z, .int .u64 6, .string d, .string z, .string z] 33 (0, 0))) (av.eval (.tmp 113)) wv := hD.1 rfl _ rfl
    have d109 : av.eval (.tmp 109) = (.bool true) := hD.2.2.1 rfl _ rfl
    have f109 := (ev_form av 109).symm.trans d109
    refine ⟨(wanted_of (d := 109) (b := true) (want := true) rfl rfl rfl d109), ?_⟩
    obtain ⟨bq, hq, hcq⟩ := d113
    have fq := (ev_form av 113).symm.trans hq
    refine wp_of_call (v := .bool true) (by simp [go_sem, fq]; rfl) (HL3.out wv bq (of_drew hE) hcq) (fun w2 hb => ⟨_, rfl, es_of_ext hb, rfl⟩)
  case s34 =>
    refine step_val (v := (.bool true)) (fun av wv hE hS hO hD => ?_) (fun _ => rfl)
    have d109 : av.eval (.tmp 109) = (.bool true) := hD.1 rfl _ rfl
    have f109 := (ev_form av 109).symm.trans d109
    have d114 : av.eval (.tmp 114) = (.bool true) := hD.2.1 rfl _ rfl
    have f114 := (ev_form av 114).symm.trans d114
    refine ⟨rfl, ?_⟩
    simp [go_sem, f109, f114, sa, sb]
  case s35 =>
    refine step_val (v := (.bool true)) (fun av wv hE hS hO hD => ?_) (fun _ => rfl)
    have d115 : av.eval (.tmp 115) = (.bool true) := hD.1 rfl _ rfl
    have f115 := (ev_form av 115).symm.trans d115
    refine ⟨rfl, ?_⟩
    simp [go_sem, f115, sa, sb]
  case s36 =>
    refine step_val (v := (.int .i64 0)) (fun av wv hE hS hO hD => ?_) (fun _ => rfl)
    have h10 : av.eval (.tmp 10) = (.int .i64 0) := hO.2.2 10 rfl
    have f10 := (ev_form av 10).symm.trans h10
    have d116 : av.eval (.tmp 116) = (.bool true) := hD.1 rfl _ rfl
    have f116 := (ev_form av 116).symm.trans d116
    refine ⟨(wanted_of (d := 116) (b := true) (want := true) rfl rfl rfl d116), ?_⟩
    simp [go_sem, f10, f116, sa, sb]
  case s37 =>
    refine step_val (v := (.bool true)) (fun av wv hE hS hO hD => ?_) (fun _ => rfl)
    have d117 : av.eval (.tmp 117) = (.int .i64 0) := hD.1 rfl _ rfl
    have f117 := (ev_form av 117).symm.trans d117
    have d116 : av.eval (.tmp 116) = (.bool true) := hD.2.1 rfl _ rfl
    have f116 := (ev_form av 116).symm.trans d116
    refine ⟨(wanted_of (d := 116) (b := true) (want := true) rfl rfl rfl d116), ?_⟩
    simp [go_sem, f117, f116, sa, sb]
  case s38 =>
    refine step_val (v := (.bool true)) (fun av wv hE hS hO hD => ?_) (fun _ => rfl)
    have d116 : av.eval (.tmp 116) = (.bool true) := hD.1 rfl _ rfl
    have f116 := (ev_form av 116).symm.trans d116
    have d118 : av.eval (.tmp 118) = (.bool true) := hD.2.1 rfl _ rfl
    have f118 := (ev_form av 118).symm.trans d118
    refine ⟨rfl, ?_⟩
    simp [go_sem, f116, f118, sa, sb]
  case s39 =>
    refine step_val (v := (.bool true)) (fun av wv hE hS hO hD => ?_) (fun _ => rfl)
    have d119 : av.eval (.tmp 119) = (.bool true) := hD.1 rfl _ rfl
    have f119 := (ev_form av 119).symm.trans d119
    refine ⟨rfl, ?_⟩
    simp [go_sem, f119, sa, sb]
  case s40 =>
    refine step_val (v := (.string ta)) (fun av wv hE hS hO hD => ?_) (fun _ => rfl)
    have h9 : av.eval (.tmp 9) = (.string ta) := hO.2.2 9 rfl
    have f9 := (ev_form av 9).symm.trans h9
    have d120 : av.eval (.tmp 120) = (.bool true) := hD.1 rfl _ rfl
    have f120 := (ev_form av 120).symm.trans d120
    refine ⟨(wanted_of (d := 120) (b := true) (want := true) rfl rfl rfl d120), ?_⟩
    simp [go_sem, f9, f120, sa, sb]
  case s41 =>
    refine step_wp (fun av wv hE hS hO hD => ?_)
    have d120 : av.eval (.tmp 120) = (.bool true) := hD.1 rfl _ rfl
    have f120 := (ev_form av 120).symm.trans d120
    refine ⟨(wanted_of (d := 120) (b := true) (want := true) rfl rfl rfl d120), ?_⟩
    refine wp_of_call (v := .string ta) (by simp [go_sem]; rfl) (HNO.out wv) (fun w2 hb => ⟨_, rfl, es_of_ext hb, rfl⟩)
  case s42 =>
    refine step_val (v := (.bool true)) (fun av wv hE hS hO hD => ?_) (fun _ => rfl)
    have d121 : av.eval (.tmp 121) = (.string ta) := hD.1 rfl _ rfl
    have f121 := (ev_form av 121).symm.trans d121
    have d122 : av.eval (.tmp 122) = (.string ta) := hD.2.1 rfl _ rfl
    have f122 := (ev_form av 122).symm.trans d122
    have d120 : av.eval (.tmp 120) = (.bool true) := hD.2.2.1 rfl _ rfl
    have f120 := (ev_form av 120).symm.trans d120
    refine ⟨(wanted_of (d := 120) (b := true) (want := true) rfl rfl rfl d120), ?_⟩
    simp [go_sem, f121, f122, f120, sa, sb]
  case s43 =>
    refine step_val (v := (.bool true)) (fun av wv hE hS hO hD => ?_) (fun _ => rfl)
    have d120 : av.eval (.tmp 120) = (.bool true) := hD.1 rfl _ rfl
    have f120 := (ev_form av 120).symm.trans d120
    have d123 : av.eval (.tmp 123) = (.bool true) := hD.2.1 rfl _ rfl
    have f123 := (ev_form av 123).symm.trans d123
    refine ⟨rfl, ?_⟩
    simp [go_sem, f120, f123, sa, sb]
  case s44 =>
    refine step_val (v := (.bool true)) (fun av wv hE hS hO hD => ?_) (fun _ => rfl)
    have d124 : av.eval (.tmp 124) = (.bool true) := hD.1 rfl _ rfl
    have f124 := (ev_form av 124).symm.trans d124
    refine ⟨rfl, ?_⟩
    simp [go_sem, f124, sa, sb]
  case s45 =>
    refine step_val (v := (.int .i64 0)) (fun av wv hE hS hO hD => ?_) (fun _ => rfl)
    have h12 : av.eval (.tmp 12) = (.int .i64 0) := hO.2.2 12 rfl
    have f12 := (ev_form av 12).symm.trans h12
    have d125 : av.eval (.tmp 125) = (.bool true) := hD.1 rfl _ rfl
    have f125 := (ev_form av 125).symm.trans d125
    refine ⟨(wanted_of (d := 125) (b := true) (want := true) rfl rfl rfl d125), ?_⟩
    simp [go_sem, f12, f125, sa, sb]
  case s46 =>
    refine step_val (v := (.bool true)) (fun av wv hE hS hO hD => ?_) (fun _ => rfl)
    have d126 : av.eval (.tmp 126) = (.int .i64 0) := hD.1 rfl _ rfl
    have f126 := (ev_form av 126).symm.trans d126
    have d125 : av.eval (.tmp 125) = (.bool true) := hD.2.1 rfl _ rfl
    have f125 := (ev_form av 125).symm.trans d125
    refine ⟨(wanted_of (d := 125) (b := true) (want := true) rfl rfl rfl d125), ?_⟩
    simp [go_sem, f126, f125, sa, sb]
  case s47 =>
    refine step_val (v := (.bool true)) (fun av wv hE hS hO hD => ?_) (fun _ => rfl)
    have d125 : av.eval (.tmp 125) = (.bool true) := hD.1 rfl _ rfl
    have f125 := (ev_form av 125).symm.trans d125
    have d127 : av.eval (.tmp 127) = (.bool true) := hD.2.1 rfl _ rfl
    have f127 := (ev_form av 127).symm.trans d127
    refine ⟨rfl, ?_⟩
    simp [go_sem, f125, f127, sa, sb]
  case s48 =>
    refine step_val (v := (.bool true)) (fun av wv hE hS hO hD => ?_) (fun _ => rfl)
    have d128 : av.eval (.tmp 128) = (.bool true) := hD.1 rfl _ rfl
    have f128 := (ev_form av 128).symm.trans d128
    refine ⟨rfl, ?_⟩
    simp [go_sem, f128, sa, sb]
  case s49 =>
    refine step_val (v := (.string tb)) (fun av wv hE hS hO hD => ?_) (fun _ => rfl)
    have h11 : av.eval (.tmp 11) = (.string tb) := hO.2.2 11 rfl
    have f11 := (ev_form av 11).symm.trans h11
    have d129 : av.eval (.tmp 129) = (.bool true) := hD.1 rfl _ rfl
    have f129 := (ev_form av 129).symm.trans d129
    refine ⟨(wanted_of (d := 129) (b := true) (want := true) rfl rfl rfl d129), ?_⟩
    simp [go_sem, f11, f129, sa, sb]
  case s50 =>
    refine step_val (v := (.pointer (some ⟨tp, 0, none⟩))) (fun av wv hE hS hO hD => ?_) (fun _ => rfl)
    have h15 : av.eval (.tmp 15) = (.pointer (some ⟨tp, 0, none⟩)) := hO.2.2 15 rfl
    have f15 := (ev_form av 15).symm.trans h15
    have d129 : av.eval (.tmp 129) = (.bool true) := hD.1 rfl _ rfl
    have f129 := (ev_form av 129).symm.trans d129
    refine ⟨(wanted_of (d := 129) (b := true) (want := true) rfl rfl rfl d129), ?_⟩
    simp [go_sem, f15, f129, sa, sb]
  case s51 =>
    refine step_wp (fun av wv hE hS hO hD => ?_)
    have d131 : av.eval (.tmp 131) = (.pointer (some ⟨tp, 0, none⟩)) := hD.1 rfl _ rfl
    have f131 := (ev_form av 131).symm.trans d131
    have d129 : av.eval (.tmp 129) = (.bool true) := hD.2.1 rfl _ rfl
    have f129 := (ev_form av 129).symm.trans d129
    refine ⟨(wanted_of (d := 129) (b := true) (want := true) rfl rfl rfl d129), ?_⟩
    refine wp_of_call (v := .string tb) (by simp [go_sem, f131]) (HRT.out wv (of_drew hE)) (fun w2 hb => ⟨_, rfl, es_of_ext hb, rfl⟩)
  case s52 =>
    refine step_val (v := (.bool true)) (fun av wv hE hS hO hD => ?_) (fun _ => rfl)
    have d130 : av.eval (.tmp 130) = (.string tb) := hD.1 rfl _ rfl
    have f130 := (ev_form av 130).symm.trans d130
    have d132 : av.eval (.tmp 132) = (.string tb) := hD.2.1 rfl _ rfl
    have f132 := (ev_form av 132).symm.trans d132
    have d129 : av.eval (.tmp 129) = (.bool true) := hD.2.2.1 rfl _ rfl
    have f129 := (ev_form av 129).symm.trans d129
    refine ⟨(wanted_of (d := 129) (b := true) (want := true) rfl rfl rfl d129), ?_⟩
    simp [go_sem, f130, f132, f129, sa, sb]
  case s53 =>
    refine step_val (v := (.bool true)) (fun av wv hE hS hO hD => ?_) (fun _ => rfl)
    have d129 : av.eval (.tmp 129) = (.bool true) := hD.1 rfl _ rfl
    have f129 := (ev_form av 129).symm.trans d129
    have d133 : av.eval (.tmp 133) = (.bool true) := hD.2.1 rfl _ rfl
    have f133 := (ev_form av 133).symm.trans d133
    refine ⟨rfl, ?_⟩
    simp [go_sem, f129, f133, sa, sb]
  case s54 =>
    refine step_val (v := (.bool true)) (fun av wv hE hS hO hD => ?_) (fun _ => rfl)
    have d134 : av.eval (.tmp 134) = (.bool true) := hD.1 rfl _ rfl
    have f134 := (ev_form av 134).symm.trans d134
    refine ⟨rfl, ?_⟩
    simp [go_sem, f134, sa, sb]
  case s55 =>
    refine step_val (v := (.int .i64 2)) (fun av wv hE hS hO hD => ?_) (fun _ => rfl)
    have h14 : av.eval (.tmp 14) = (.int .i64 2) := hO.2.2 14 rfl
    have f14 := (ev_form av 14).symm.trans h14
    have d135 : av.eval (.tmp 135) = (.bool true) := hD.1 rfl _ rfl
    have f135 := (ev_form av 135).symm.trans d135
    refine ⟨(wanted_of (d := 135) (b := true) (want := true) rfl rfl rfl d135), ?_⟩
    simp [go_sem, f14, f135, sa, sb]
  case s56 =>
    refine step_val (v := (.bool true)) (fun av wv hE hS hO hD => ?_) (fun _ => rfl)
    have d136 : av.eval (.tmp 136) = (.int .i64 2) := hD.1 rfl _ rfl
    have f136 := (ev_form av 136).symm.trans d136
    have d135 : av.eval (.tmp 135) = (.bool true) := hD.2.1 rfl _ rfl
    have f135 := (ev_form av 135).symm.trans d135
    refine ⟨(wanted_of (d := 135) (b := true) (want := true) rfl rfl rfl d135), ?_⟩
    simp [go_sem, f136, f135, sa, sb]
  case s57 =>
    refine step_val (v := (.bool true)) (fun av wv hE hS hO hD => ?_) (fun _ => rfl)
    have d135 : av.eval (.tmp 135) = (.bool true) := hD.1 rfl _ rfl
    have f135 := (ev_form av 135).symm.trans d135
    have d137 : av.eval (.tmp 137) = (.bool true) := hD.2.1 rfl _ rfl
    have f137 := (ev_form av 137).symm.trans d137
    refine ⟨rfl, ?_⟩
    simp [go_sem, f135, f137, sa, sb]
  case s58 =>
    refine step_val (v := (.bool true)) (fun av wv hE hS hO hD => ?_) (fun _ => rfl)
    have d138 : av.eval (.tmp 138) = (.bool true) := hD.1 rfl _ rfl
    have f138 := (ev_form av 138).symm.trans d138
    refine ⟨rfl, ?_⟩
    simp [go_sem, f138, sa, sb]
  intro a' w' hE hO hall
  have hA := act_of_outer (ds := [81, 82, 83, 84, 85, 86, 87, 88, 89, 90, 91, 92, 93, 94, 95, 96, 97, 98, 99, 100, 101, 102, 103, 104, 105, 106, 107, 108, 109, 110, 111, 112, 113, 114, 115, 116, 117, 118, 119, 120, 121, 122, 123, 124, 125, 126, 127, 128, 129, 130, 131, 132, 133, 134, 135, 136, 137, 138, 0]) rfl hO (by kernel_rfl)
  have e81 : (fun u _ => u = (.bool true)) (a'.eval (.tmp 81)) w' := hall.1 _ rfl
  have e82 : (fun u _ => u = (.bool true)) (a'.eval (.tmp 82)) w' := hall.2.1 _ rfl
  have e83 : (fun u _ => u = (.agg #[.int .u64 5, .string z, .string z, .string z])) (a'.eval (.tmp 83)) w' := hall.2.2.1 _ rfl
  have e84 : (fun u _ => u = (.string z)) (a'.eval (.tmp 84)) w' := hall.2.2.2.1 _ rfl
  have e85 : (fun u _ => u = (.agg #[.int .u64 7, .string z, .string z, .string z])) (a'.eval (.tmp 85)) w' := hall.2.2.2.2.1 _ rfl
  have e86 : (fun u w' => ∃ b, u = .slice (some ⟨b, 0, none⟩) 2 2 ∧ w'.heap[b]? = some (.cells #[.int .u64 5, .string z, .string z, .string z, .int .u64 7, .string z, .string z, .string z] 33 (0, 0))) (a'.eval (.tmp 86)) w' := hall.2.2.2.2.2.1 _ rfl
  have e87 : (fun u _ => u = (.bool true)) (a'.eval (.tmp 87)) w' := hall.2.2.2.2.2.2.1 _ rfl
  have e88 : (fun u _ => u = (.bool true)) (a'.eval (.tmp 88)) w' := hall.2.2.2.2.2.2.2.1 _ rfl
  have e89 : (fun u _ => u = (.bool true)) (a'.eval (.tmp 89)) w' := hall.2.2.2.2.2.2.2.2.1 _ rfl
  have e90 : (fun u _ => u = (.agg #[.int .u64 5, .string z, .string z, .string z])) (a'.eval (.tmp 90)) w' := hall.2.2.2.2.2.2.2.2.2.1 _ rfl
  have e91 : (fun u _ => u = (.string z)) (a'.eval (.tmp 91)) w' := hall.2.2.2.2.2.2.2.2.2.2.1 _ rfl
  have e92 : (fun u _ => u = (.agg #[.int .u64 5, .string z, .string z, .string z])) (a'.eval (.tmp 92)) w' := hall.2.2.2.2.2.2.2.2.2.2.2.1 _ rfl
  have e93 : (fun u w' => ∃ b, u = .slice (some ⟨b, 0, none⟩) 2 2 ∧ w'.heap[b]? = some (.cells #[.int .u64 5, .string z, .string z, .string z, .int .u64 5, .string z, .string z, .string z] 33 (0, 0))) (a'.eval (.tmp 93)) w' := hall.2.2.2.2.2.2.2.2.2.2.2.2.1 _ rfl
  have e94 : (fun u _ => u = (.bool true)) (a'.eval (.tmp 94)) w' := hall.2.2.2.2.2.2.2.2.2.2.2.2.2.1 _ rfl
  have e95 : (fun u _ => u = (.bool true)) (a'.eval (.tmp 95)) w' := hall.2.2.2.2.2.2.2.2.2.2.2.2.2.2.1 _ rfl
  have e96 : (fun u _ => u = (.bool true)) (a'.eval (.tmp 96)) w' := hall.2.2.2.2.2.2.2.2.2.2.2.2.2.2.2.1 _ rfl
  have e97 : (fun u _ => u = (.agg #[.int .u64 5, .string z, .string z, .string z])) (a'.eval (.tmp 97)) w' := hall.2.2.2.2.2.2.2.2.2.2.2.2.2.2.2.2.1 _ rfl
  have e98 : (fun u w' => ∃ b, u = .slice (some ⟨b, 0, none⟩) 1 1 ∧ w'.heap[b]? = some (.cells #[.int .u64 5, .string z, .string z, .string z] 33 (0, 0))) (a'.eval (.tmp 98)) w' := hall.2.2.2.2.2.2.2.2.2.2.2.2.2.2.2.2.2.1 _ rfl
  have e99 : (fun u _ => u = (.bool true)) (a'.eval (.tmp 99)) w' := hall.2.2.2.2.2.2.2.2.2.2.2.2.2.2.2.2.2.2.1 _ rfl
  have e100 : (fun u _ => u = (.bool true)) (a'.eval (.tmp 100)) w' := hall.2.2.2.2.2.2.2.2.2.2.2.2.2.2.2.2.2.2.2.1 _ rfl
  have e101 : (fun u _ => u = (.bool true)) (a'.eval (.tmp 101)) w' := hall.2.2.2.2.2.2.2.2.2.2.2.2.2.2.2.2.2.2.2.2.1 _ rfl
  have e102 : (fun u _ => u = (.agg #[.int .u64 5, .string z, .string z, .string z])) (a'.eval (.tmp 102)) w' := hall.2.2.2.2.2.2.2.2.2.2.2.2.2.2.2.2.2.2.2.2.2.1 _ rfl
  have e103 : (fun u _ => u = (.string z)) (a'.eval (.tmp 103)) w' := hall.2.2.2.2.2.2.2.2.2.2.2.2.2.2.2.2.2.2.2.2.2.2.1 _ rfl
  have e104 : (fun u _ => u = (.agg #[.int .u64 6, .string z, .string z, .string z])) (a'.eval (.tmp 104)) w' := hall.2.2.2.2.2.2.2.2.2.2.2.2.2.2.2.2.2.2.2.2.2.2.2.1 _ rfl
  have e105 : (fun u w' => ∃ b, u = .slice (some ⟨b, 0, none⟩) 2 2 ∧ w'.heap[b]? = some (.cells #[.int .u64 5, .string z, .string z, .string z, .int .u64 6, .string z, .string z, .string z] 33 (0, 0))) (a'.eval (.tmp 105)) w' := hall.2.2.2.2.2.2.2.2.2.2.2.2.2.2.2.2.2.2.2.2.2.2.2.2.1 _ rfl
  have e106 : (fun u _ => u = (.bool false)) (a'.eval (.tmp 106)) w' := hall.2.2.2.2.2.2.2.2.2.2.2.2.2.2.2.2.2.2.2.2.2.2.2.2.2.1 _ rfl
  have e107 : (fun u _ => u = (.bool true)) (a'.eval (.tmp 107)) w' := hall.2.2.2.2.2.2.2.2.2.2.2.2.2.2.2.2.2.2.2.2.2.2.2.2.2.2.1 _ rfl
  have e108 : (fun u _ => u = (.bool true)) (a'.eval (.tmp 108)) w' := hall.2.2.2.2.2.2.2.2.2.2.2.2.2.2.2.2.2.2.2.2.2.2.2.2.2.2.2.1 _ rfl
  have e109 : (fun u _ => u = (.bool true)) (a'.eval (.tmp 109)) w' := hall.2.2.2.2.2.2.2.2.2.2.2.2.2.2.2.2.2.2.2.2.2.2.2.2.2.2.2.2.1 _ rfl
  have e110 : (fun u _ => u = (.agg #[.int .u64 5, .string z, .string z, .string z])) (a'.eval (.tmp 110)) w' := hall.2.2.2.2.2.2.2.2.2.2.2.2.2.2.2.2.2.2.2.2.2.2.2.2.2.2.2.2.2.1 _ rfl
  have e111 : (fun u _ => u = (.string d)) (a'.eval (.tmp 111)) w' := hall.2.2.2.2.2.2.2.2.2.2.2.2.2.2.2.2.2.2.2.2.2.2.2.2.2.2.2.2.2.2.1 _ rfl
  have e112 : (fun u _ => u = (.agg #[.int .u64 6, .string d, .string z, .string z])) (a'.eval (.tmp 112)) w' := hall.2.2.2.2.2.2.2.2.2.2.2.2.2.2.2.2.2.2.2.2.2.2.2.2.2.2.2.2.2.2.2.1 _ rfl
  have e113 : (fun u w' => ∃ b, u = .slice (some ⟨b, 0, none⟩) 2 2 ∧ w'.heap[b]? = some (.cells #[.int .u64 5, .string z, .string z, .string z, .int .u64 6, .string d, .string z, .string z] 33 (0, 0))) (a'.eval (.tmp 113)) w' := hall.2.2.2.2.2.2.2.2.2.2.2.2.2.2.2.2.2.2.2.2.2.2.2.2.2.2.2.2.2.2.2.2.1 _ rfl
  have e114 : (fun u _ => u = (.bool true)) (a'.eval (.tmp 114)) w' := hall.2.2.2.2.2.2.2.2.2.2.2.2.2.2.2.2.2.2.2.2.2.2.2.2.2.2.2.2.2.2.2.2.2.1 _ rfl
  have e115 : (fun u _ => u = (.bool true)) (a'.eval (.tmp 115)) w' := hall.2.2.2.2.2.2.2.2.2.2.2.2.2.2.2.2.2.2.2.2.2.2.2.2.2.2.2.2.2.2.2.2.2.2.1 _ rfl
  have e116 : (fun u _ => u = (.bool true)) (a'.eval (.tmp 116)) w' := hall.2.2.2.2.2.2.2.2.2.2.2.2.2.2.2.2.2.2.2.2.2.2.2.2.2.2.2.2.2.2.2.2.2.2.2.1 _ rfl
  have e117 : (fun u _ => u = (.int .i64 0)) (a'.eval (.tmp 117)) w' := hall.2.2.2.2.2.2.2.2.2.2.2.2.2.2.2.2.2.2.2.2.2.2.2.2.2.2.2.2.2.2.2.2.2.2.2.2.1 _ rfl
  have e118 : (fun u _ => u = (.bool true)) (a'.eval (.tmp 118)) w' := hall.2.2.2.2.2.2.2.2.2.2.2.2.2.2.2.2.2.2.2.2.2.2.2.2.2.2.2.2.2.2.2.2.2.2.2.2.2.1 _ rfl
  have e119 : (fun u _ => u = (.bool true)) (a'.eval (.tmp 119)) w' := hall.2.2.2.2.2.2.2.2.2.2.2.2.2.2.2.2.2.2.2.2.2.2.2.2.2.2.2.2.2.2.2.2.2.2.2.2.2.2.1 _ rfl
  have e120 : (fun u _ => u = (.bool true)) (a'.eval (.tmp 120)) w' := hall.2.2.2.2.2.2.2.2.2.2.2.2.2.2.2.2.2.2.2.2.2.2.2.2.2.2.2.2.2.2.2.2.2.2.2.2.2.2.2.1 _ rfl
  have e121 : (fun u _ => u = (.string ta)) (a'.eval (.tmp 121)) w' := hall.2.2.2.2.2.2.2.2.2.2.2.2.2.2.2.2.2.2.2.2.2.2.2.2.2.2.2.2.2.2.2.2.2.2.2.2.2.2.2.2.1 _ rfl
  have e122 : (fun u _ => u = (.string ta)) (a'.eval (.tmp 122)) w' := hall.2.2.2.2.2.2.2.2.2.2.2.2.2.2.2.2.2.2.2.2.2.2.2.2.2.2.2.2.2.2.2.2.2.2.2.2.2.2.2.2.2.1 _ rfl
  have e123 : (fun u _ => u = (.bool true)) (a'.eval (.tmp 123)) w' := hall.2.2.2.2.2.2.2.2.2.2.2.2.2.2.2.2.2.2.2.2.2.2.2.2.2.2.2.2.2.2.2.2.2.2.2.2.2.2.2.2.2.2.1 _ rfl
  have e124 : (fun u _ => u = (.bool true)) (a'.eval (.tmp 124)) w' := hall.2.2.2.2.2.2.2.2.2.2.2.2.2.2.2.2.2.2.2.2.2.2.2.2.2.2.2.2.2.2.2.2.2.2.2.2.2.2.2.2.2.2.2.1 _ rfl
  have e125 : (fun u _ => u = (.bool true)) (a'.eval (.tmp 125)) w' := hall.2.2.2.2.2.2.2.2.2.2.2.2.2.2.2.2.2.2.2.2.2.2.2.2.2.2.2.2.2.2.2.2.2.2.2.2.2.2.2.2.2.2.2.2.1 _ rfl
  have e126 : (fun u _ => u = (.int .i64 0)) (a'.eval (.tmp 126)) w' := hall.2.2.2.2.2.2.2.2.2.2.2.2.2.2.2.2.2.2.2.2.2.2.2.2.2.2.2.2.2.2.2.2.2.2.2.2.2.2.2.2.2.2.2.2.2.1 _ rfl
  have e127 : (fun u _ => u = (.bool true)) (a'.eval (.tmp 127)) w' := hall.2.2.2.2.2.2.2.2.2.2.2.2.2.2.2.2.2.2.2.2.2.2.2.2.2.2.2.2.2.2.2.2.2.2.2.2.2.2.2.2.2.2.2.2.2.2.1 _ rfl
  have e128 : (fun u _ => u = (.bool true)) (a'.eval (.tmp 128)) w' := hall.2.2.2.2.2.2.2.2.2.2.2.2.2.2.2.2.2.2.2.2.2.2.2.2.2.2.2.2.2.2.2.2.2.2.2.2.2.2.2.2.2.2.2.2.2.2.2.1 _ rfl
  have e129 : (fun u _ => u = (.bool true)) (a'.eval (.tmp 129)) w' := hall.2.2.2.2.2.2.2.2.2.2.2.2.2.2.2.2.2.2.2.2.2.2.2.2.2.2.2.2.2.2.2.2.2.2.2.2.2.2.2.2.2.2.2.2.2.2.2.2.1 _ rfl
  have e130 : (fun u _ => u = (.string tb)) (a'.eval (.tmp 130)) w' := hall.2.2.2.2.2.2.2.2.2.2.2.2.2.2.2.2.2.2.2.2.2.2.2.2.2.2.2.2.2.2.2.2.2.2.2.2.2.2.2.2.2.2.2.2.2.2.2.2.2.1 _ rfl
  have e131 : (fun u _ => u = (.pointer (some ⟨tp, 0, none⟩))) (a'.eval (.tmp 131)) w' := hall.2.2.2.2.2.2.2.2.2.2.2.2.2.2.2.2.2.2.2.2.2.2.2.2.2.2.2.2.2.2.2.2.2.2.2.2.2.2.2.2.2.2.2.2.2.2.2.2.2.2.1 _ rfl
  have e132 : (fun u _ => u = (.string tb)) (a'.eval (.tmp 132)) w' := hall.2.2.2.2.2.2.2.2.2.2.2.2.2.2.2.2.2.2.2.2.2.2.2.2.2.2.2.2.2.2.2.2.2.2.2.2.2.2.2.2.2.2.2.2.2.2.2.2.2.2.2.1 _ rfl
  have e133 : (fun u _ => u = (.bool true)) (a'.eval (.tmp 133)) w' := hall.2.2.2.2.2.2.2.2.2.2.2.2.2.2.2.2.2.2.2.2.2.2.2.2.2.2.2.2.2.2.2.2.2.2.2.2.2.2.2.2.2.2.2.2.2.2.2.2.2.2.2.2.1 _ rfl
  have e134 : (fun u _ => u = (.bool true)) (a'.eval (.tmp 134)) w' := hall.2.2.2.2.2.2.2.2.2.2.2.2.2.2.2.2.2.2.2.2.2.2.2.2.2.2.2.2.2.2.2.2.2.2.2.2.2.2.2.2.2.2.2.2.2.2.2.2.2.2.2.2.2.1 _ rfl
  have e135 : (fun u _ => u = (.bool true)) (a'.eval (.tmp 135)) w' := hall.2.2.2.2.2.2.2.2.2.2.2.2.2.2.2.2.2.2.2.2.2.2.2.2.2.2.2.2.2.2.2.2.2.2.2.2.2.2.2.2.2.2.2.2.2.2.2.2.2.2.2.2.2.2.1 _ rfl
  have e136 : (fun u _ => u = (.int .i64 2)) (a'.eval (.tmp 136)) w' := hall.2.2.2.2.2.2.2.2.2.2.2.2.2.2.2.2.2.2.2.2.2.2.2.2.2.2.2.2.2.2.2.2.2.2.2.2.2.2.2.2.2.2.2.2.2.2.2.2.2.2.2.2.2.2.2.1 _ rfl
  have e137 : (fun u _ => u = (.bool true)) (a'.eval (.tmp 137)) w' := hall.2.2.2.2.2.2.2.2.2.2.2.2.2.2.2.2.2.2.2.2.2.2.2.2.2.2.2.2.2.2.2.2.2.2.2.2.2.2.2.2.2.2.2.2.2.2.2.2.2.2.2.2.2.2.2.2.1 _ rfl
  have e138 : (fun u _ => u = (.bool true)) (a'.eval (.tmp 138)) w' := hall.2.2.2.2.2.2.2.2.2.2.2.2.2.2.2.2.2.2.2.2.2.2.2.2.2.2.2.2.2.2.2.2.2.2.2.2.2.2.2.2.2.2.2.2.2.2.2.2.2.2.2.2.2.2.2.2.2.1 _ rfl
  have e0 : (fun u _ => u = (.bool true)) (a'.eval (.tmp 0)) w' := hall.2.2.2.2.2.2.2.2.2.2.2.2.2.2.2.2.2.2.2.2.2.2.2.2.2.2.2.2.2.2.2.2.2.2.2.2.2.2.2.2.2.2.2.2.2.2.2.2.2.2.2.2.2.2.2.2.2.2.1 _ rfl
  obtain ⟨v86, hv86⟩ : ∃ v, a'.eval (.tmp 86) = v := ⟨_, rfl⟩
  rw [hv86] at e86
  obtain ⟨v93, hv93⟩ : ∃ v, a'.eval (.tmp 93) = v := ⟨_, rfl⟩
  rw [hv93] at e93
  obtain ⟨v98, hv98⟩ : ∃ v, a'.eval (.tmp 98) = v := ⟨_, rfl⟩
  rw [hv98] at e98
  obtain ⟨v105, hv105⟩ : ∃ v, a'.eval (.tmp 105) = v := ⟨_, rfl⟩
  rw [hv105] at e105
  obtain ⟨v113, hv113⟩ : ∃ v, a'.eval (.tmp 113) = v := ⟨_, rfl⟩
  rw [hv113] at e113
  simp only [List.foldl_cons, List.foldl_nil, Act.put, List.setIfInBounds_toArray, List.set_cons_succ, List.set_cons_zero, e81, e82, e83, e84, e85, hv86, e87, e88, e89, e90, e91, e92, hv93, e94, e95, e96, e97, hv98, e99, e100, e101, e102, e103, e104, hv105, e106, e107, e108, e109, e110, e111, e112, hv113, e114, e115, e116, e117, e118, e119, e120, e121, e122, e123, e124, e125, e126, e127, e128, e129, e130, e131, e132, e133, e134, e135, e136, e137, e138, e0] at hA
  clear hO hall e81 e82 e83 e84 e85 hv86 e87 e88 e89 e90 e91 e92 hv93 e94 e95 e96 e97 hv98 e99 e100 e101 e102 e103 e104 hv105 e106 e107 e108 e109 e110 e111 e112 hv113 e114 e115 e116 e117 e118 e119 e120 e121 e122 e123 e124 e125 e126 e127 e128 e129 e130 e131 e132 e133 e134 e135 e136 e137 e138 e0
  subst hA
  have HBE : Hid (Below w.heap.size w w') := Lib.hid (bnext HB11.out (of_drew hE))
  clear hE
  go_wp2
  go_ret
  exact ⟨rfl, HBE.out⟩
end Go.Proofs.YtpobhbdomldecaaGreatDoor
