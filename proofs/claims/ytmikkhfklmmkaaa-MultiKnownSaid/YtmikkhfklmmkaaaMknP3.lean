/- Parts of the proof, one behind the other. -/
import Derived.Test.YtmikkhfklmmkaaaMknP2
import Derived.Laws.BytesArg
import Derived.Laws.EntriesVeiled
import Derived.BigQuiet
import Derived.Maps.AppendAt
import Derived.ArgAppend
import Derived.Laws.AppendOwnNone
import Derived.ProofKit
import Derived.OpenShut
import Derived.ShutString
import Derived.ChangeOld
import Derived.Deep.Slices
import Derived.Deep.Fields
import Derived.ChangeMaps5
namespace Go.Proofs.Ytmikkhfklmmkaaa
open Go.RowKit
set_option linter.unusedSimpArgs false
set_option linter.unusedVariables false
theorem nums_str (L : List UInt8) : strOfNums (L.map fun b => (b.toNat : Int)) = ⟨L.toArray⟩ := by
  have h : (strOfNums (L.map fun b => (b.toNat : Int))).data.toList = L := by
    rw [strOfNums_data, List.map_map]
    conv => rhs; rw [← List.map_id L]
    refine List.map_congr_left fun x _ => ?_
    simp
  exact ByteArray.ext (Array.ext' (by rw [h]))
theorem conv_block (w : World) (g off cap n : Nat) (L : List UInt8) (hn : L.length = n) (hc : ∀ i, i < n → w.cell? ⟨g, off + i, none⟩ = some (byV (L.getD i 0))) :
    (convert 76 9 (.slice (some ⟨g, off, none⟩) n cap)).run Try.prog w = .ok (.string ⟨L.toArray⟩) w := by
  have h := run_convert_bytes_arg (P := Try.prog) (w := w) 76 5 Try.underlying76 Try.underlying5 g off n cap (L.map fun b => (b.toNat : Int)) (by rw [List.length_map, hn]) (fun i hi => by
    rw [hc i hi]
    have hi2 : i < L.length := by omega
    unfold byV
    rw [List.getD_eq_getElem?_getD, List.getElem?_eq_getElem hi2, List.getD_eq_getElem?_getD, List.getElem?_map, List.getElem?_eq_getElem hi2]; rfl) 9 Try.underlying9
  rw [nums_str] at h
  exact h
theorem conv_new (w : World) (t : TypeId) (cap n : Nat) (L : List UInt8) (hn : L.length = n) : (convert 76 9 (.slice (some ⟨w.heap.size, 0, none⟩) n cap)).run Try.prog (w.alloc (.cells (L.map byV).toArray t)) = .ok (.string ⟨L.toArray⟩) (w.alloc (.cells (L.map byV).toArray t)) := by
  refine conv_block _ _ _ _ _ L hn fun i hi => ?_
  have hb : (w.alloc (.cells (L.map byV).toArray t)).heap[w.heap.size]? = some (.cells (L.map byV).toArray t (0, 0)) := alloc_new_at _ rfl
  have hi2 : i < L.length := by omega
  rw [block_cell hb, Nat.zero_add, List.getElem?_toArray, List.getElem?_map, List.getElem?_eq_getElem hi2, List.getD_eq_getElem?_getD, List.getElem?_eq_getElem hi2]
  rfl
theorem conv_own {w : World} {base n : Nat} {v : Value} {L : List UInt8} (h : w.ownsRow base 5 1 v n (L.map byV)) (hn : L.length = n) (h0 : 0 < n) : (convert 76 9 v).run Try.prog w = .ok (.string ⟨L.toArray⟩) w := by
  rcases h.2 with ⟨rfl, h1⟩ | ⟨g, cap, cur, rfl, _, _, _, _, _, _⟩
  · omega
  · refine conv_block _ _ _ _ _ L hn fun i hi => ?_
    have h2 := h.cellAt i (by omega)
    have hi2 : i < L.length := by omega
    rw [Nat.zero_add, h2, List.getElem?_map, List.getElem?_eq_getElem hi2, List.getD_eq_getElem?_getD, List.getElem?_eq_getElem hi2]
    rfl
end Go.Proofs.Ytmikkhfklmmkaaa
namespace Go.Proofs.Ytmikkhfklmmkaaa
open Go.RowKit
set_option linter.unusedSimpArgs false
set_option linter.unusedVariables false
def filB (K : List UInt8) (k m : Nat) : List UInt8 := K.take m ++ List.replicate (k - m) 0
def filC (K : List UInt8) (k m : Nat) : Array Value := ((filB K k m).map byV).toArray
theorem filC_at (K : List UInt8) (k m : Nat) (h : m < k) (hk : K.length = k) : (filC K k m)[m]? = some (byV 0) := by
  unfold filC filB
  rw [List.getElem?_toArray, List.getElem?_map, List.getElem?_append_right (by rw [List.length_take]; omega), List.length_take, show m - min m K.length = 0 by omega]
  rw [show k - m = (k - m - 1) + 1 by omega, List.replicate_succ]
  rfl
theorem filC_set (K : List UInt8) (k m : Nat) (h : m < k) (hk : K.length = k) : (filC K k m).setIfInBounds m (byV (K.getD m 0)) = filC K k (m + 1) := by
  unfold filC filB
  rw [List.setIfInBounds_toArray, ← List.map_set]
  congr 2
  rw [List.set_append_right _ _ (by rw [List.length_take]; omega), List.length_take, show m - min m K.length = 0 by omega]
  rw [show k - m = (k - (m + 1)) + 1 by omega, List.replicate_succ, List.set_cons_zero, List.take_succ_eq_append_getElem (by omega), List.append_assoc]
  congr 1
  rw [List.getD_eq_getElem?_getD, List.getElem?_eq_getElem (by omega)]
  rfl
theorem filC_all (K : List UInt8) (k : Nat) (hk : K.length = k) : filC K k k = (K.map byV).toArray := by
  unfold filC filB
  rw [Nat.sub_self, List.replicate_zero, List.append_nil, ← hk, List.take_length]
theorem num8_byte (N m : Nat) (h : m < 8) : Value.int .u8 ((N : Int) / 2 ^ (8 * (7 - m)) % 256) = byV ((num8 N).getD m 0) := by
  have h1 : (num8 N).getD m 0 = UInt8.ofNat (N / 256 ^ (7 - m)) := by
    rw [List.getD_eq_getElem?_getD, num8_get N m h]; rfl
  rw [h1]
  unfold byV
  congr 1
  rw [UInt8.toNat_ofNat', show (2 : Int) ^ (8 * (7 - m)) = ((256 ^ (7 - m) : Nat) : Int) by rw [Int.pow_mul]; simp]
  simp
theorem byV_block {w : World} {b : Nat} {L : List UInt8} {t : TypeId} {fr : Nat × Nat} (h : w.heap[b]? = some (.cells (L.map byV).toArray t fr)) (i : Nat) (hi : i < L.length) : w.cell? ⟨b, 0 + i, none⟩ = some (byV (L.getD i 0)) := by
  rw [block_cell h, Nat.zero_add, List.getElem?_toArray, List.getElem?_map, List.getElem?_eq_getElem hi, List.getD_eq_getElem?_getD, List.getElem?_eq_getElem hi]
  rfl
theorem word4_vals (x : W32) : [Value.int .u8 (wI x / 16777216 % 256), .int .u8 (wI x / 65536 % 256), .int .u8 (wI x / 256 % 256), .int .u8 (wI x % 256)] = (word4 x).map byV := by
  unfold word4 byV wI
  simp [UInt8.toNat_ofNat']
theorem outW_snoc (v : St8) (t : Nat) (h : t < 8) : (((stL v).take (t + 1)).map word4).flatten = (((stL v).take t).map word4).flatten ++ word4 (wth (stL v) t) := by
  rw [List.take_succ_eq_append_getElem h, List.map_append, List.flatten_append, wth_eq _ _ h]
  simp
theorem outW_eq (v : St8) : ((stL v).map word4).flatten = outW v := by
  unfold stL outW
  simp
end Go.Proofs.Ytmikkhfklmmkaaa
namespace Go.Proofs.Ytmikkhfklmmkaaa
open Go.RowKit
set_option linter.unusedSimpArgs false
set_option linter.unusedVariables false
def zero8 : List W32 := List.replicate 8 0
set_option maxRecDepth 100000 in
set_option maxHeartbeats 4000000 in
theorem first_any (w : World) : Calls Try.prog 64 #[] w fun e w' => e = .returned (.agg (wsC (stL st0))) ∧ Below w.heap.size w w' := by
  go_enter Try.func64, Try.ntmps64
  go_upto_region 1 with fail
  obtain ⟨b, hb⟩ : ∃ b, w.heap.size = b := ⟨_, rfl⟩
  show Code.wp _ _ _ _ (w.alloc (.cells (wsC zero8) 111))
  obtain ⟨V, hV⟩ : ∃ V, w.alloc (.cells (wsC zero8) 111) = V := ⟨_, rfl⟩
  have HV : Hid (V.heap[b]? = some (.cells (wsC zero8) 111 (0, 0))) := Lib.hid (by rw [← hV, ← hb]; exact heap_alloc_new _ _)
  have HS : Hid (Below w.heap.size w V) := Lib.hid (by rw [← hV]; exact balloc (Below.refl _ _) _)
  have HBW : Hid (w.heap.size ≤ b) := Lib.hid (Nat.le_of_eq hb)
  rw [hV, hb]
  clear hV hb
  apply wp_region_lit
  refine wpList_build rfl 111 _ rfl (by as_aux_lemma => kernel_rfl) ?_
  refine wpList_store_row rfl 111 _ _ rfl b (wsC (stL st0)) rfl (by as_aux_lemma => kernel_rfl) 111 (wsC zero8) HV.out (by as_aux_lemma => kernel_rfl) (by as_aux_lemma => kernel_rfl) (by as_aux_lemma => kernel_rfl) ?_
  apply wpList_nil
  obtain ⟨U, hU⟩ : ∃ U, V.setRow b (wsC (stL st0)) = U := ⟨_, rfl⟩
  have HU : Hid (U.heap[b]? = some (.cells (wsC (stL st0)) 111 (0, 0))) := Lib.hid (by rw [← hU]; exact setRow_heap V b _ _ _ _ HV.out)
  have HUB : Hid (Below w.heap.size w U) := Lib.hid (by
    rw [← hU]
    exact ⟨HS.out.os, HS.out.tape, HS.out.output, by rw [setRow_size]; exact HS.out.size, fun i hi => by rw [setRow_other _ _ _ _ (show i ≠ b by have := HBW.out; omega)]; exact HS.out.block i hi⟩)
  rw [hU]
  rename_i Q' K hK
  refine hK _ _ ?_
  apply wp_ret
  refine bodyPost_ret (v := .agg (wsC (stL st0))) ?_ rfl ?_
  · exact results_cell_row rfl _ _ b 111 (wsC (stL st0)) (0, 0) _ rfl HU.out rfl rfl (by as_aux_lemma => kernel_rfl)
  · exact ⟨rfl, HUB.out⟩
def zero64 : List UInt8 := List.replicate 64 0
set_option maxRecDepth 100000 in
theorem built_hsh : Try.prog.built 115 [(0, .agg (wsC (stL st0)))] = some (hshC st0 zero64 ((0 : Nat) : Int)) := by kernel_rfl
def NewIsH (w : World) (e : Ending) (w' : World) : Prop := ∃ b, e = .returned (.pointer (some ⟨b, 0, none⟩)) ∧ w.heap.size ≤ b ∧ HshIs b [] w' ∧ Below w.heap.size w w'
theorem zero64_len : zero64.length = 64 := by unfold zero64; rw [List.length_replicate]
set_option maxRecDepth 100000 in
set_option maxHeartbeats 4000000 in
theorem hnew_any (w : World) : Calls Try.prog 45 #[] w (NewIsH w) := by
  have HB := Lib.hid built_hsh
  have HF := Lib.hid first_any
  go_enter Try.func45, Try.ntmps45
  go_upto_region 1 with fail
  go_wp2_with fail
  refine (HF.out _).mono ?_
  rintro e w2 ⟨rfl, hb2⟩
  have HB2 := Lib.hid hb2
  clear hb2
  have hA : wsC (stL st0) = #[.int .u32 1779033703, .int .u32 3144134277, .int .u32 1013904242, .int .u32 2773480762, .int .u32 1359893119, .int .u32 2600822924, .int .u32 528734635, .int .u32 1541459225] := by kernel_rfl
  rw [hA]
  clear hA
  go_wp2
  go_ret
  refine ⟨w2.heap.size, rfl, HB2.out.size, ⟨st0, zero64, HoldsT.start _ zero64_len, (heap_alloc_new _ _).trans ?_⟩, balloc HB2.out _⟩
  kernel_rfl
theorem info_b8 : (Try.prog.info? 5).map (fun i => (i.zero, i.size, i.bytes)) = some (some (.int .u8 0), 1, 1) := by kernel_rfl
theorem index_8 (v : St8) (t : Nat) (h : t < 8) (w : World) : (Instr.index 111 (.agg (wsC (stL v))) (.int .i64 (t : Int))).run Try.prog w = .ok (.int .u32 (wI (wth (stL v) t))) w := by
  have hk : (wsC (stL v))[t]? = some (wV (wth (stL v) t)) := wsC_at (stL v) t h
  have hs : (wsC (stL v)).size = 8 := rfl
  generalize wsC (stL v) = KC at hk hs
  have b : ¬ (8 : Int) ≤ (t : Int) := by omega
  have b2 : ¬ (t : Int) < 0 := by omega
  unfold Instr.index
  simp [go_sem, hk, hs, b, b2]
  intro h9
  omega
theorem HshIs.count {b : Nat} {L : List UInt8} {w : World} (h : HshIs b L w) {n : Nat} (hn : len L = n) : w.cell? ⟨b, 72, none⟩ = some (.int .u64 (n : Nat)) := by
  obtain ⟨v, r, h1, h2⟩ := h
  rw [block_cell h2, hshC_n _ _ _ h1.rest, hn]
theorem below_own {B : Nat} {row : Nat} {w V w2 : World} (h1 : Below B w V) (hr : B ≤ row) (hB : B ≤ V.heap.size) (h2 : ExtB (some row) V w2) : Below B w w2 :=
  ⟨h2.os.trans h1.os, h2.tape.trans h1.tape, h2.output.trans h1.output, Nat.le_trans h1.size h2.size, fun i hi => (h2.block i (by omega) (by simp; omega)).trans (h1.block i hi)⟩
theorem hshC_one (v : St8) (r : List UInt8) (n : Int) : (hshC v r n).all (·.oneCell') = true := by
  unfold hshC
  rw [Array.all_eq_true]
  intro i hi
  have : ∀ x ∈ (stL v).map wV ++ r.map bV ++ [Value.int .u64 n], x.oneCell' = true := by
    intro x hx
    simp only [List.mem_append, List.mem_map, List.mem_singleton] at hx
    rcases hx with (⟨a, _, rfl⟩ | ⟨a, _, rfl⟩) | rfl <;> rfl
  exact this _ (by simp)
set_option maxRecDepth 100000 in
set_option maxHeartbeats 4000000 in
theorem hsum_any (hb : Nat) (L : List UInt8) (w : World) (h : HshIs hb L w) (hl : len L ≤ 1152921504606846976) :
    Calls Try.prog 47 #[.pointer (some ⟨hb, 0, none⟩)] w fun e w' => e = .returned (.string ⟨(shaL L).toArray⟩) ∧ Below w.heap.size w w' := by
  obtain ⟨v, r, hT, hc⟩ := h
  obtain ⟨n, hn⟩ : ∃ n, len L = n := ⟨_, rfl⟩
  rw [hn] at hc hl
  obtain ⟨Cc, hCc⟩ : ∃ Cc, hshC v r (n : Nat) = Cc := ⟨_, rfl⟩
  have HCC := Lib.hid hCc
  have HSZ : Hid (Cc.size = 73) := Lib.hid (by rw [← hCc, hshC_size _ _ _ hT.rest])
  have HON : Hid (Cc.all (·.oneCell') = true) := Lib.hid (by rw [← hCc]; exact hshC_one _ _ _)
  rw [hCc] at hc
  have HC := Lib.hid hc
  have HT := Lib.hid hT
  have HN := Lib.hid hn
  have HL := Lib.hid hl
  have HI : Hid ((Try.prog.info? 115).map (·.size) = some Cc.size) := Lib.hid (by rw [HSZ.out]; kernel_rfl)
  clear hc hT hn hl hCc
  go_enter Try.func47, Try.ntmps47
  go_upto_region 3 with fail
  go_upto_region 4 with (first | (refine wpList_load_row (o := ⟨some 14, _, _, _, _, _⟩) ?_ 115 (.tmp 13) ?_ hb ?_ 115 Cc (0, 0) _ HC.out Try.underlying115 ?_ HI.out ?_; rfl; rfl; rfl; rfl; skip) | (refine wpList_store_row ?_ 115 (.tmp 3) (.tmp 14) ?_ w.heap.size Cc ?_ ?_ 115 _ (heap_alloc_new _ _) HI.out ?_ HON.out ?_; rfl; rfl; rfl; rfl; (rw [HSZ.out]; kernel_rfl); skip))
  obtain ⟨cb, hcb⟩ : ∃ cb, w.heap.size = cb := ⟨_, rfl⟩
  rw [hcb]
  obtain ⟨V, hV⟩ : ∃ V, (w.alloc (.cells Try.zeroCells115 115)).setRow cb Cc = V := ⟨_, rfl⟩
  rw [hV]
  have HVB : Hid (V.heap[cb]? = some (.cells (hshC v r (n : Nat)) 115 (0, 0))) := Lib.hid (by rw [HCC.out, ← hV, ← hcb]; exact setRow_heap _ _ _ _ _ _ (heap_alloc_new _ _))
  have HVW : Hid (Below w.heap.size w V) := Lib.hid (by
    rw [← hV]
    have h1 : Below w.heap.size w (w.alloc (.cells Try.zeroCells115 115)) := balloc (Below.refl _ _) _
    exact ⟨h1.os, h1.tape, h1.output, by rw [setRow_size]; exact h1.size, fun i hi => by rw [setRow_other _ _ _ _ (show i ≠ cb by omega)]; exact h1.block i hi⟩)
  have HCB : Hid (w.heap.size ≤ cb) := Lib.hid (Nat.le_of_eq hcb)
  have HH : Hid (HshIs cb L V) := Lib.hid (HshIs.intro HT.out (by rw [HN.out]) HVB.out)
  have c72 : V.cell? ⟨cb, 72, none⟩ = some (.int .u64 n) := by rw [block_cell HVB.out, hshC_n _ _ _ HT.out.rest]
  have w8 : IntKind.u64.wrap ((n : Int) * 8) = (n : Int) * 8 := IntWalk.u64_in _ (by have := HL.out; omega)
  clear hV hcb HVB HC HI HON HSZ HCC
  go_upto_region 5 with fail
  clear c72 w8
  have cv : (convert 76 9 (.slice (some ⟨V.heap.size, 0, none⟩) 1 1)).run Try.prog (V.alloc (.cells #[.int .u8 128] 5)) = .ok (.string ⟨#[128]⟩) (V.alloc (.cells #[.int .u8 128] 5)) := conv_new V 5 1 1 [128] rfl
  go_wp2_with fail
  have HV1 := Lib.hid (write_any cb L ⟨#[128]⟩ (V.alloc (.cells #[.int .u8 128] 5)) (HH.out.keep (balloc (Below.refl _ _) _)) (by have h1 := HL.out; have h2 := HN.out; rw [h2]; show n + 1 ≤ _; omega))
  refine HV1.out.mono ?_
  rintro e w2 ⟨rfl, hE, hH⟩
  have HH := Lib.hid hH
  have HVW : Hid (Below w.heap.size w w2) := Lib.hid (below_own HVW.out HCB.out HVW.out.size (ExtB_trans _ _ _ _ (extB_alloc _ _ _) hE))
  have HH : Hid (HshIs cb (L ++ [128] ++ List.replicate 0 0) w2) := Lib.hid (by rw [List.replicate_zero, List.append_nil]; exact HH.out)
  clear hE hH HV1 cv
  go_upto_region 6 with fail
  go_loopg [21] (zerosW n) (fun g _ wr => ∃ m : Nat, g + m = zerosW n ∧ Hid (HshIs cb (L ++ [128] ++ List.replicate m 0) wr) ∧ Hid (Below w.heap.size w wr))
  case atStart => exact ⟨0, rfl, HH, HVW⟩
  case round =>
    clear HH HVW
    obtain ⟨m, hm, HH, HVW⟩ := hrel
    have hz := zerosW_le n
    have HLEN : Hid (len (L ++ [128] ++ List.replicate m 0) = n + 1 + m) := Lib.hid (by
      have := HN.out
      rw [len_eq] at this
      rw [len_eq, List.length_append, List.length_append, List.length_replicate, this]
      rfl)
    have c72 := HH.out.count HLEN.out
    obtain ⟨q, hq⟩ : ∃ q, n + 1 + m = q := ⟨_, rfl⟩
    rw [hq] at c72 HLEN
    have HQ : Hid (q ≤ n + 64) := Lib.hid (by omega)
    by_cases hlt : m < zerosW n
    · have q1 : ¬ ((q : Nat) : Int) % 64 = 56 := by have := zerosW_not n m hlt; omega
      clear hq
      go_wp2_with fail
      have HV1 := Lib.hid (write_any cb _ ⟨#[0]⟩ wr HH.out (by rw [HLEN.out]; have h1 := HL.out; have h2 := HQ.out; show _ + 1 ≤ _; omega))
      refine HV1.out.mono ?_
      rintro e w2 ⟨rfl, hE, hH⟩
      have HV2 : Hid (Below w.heap.size w w2) := Lib.hid (below_own HVW.out HCB.out HVW.out.size hE)
      have HH2 : Hid (HshIs cb (L ++ [128] ++ List.replicate (m + 1) 0) w2) := Lib.hid (by
        have e9 : L ++ [128] ++ List.replicate (m + 1) 0 = L ++ [128] ++ List.replicate m 0 ++ [0] := by rw [List.replicate_succ', List.append_assoc (L ++ [128])]
        rw [e9]
        exact hH)
      clear hE hH HV1
      go_wp2
      go_roundg (zerosW n - (m + 1))
      case rel => exact ⟨m + 1, by omega, HH2, HV2⟩
      case measure => omega
    · obtain rfl : m = zerosW n := by omega
      have q1 : ((q : Nat) : Int) % 64 = 56 := by have := zerosW_end n; omega
      clear hq hz hlt hm
      go_upto_region 9 with fail
      obtain ⟨N, hN⟩ : ∃ N : Nat, n * 8 = N := ⟨_, rfl⟩
      rw [show (n : Int) * 8 = ((N : Nat) : Int) by omega]
      have HN8 := Lib.hid hN
      obtain ⟨L1, hL1⟩ : ∃ L1, L ++ [128] ++ List.replicate (zerosW n) 0 = L1 := ⟨_, rfl⟩
      rw [hL1] at HH HLEN
      have HL1 := Lib.hid hL1
      obtain ⟨lb, hlb⟩ : ∃ lb, wr.heap.size = lb := ⟨_, rfl⟩
      obtain ⟨U, hU⟩ : ∃ U, wr.alloc (.cells (filC (num8 N) 8 0) 108) = U := ⟨_, rfl⟩
      have HUB : Hid (U.heap[lb]? = some (.cells (filC (num8 N) 8 0) 108 (0, 0))) := Lib.hid (by rw [← hU]; exact alloc_new_at _ hlb)
      have HUH : Hid (HshIs cb L1 U) := Lib.hid (by rw [← hU]; exact HH.out.keep (balloc (Below.refl _ _) _))
      have HUW : Hid (Below w.heap.size w U) := Lib.hid (by rw [← hU]; exact balloc HVW.out _)
      have HLB : Hid (w.heap.size ≤ lb ∧ cb < lb) := Lib.hid ⟨by rw [← hlb]; exact HVW.out.size, by rw [← hlb]; exact HH.out.lt⟩
      rw [hlb]
      change Code.wp _ _ _ _ (wr.alloc (.cells (filC (num8 N) 8 0) 108))
      rw [hU]
      clear hU hlb hL1 hN c72 q1 HH HVW
      go_wp2
      go_loopg [26, 6] 8 (fun g i _ wr => ∃ m : Nat, g + m = 8 ∧ i = .int .i64 m ∧ Hid (wr.heap[lb]? = some (.cells (filC (num8 N) 8 m) 108 (0, 0))) ∧ Hid (HshIs cb L1 wr) ∧ Hid (Below w.heap.size w wr))
      case atStart => exact ⟨0, rfl, rfl, HUB, HUH, HUW⟩
      case round =>
        clear HUB HUH HUW
        obtain ⟨m, hm, rfl, HUB, HUH, HUW⟩ := hrel
        by_cases hlt : m < 8
        · have i1 : (m : Int) < 8 := by omega
          have i2 : IntKind.i64.wrap (7 - (m : Int)) = 7 - (m : Int) := IntWalk.i64_in _ (by omega)
          have i3 : IntKind.i64.wrap (8 * (7 - (m : Int))) = 8 * (7 - (m : Int)) := IntWalk.i64_in _ (by omega)
          have i4 : ¬ 8 * (7 - (m : Int)) < 0 := by omega
          have i5 : ¬ (8 : Int) ≤ (m : Int) := by omega
          obtain ⟨W, hW⟩ : ∃ W, wr = W := ⟨_, rfl⟩
          rw [hW] at HUB HUH HUW ⊢
          have c0 : W.cell? ⟨lb, m, none⟩ = some (byV 0) := by rw [block_cell HUB.out, filC_at _ _ _ hlt (num8_len N)]
          have c1 : W.frozen? ⟨lb, m, none⟩ = false := block_free HUB.out m
          have c2 : lb < W.heap.size := lt_of_block HUB.out
          clear hW
          go_upto_region 13 with fail
          rw [num8_byte N m hlt]
          clear c0 c1 c2 i2 i3 i4 i5
          have HU2 : Hid ((W.setCell ⟨lb, m, none⟩ (byV ((num8 N).getD m 0))).heap[lb]? = some (.cells (filC (num8 N) 8 (m + 1)) 108 (0, 0))) := Lib.hid (by
            have := block_setCell HUB.out (o := m) (byV ((num8 N).getD m 0))
            rw [filC_set _ _ _ hlt (num8_len N)] at this
            exact this)
          have HU3 : Hid (HshIs cb L1 (W.setCell ⟨lb, m, none⟩ (byV ((num8 N).getD m 0)))) := Lib.hid (by
            obtain ⟨v9, r9, h1, h2⟩ := HUH.out
            exact ⟨v9, r9, h1, block_setCell_ne h2 (show cb ≠ lb by have := HLB.out.2; omega) _⟩)
          have HU4 : Hid (Below w.heap.size w (W.setCell ⟨lb, m, none⟩ (byV ((num8 N).getD m 0)))) := Lib.hid (bset HUW.out HLB.out.1 _)
          go_wp2
          go_roundg (8 - (m + 1))
          case rel => exact ⟨m + 1, by omega, by go_num, HU2, HU3, HU4⟩
          case measure => omega
        · obtain rfl : m = 8 := by omega
          have i1 : ¬ ((8 : Nat) : Int) < 8 := by decide
          have HUB := Lib.hid (by have h := HUB.out; rw [filC_all _ _ (num8_len N)] at h; exact h)
          have cv : (convert 76 9 (.slice (some ⟨lb, 0, none⟩) 8 8)).run Try.prog wr = .ok (.string ⟨(num8 N).toArray⟩) wr := conv_block wr lb 0 8 8 (num8 N) (num8_len N) (fun i hi => byV_block HUB.out i (by rw [num8_len]; exact hi))
          go_wp2_with fail
          have HV1 := Lib.hid (write_any cb L1 ⟨(num8 N).toArray⟩ wr HUH.out (by rw [HLEN.out]; have h1 := HL.out; have h2 := HQ.out; show _ + (num8 N).length ≤ _; rw [num8_len]; omega))
          refine HV1.out.mono ?_
          rintro e w3 ⟨rfl, hE, hH⟩
          have HW3 : Hid (Below w.heap.size w w3) := Lib.hid (below_own HUW.out HCB.out HUW.out.size hE)
          have HH3 : Hid (HshIs cb (padW L) w3) := Lib.hid (by
            have h1 := HN.out
            rw [len_eq] at h1
            have h2 : padW L = L1 ++ num8 N := by
              rw [padW_parts, ← HL1.out, h1, ← HN8.out, Nat.mod_eq_of_lt (by have := HL.out; omega), Nat.mul_comm]
            rw [h2]
            exact hH)
          clear hE hH HV1 cv HUB HUH HUW i1
          obtain ⟨z, r9, hz, hzb⟩ := HH3.out
          have HZ := Lib.hid hz
          have x0 : w3.cell? ⟨cb, 0, none⟩ = some (.int .u32 (wI z.a)) := by rw [block_cell hzb, hshC_word _ _ _ 0 (by decide)]; rfl
          have x1 : w3.cell? ⟨cb, 1, none⟩ = some (.int .u32 (wI z.b)) := by rw [block_cell hzb, hshC_word _ _ _ 1 (by decide)]; rfl
          have x2 : w3.cell? ⟨cb, 2, none⟩ = some (.int .u32 (wI z.c)) := by rw [block_cell hzb, hshC_word _ _ _ 2 (by decide)]; rfl
          have x3 : w3.cell? ⟨cb, 3, none⟩ = some (.int .u32 (wI z.d)) := by rw [block_cell hzb, hshC_word _ _ _ 3 (by decide)]; rfl
          have x4 : w3.cell? ⟨cb, 4, none⟩ = some (.int .u32 (wI z.e)) := by rw [block_cell hzb, hshC_word _ _ _ 4 (by decide)]; rfl
          have x5 : w3.cell? ⟨cb, 5, none⟩ = some (.int .u32 (wI z.f)) := by rw [block_cell hzb, hshC_word _ _ _ 5 (by decide)]; rfl
          have x6 : w3.cell? ⟨cb, 6, none⟩ = some (.int .u32 (wI z.g)) := by rw [block_cell hzb, hshC_word _ _ _ 6 (by decide)]; rfl
          have x7 : w3.cell? ⟨cb, 7, none⟩ = some (.int .u32 (wI z.h)) := by rw [block_cell hzb, hshC_word _ _ _ 7 (by decide)]; rfl
          clear hz hzb
          go_upto_region 17 with fail
          rw [show (#[.int .u32 (wI z.a), .int .u32 (wI z.b), .int .u32 (wI z.c), .int .u32 (wI z.d), .int .u32 (wI z.e), .int .u32 (wI z.f), .int .u32 (wI z.g), .int .u32 (wI z.h)] : Array Value) = wsC (stL z) from rfl]
          obtain ⟨ZC, hZC⟩ : ∃ ZC, wsC (stL z) = ZC := ⟨_, rfl⟩
          rw [hZC]
          have HZC := Lib.hid hZC
          clear hZC x0 x1 x2 x3 x4 x5 x6 x7
          obtain ⟨i0, hi, hz0, hz1, hz2⟩ := info_parts info_b8
          have HZ0 := Lib.hid hz0
          clear hz0
          go_loopg [43, 7, 9] 8 (fun g i o _ wr => ∃ m : Nat, g + m = 8 ∧ i = .int .i64 m ∧ Hid (wr.ownsRow w.heap.size 5 1 o (4 * m) ((((stL z).take m).map word4).flatten.map byV)) ∧ Hid (Below w.heap.size w wr))
          case atStart => exact ⟨0, rfl, rfl, Lib.hid (World.ownsRow_nil _ _ _ _), HW3⟩
          case round =>
            clear HW3 HH3
            obtain ⟨m, hm, rfl, HO, HW3⟩ := hrel
            by_cases hlt : m < 8
            · have i1 : (m : Int) < 8 := by omega
              obtain ⟨X, hX⟩ : ∃ X, wth (stL z) m = X := ⟨_, rfl⟩
              have hk : ∀ w', (Instr.index 111 (.agg ZC) (.int .i64 (m : Int))).run Try.prog w' = .ok (.int .u32 (wI X)) w' := fun w' => by rw [← HZC.out, index_8 z m hlt, hX]
              have HX := Lib.hid hX
              obtain ⟨W, hW⟩ : ∃ W, wr = W := ⟨_, rfl⟩
              rw [hW] at HO HW3 ⊢
              clear hX hW
              go_upto_region 19 with fail
              have hmm : 4 * m ≤ 32 := by omega
              go_upto_region 20 with (at_builtin; refine wpList_append_own _ rfl _ _ 76 rfl w.heap.size 5 i0 (.int .u8 0) 1 1 Try.underlying76 hi HZ0.out hz1 hz2 rfl (by decide) _ _ _ rfl (HO.out.alloc _) ⟨W.heap.size, 0, none⟩ 4 4 [.int .u8 (wI X / 16777216 % 256), .int .u8 (wI X / 65536 % 256), .int .u8 (wI X / 256 % 256), .int .u8 (wI X % 256)] rfl rfl (World.news_of_block (heap_alloc_new _ _)) (by intro u hu; simp at hu; rcases hu with rfl | rfl | rfl | rfl <;> rfl) (by unfold maxLen; omega) (by omega) (by have := HW3.out.size; simp; omega) ?_; intro v2 w4 hown2 hgrow2 _)
              have HO2 : Hid (w4.ownsRow w.heap.size 5 1 v2 (4 * (m + 1)) ((((stL z).take (m + 1)).map word4).flatten.map byV)) := Lib.hid (by
                rw [outW_snoc z m hlt, HX.out, List.map_append, ← word4_vals]
                exact hown2)
              have HW4 : Hid (Below w.heap.size w w4) := Lib.hid (grownBy_below (balloc HW3.out _) hgrow2 (fun k hk' => (HO.out.lt k hk').1))
              clear hown2 hgrow2 hk
              go_wp2
              go_roundg (8 - (m + 1))
              case rel => exact ⟨m + 1, by omega, by go_num, HO2, HW4⟩
              case measure => omega
            · obtain rfl : m = 8 := by omega
              have i1 : ¬ ((8 : Nat) : Int) < 8 := by decide
              have HO2 : Hid (wr.ownsRow w.heap.size 5 1 u7 32 ((shaL L).map byV)) := Lib.hid (by
                have h1 := HO.out
                rw [show (stL z).take 8 = stL z from rfl, outW_eq, HZ.out.sum] at h1
                exact h1)
              have cv := conv_own HO2.out (shaL_len L) (by decide)
              go_wp2
              go_ret
              exact ⟨rfl, HW3.out⟩
set_option maxRecDepth 100000 in
set_option maxHeartbeats 4000000 in
theorem sha_any (s : ByteArray) (w : World) (hl : s.size ≤ 1152921504606846976) : Calls Try.prog 31 #[.string s] w fun e w' => e = .returned (.string (shaP s)) ∧ Below w.heap.size w w' := by
  have HL := Lib.hid hl
  clear hl
  go_enter Try.func31, Try.ntmps31
  go_wp2_with fail
  refine (hnew_any _).mono ?_
  rintro e w1 ⟨b, rfl, hb0, hh, hw1⟩
  have HH := Lib.hid hh
  have HW1 := Lib.hid hw1
  have HB0 := Lib.hid hb0
  clear hh hw1 hb0
  go_wp2_with fail
  refine (write_any b [] s w1 HH.out (by have := HL.out; show 0 + s.size ≤ _; omega)).mono ?_
  rintro e w2 ⟨rfl, hE, hH⟩
  have HW2 : Hid (Below w.heap.size w w2) := Lib.hid (below_own HW1.out HB0.out HW1.out.size hE)
  have HH2 := Lib.hid hH
  clear hE hH
  go_wp2_with fail
  refine (hsum_any b s.data.toList w2 HH2.out (by rw [len_eq, Array.length_toList]; exact HL.out)).mono ?_
  rintro e w3 ⟨rfl, hE⟩
  have HW3 : Hid (Below w.heap.size w w3) := Lib.hid (bnext HW2.out hE)
  clear hE
  go_wp2
  go_ret
  exact ⟨rfl, HW3.out⟩
end Go.Proofs.Ytmikkhfklmmkaaa
namespace Go.Proofs.Ytmikkhfklmmkaaa
open Go.RowKit
set_option linter.unusedSimpArgs false
set_option linter.unusedVariables false
def num8S (n : Nat) : ByteArray := ⟨(num8 n).toArray⟩
theorem num8S_size (n : Nat) : (num8S n).size = 8 := by
  show (num8 n).toArray.size = 8
  rw [List.size_toArray, num8_len]
set_option maxRecDepth 100000 in
set_option maxHeartbeats 4000000 in
theorem dnum_any (N : Nat) (w : World) (hN : N < 18446744073709551616) : Calls Try.prog 43 #[.int .u64 (N : Nat)] w fun e w' => e = .returned (.string (num8S N)) ∧ Below w.heap.size w w' := by
  have HNN := Lib.hid hN
  clear hN
  go_enter Try.func43, Try.ntmps43
  go_upto_region 2 with fail
  obtain ⟨lb, hlb⟩ : ∃ lb, w.heap.size = lb := ⟨_, rfl⟩
  obtain ⟨U, hU⟩ : ∃ U, w.alloc (.cells (filC (num8 N) 8 0) 108) = U := ⟨_, rfl⟩
  have HUB : Hid (U.heap[lb]? = some (.cells (filC (num8 N) 8 0) 108 (0, 0))) := Lib.hid (by rw [← hU]; exact alloc_new_at _ hlb)
  have HUW : Hid (Below w.heap.size w U) := Lib.hid (by rw [← hU]; exact balloc (Below.refl _ _) _)
  have HLB : Hid (w.heap.size ≤ lb) := Lib.hid (Nat.le_of_eq hlb)
  rw [hlb]
  change Code.wp _ _ _ _ (w.alloc (.cells (filC (num8 N) 8 0) 108))
  rw [hU]
  clear hU hlb
  go_wp2
  go_loopg [5, 4] 8 (fun g i _ wr => ∃ m : Nat, g + m = 8 ∧ i = .int .i64 m ∧ Hid (wr.heap[lb]? = some (.cells (filC (num8 N) 8 m) 108 (0, 0))) ∧ Hid (Below w.heap.size w wr))
  case atStart => exact ⟨0, rfl, rfl, HUB, HUW⟩
  case round =>
    clear HUB HUW
    obtain ⟨m, hm, rfl, HUB, HUW⟩ := hrel
    by_cases hlt : m < 8
    · have i1 : (m : Int) < 8 := by omega
      have i2 : IntKind.i64.wrap (7 - (m : Int)) = 7 - (m : Int) := IntWalk.i64_in _ (by omega)
      have i3 : IntKind.i64.wrap (8 * (7 - (m : Int))) = 8 * (7 - (m : Int)) := IntWalk.i64_in _ (by omega)
      have i4 : ¬ 8 * (7 - (m : Int)) < 0 := by omega
      have i5 : ¬ (8 : Int) ≤ (m : Int) := by omega
      obtain ⟨W, hW⟩ : ∃ W, wr = W := ⟨_, rfl⟩
      rw [hW] at HUB HUW ⊢
      have c0 : W.cell? ⟨lb, m, none⟩ = some (byV 0) := by rw [block_cell HUB.out, filC_at _ _ _ hlt (num8_len N)]
      have c1 : W.frozen? ⟨lb, m, none⟩ = false := block_free HUB.out m
      have c2 : lb < W.heap.size := lt_of_block HUB.out
      clear hW
      go_upto_region 6 with fail
      rw [num8_byte N m hlt]
      clear c0 c1 c2 i2 i3 i4 i5
      have HU2 : Hid ((W.setCell ⟨lb, m, none⟩ (byV ((num8 N).getD m 0))).heap[lb]? = some (.cells (filC (num8 N) 8 (m + 1)) 108 (0, 0))) := Lib.hid (by
        have := block_setCell HUB.out (o := m) (byV ((num8 N).getD m 0))
        rw [filC_set _ _ _ hlt (num8_len N)] at this
        exact this)
      have HU4 : Hid (Below w.heap.size w (W.setCell ⟨lb, m, none⟩ (byV ((num8 N).getD m 0)))) := Lib.hid (bset HUW.out HLB.out _)
      go_wp2
      go_roundg (8 - (m + 1))
      case rel => exact ⟨m + 1, by omega, by go_num, HU2, HU4⟩
      case measure => omega
    · obtain rfl : m = 8 := by omega
      have i1 : ¬ ((8 : Nat) : Int) < 8 := by decide
      have HUB := Lib.hid (by have h := HUB.out; rw [filC_all _ _ (num8_len N)] at h; exact h)
      have cv : (convert 76 9 (.slice (some ⟨lb, 0, none⟩) 8 8)).run Try.prog wr = .ok (.string (num8S N)) wr := conv_block wr lb 0 8 8 (num8 N) (num8_len N) (fun i hi => byV_block HUB.out i (by rw [num8_len]; exact hi))
      go_wp2
      go_ret
      exact ⟨rfl, HUW.out⟩
end Go.Proofs.Ytmikkhfklmmkaaa
namespace Go.Proofs.Ytmikkhfklmmkaaa
open Go.RowKit
set_option linter.unusedSimpArgs false
set_option linter.unusedVariables false
theorem bld_size : (Try.prog.info? 78).map (·.size) = some 2 := by kernel_rfl
theorem bld_lies : liesAt Try.prog Try.prog.depth 78 (2 / Try.prog.cellsOf 78) 0 78 1 = true := by kernel_rfl
theorem bld_b8 : (Try.prog.info? 5).map (fun i => (i.zero, i.size, i.bytes)) = some (some (.int .u8 0), 1, 1) := by kernel_rfl
set_option maxHeartbeats 1000000 in
set_option maxRecDepth 100000 in
theorem bcheck_used (b : Nat) (w : World) (h0 : w.cell? ⟨b, 0, none⟩ = some (.pointer (some ⟨b, 0, none⟩))) :
    Calls Try.prog 63 #[.pointer (some ⟨b, 0, none⟩)] w fun e w' => e = .returned (.tuple #[]) ∧ w' = w := by
  obtain ⟨j, hj, _⟩ := Option.map_eq_some_iff.1 bld_size
  go_enter Try.func63, Try.ntmps63
  go_wp2
  rw [Lib.run_neq_ptr_same w _ Try.underlying75 hj]
  go_wp2
  go_end0
  exact ⟨rfl, rfl⟩
set_option maxHeartbeats 1000000 in
set_option maxRecDepth 100000 in
theorem bcheck_fresh (b : Nat) (w : World) (h0 : w.cell? ⟨b, 0, none⟩ = some (.pointer none)) (hsh : w.shape? b = some (78, 2)) (hfz : w.frozen? ⟨b, 0, none⟩ = false) :
    Calls Try.prog 63 #[.pointer (some ⟨b, 0, none⟩)] w fun e w' => e = .returned (.tuple #[]) ∧ w' = w.setCell ⟨b, 0, none⟩ (.pointer (some ⟨b, 0, none⟩)) := by
  obtain ⟨j, hj, hjs⟩ := Option.map_eq_some_iff.1 bld_size
  go_enter Try.func63, Try.ntmps63
  go_wp2
  rw [Lib.run_to_unsafe w ⟨b, 0, none⟩ Try.underlying75 Try.underlying124 hj (by rw [hjs]; decide) hsh (Nat.zero_lt_succ 1)]
  simp only [Result.andThen]
  rw [Oper.upon_value]
  go_wp2
  rw [run_callFunc_extern Try.func74 (by kernel_rfl) (by kernel_rfl) (by kernel_rfl) (e := Extern.AbiNoEscape.same) (by kernel_rfl)]
  rw [Lib.run_noEscape]
  simp only [Result.andThen]
  rw [Oper.upon_value]
  go_wp2
  rw [Lib.run_from_unsafe w ⟨b, 0, none⟩ Try.underlying124 Try.underlying75 hj hsh bld_lies]
  simp only [Result.andThen]
  rw [Oper.upon_value]
  go_wp2
  go_end0
  exact ⟨rfl, rfl⟩
theorem bcheck_any (B b : Nat) (bs : List Value) (w : World) (h : Lib.IsBuilder 78 5 B b bs w) :
    Calls Try.prog 63 #[.pointer (some ⟨b, 0, none⟩)] w fun e w' => e = .returned (.tuple #[]) ∧ (Lib.BuilderAt 78 5 B b (.pointer (some ⟨b, 0, none⟩)) bs w' ∧ Below B w w') := by
  rcases h with h | h
  · refine (bcheck_fresh b w h.cell0 h.shape h.frozen0).mono ?_
    rintro e w' ⟨rfl, rfl⟩
    exact ⟨rfl, h.used _, (Below.refl B w).setCell (p := ⟨b, 0, none⟩) h.1 _⟩
  · refine (bcheck_used b w h.cell0).mono ?_
    rintro e w' ⟨rfl, rfl⟩
    exact ⟨rfl, h, Below.refl B _⟩
set_option maxHeartbeats 2000000 in
set_option maxRecDepth 100000 in
theorem bbyte_any (B b : Nat) (bs : List Value) (c : Int) (w : World) (h : Lib.IsBuilder 78 5 B b bs w) (hlen : bs.length + 1 ≤ 140737488355328) (hBw : B ≤ w.heap.size) :
    Calls Try.prog 40 #[.pointer (some ⟨b, 0, none⟩), .int .u8 c] w fun e w' => e = .returned .nilIface ∧ (Lib.BuilderAt 78 5 B b (.pointer (some ⟨b, 0, none⟩)) (bs ++ [.int .u8 c]) w' ∧ Below B w w') := by
  obtain ⟨i0, hi, hz0, hz1, hz2⟩ := info_parts bld_b8
  go_enter Try.func40, Try.ntmps40
  go_wp2_with fail
  refine (bcheck_any B b bs _ h).mono ?_
  rintro e w1 ⟨rfl, h1, hb1⟩
  obtain ⟨hB, v, hbk, hown, hne⟩ := h1
  have c0 : w1.cell? ⟨b, 0, none⟩ = some (.pointer (some ⟨b, 0, none⟩)) := by rw [Lib.cell_of_heap hbk]; rfl
  have c1 : w1.cell? ⟨b, 1, none⟩ = some v := by rw [Lib.cell_of_heap hbk]; rfl
  go_wp2_with (at_builtin; refine wpList_append_own _ rfl _ _ 76 rfl B 5 i0 (.int .u8 0) 1 1 Try.underlying76 hi hz0 hz1 hz2 rfl (by decide) _ _ _ rfl (hown.alloc _) ⟨w1.heap.size, 0, none⟩ 1 1 [.int .u8 c] rfl rfl ?c1 ?c2 ?c3 ?c4 ?c5 ?_)
  case c1 =>
    intro j u hj
    match j, hj with
    | 0, hj => simp at hj; subst hj; simp [Addr.add]
  case c2 => intro u hu; simp at hu; subst hu; rfl
  case c3 => unfold maxLen; omega
  case c4 => omega
  case c5 => have := hb1.size; simp; omega
  intro v' w2 hown' hgrow _
  have hlt : b < w1.heap.size := lt_of_block hbk
  have hb2 : w2.heap[b]? = some (.cells #[.pointer (some ⟨b, 0, none⟩), v] 78 (0, 0)) := by
    rw [hgrow.block b (by simp; omega) (fun e => hne e.symm), Lib.alloc_old w1 _ b hlt]
    exact hbk
  have d0 : w2.cell? ⟨b, 0, none⟩ = some (.pointer (some ⟨b, 0, none⟩)) := by rw [Lib.cell_of_heap hb2]; rfl
  have d1 : w2.cell? ⟨b, 1, none⟩ = some v := by rw [Lib.cell_of_heap hb2]; rfl
  have f1 : w2.frozen? ⟨b, 1, none⟩ = false := Lib.frozen_of_heap hb2 1
  obtain ⟨g, cap, rfl⟩ : ∃ g cap, v' = .slice (some ⟨g, 0, none⟩) (bs.length + 1) cap := by
    rcases hown'.2 with ⟨_, h0⟩ | ⟨g, cap, cur, hv, _⟩
    · omega
    · exact ⟨g, cap, hv⟩
  go_wp2
  go_ret
  refine ⟨rfl, ?_, ?_⟩
  · exact Lib.BuilderAt.put (T := 78) (e := 5) hB hb2 (bs' := bs ++ [.int .u8 c]) (by simpa using hown') (by decide)
  · exact ((hb1.alloc (by have := hb1.size; omega) _).grown hgrow (by have := hb1.size; simp; omega) (fun k hk => (hown.lt k hk).1)).setCell (p := ⟨b, 1, none⟩) hB _
set_option maxHeartbeats 2000000 in
set_option maxRecDepth 100000 in
theorem bstr_any (B b : Nat) (bs : List Value) (s : ByteArray) (w : World) (h : Lib.IsBuilder 78 5 B b bs w) (hlen : bs.length + s.size ≤ 140737488355328) (hBw : B ≤ w.heap.size) :
    Calls Try.prog 41 #[.pointer (some ⟨b, 0, none⟩), .string s] w fun e w' => e = .returned (.tuple #[.int .i64 s.size, .nilIface]) ∧ (Lib.BuilderAt 78 5 B b (.pointer (some ⟨b, 0, none⟩)) (bs ++ Lib.strCells s) w' ∧ Below B w w') := by
  obtain ⟨i0, hi, hz0, hz1, hz2⟩ := info_parts bld_b8
  go_enter Try.func41, Try.ntmps41
  go_wp2_with fail
  refine (bcheck_any B b bs _ h).mono ?_
  rintro e w1 ⟨rfl, h1, hb1⟩
  obtain ⟨hB, v, hbk, hown, hne⟩ := h1
  have c0 : w1.cell? ⟨b, 0, none⟩ = some (.pointer (some ⟨b, 0, none⟩)) := by rw [Lib.cell_of_heap hbk]; rfl
  have c1 : w1.cell? ⟨b, 1, none⟩ = some v := by rw [Lib.cell_of_heap hbk]; rfl
  go_wp2_with (at_builtin; refine Lib.wpList_append_own_string _ rfl _ _ 76 9 rfl B 5 i0 Try.underlying76 Try.underlying9 hi hz0 hz1 hz2 _ _ _ rfl hown s rfl ?c3 ?c4 ?c5 ?_)
  case c3 => unfold maxLen; omega
  case c4 => omega
  case c5 => have := hb1.size; omega
  intro v' w2 hown' hgrow _
  have hlt : b < w1.heap.size := lt_of_block hbk
  have hb2 : w2.heap[b]? = some (.cells #[.pointer (some ⟨b, 0, none⟩), v] 78 (0, 0)) := by
    rw [hgrow.block b hlt (fun e => hne e.symm)]
    exact hbk
  have d0 : w2.cell? ⟨b, 0, none⟩ = some (.pointer (some ⟨b, 0, none⟩)) := by rw [Lib.cell_of_heap hb2]; rfl
  have d1 : w2.cell? ⟨b, 1, none⟩ = some v := by rw [Lib.cell_of_heap hb2]; rfl
  have f1 : w2.frozen? ⟨b, 1, none⟩ = false := Lib.frozen_of_heap hb2 1
  obtain ⟨ao, n', cap, rfl⟩ : ∃ ao n' cap, v' = .slice ao n' cap := by
    rcases hown'.2 with ⟨hv, _⟩ | ⟨g, cap, cur, hv, _⟩
    · exact ⟨_, _, _, hv⟩
    · exact ⟨_, _, _, hv⟩
  go_wp2
  go_ret2
  refine ⟨rfl, ?_, ?_⟩
  · exact Lib.BuilderAt.put (T := 78) (e := 5) hB hb2 (bs' := bs ++ Lib.strCells s) (by simpa [Lib.strCells_length] using hown') (by decide)
  · exact (hb1.grown hgrow (by have := hb1.size; omega) (fun k hk => (hown.lt k hk).1)).setCell (p := ⟨b, 1, none⟩) hB _
end Go.Proofs.Ytmikkhfklmmkaaa
namespace Go.Proofs.Ytmikkhfklmmkaaa
open Go.RowKit
set_option linter.unusedSimpArgs false
set_option linter.unusedVariables false
theorem shaP_size (s : ByteArray) : (shaP s).size = 32 := by
  show (shaL s.data.toList).toArray.size = 32
  rw [List.size_toArray, shaL_len]
def partL (p : ByteArray) : List UInt8 := num8 p.size ++ p.data.toList
theorem partL_len (p : ByteArray) : (partL p).length = 8 + p.size := by unfold partL; rw [List.length_append, num8_len, Array.length_toList]; rfl
def partsL (l : List ByteArray) : List UInt8 := (l.map partL).flatten
def tth (l : List ByteArray) (i : Nat) : ByteArray := l.getD i ByteArray.empty
theorem tth_eq (l : List ByteArray) (i : Nat) (h : i < l.length) : tth l i = l[i] := by unfold tth; rw [List.getD_eq_getElem?_getD, List.getElem?_eq_getElem h]; rfl
theorem partsL_snoc (l : List ByteArray) (m : Nat) (h : m < len l) : partsL (l.take (m + 1)) = partsL (l.take m) ++ partL (tth l m) := by
  unfold partsL
  have h2 : m < l.length := h
  rw [List.take_succ_eq_append_getElem h2, List.map_append, List.flatten_append, tth_eq l m h2]
  simp
theorem partsL_le (l : List ByteArray) (m : Nat) : (partsL (l.take m)).length ≤ (partsL l).length := by
  have h : partsL l = partsL (l.take m) ++ partsL (l.drop m) := by
    unfold partsL
    rw [← List.flatten_append, ← List.map_append, List.take_append_drop]
  rw [h, List.length_append]
  omega
theorem partsL_ge (l : List ByteArray) : 8 * l.length ≤ (partsL l).length := by
  unfold partsL
  induction l with
  | nil => exact Nat.le_refl _
  | cons x l ih =>
    rw [List.map_cons, List.flatten_cons, List.length_append, List.length_cons, partL_len]
    omega
def headL (tag : ByteArray) : List UInt8 := UInt8.ofNat tag.size :: tag.data.toList
theorem headL_len (tag : ByteArray) : (headL tag).length = 1 + tag.size := by
  unfold headL
  rw [List.length_cons, Array.length_toList]
  show tag.size + 1 = _
  omega
def framL (tag : ByteArray) (parts : List ByteArray) : List UInt8 := headL tag ++ partsL parts
theorem framL_len (tag : ByteArray) (parts : List ByteArray) : (framL tag parts).length = 1 + tag.size + (partsL parts).length := by
  unfold framL
  rw [List.length_append, headL_len]
def frameS (tag : ByteArray) (parts : List ByteArray) : ByteArray := ⟨(framL tag parts).toArray⟩
theorem frameS_size (tag : ByteArray) (parts : List ByteArray) : (frameS tag parts).size = 1 + tag.size + (partsL parts).length := by
  show (framL tag parts).toArray.size = _
  rw [List.size_toArray, framL_len]
def hashP (tag : ByteArray) (parts : List ByteArray) : ByteArray := shaP (frameS tag parts)
theorem hashP_size (tag : ByteArray) (parts : List ByteArray) : (hashP tag parts).size = 32 := shaP_size _
def leafT : ByteArray := ⟨#[108, 101, 97, 102]⟩
def nodeT : ByteArray := ⟨#[110, 111, 100, 101]⟩
def noneT : ByteArray := ⟨#[110, 111, 110, 101]⟩
def Txts (w : World) (a : Option Addr) (l : List ByteArray) : Prop :=
  ∀ i, i < len l → ∃ b off, a = some ⟨b, off, none⟩ ∧ w.cell? ⟨b, off + i, none⟩ = some (.string (tth l i))
theorem Txts.nil (w : World) (a : Option Addr) : Txts w a [] := fun i h => by simp [len] at h
theorem Txts.below {w w' : World} {a : Option Addr} {l : List ByteArray} (h : Txts w a l) (hb : Below w.heap.size w w') : Txts w' a l := fun i hi => by
  obtain ⟨b, off, rfl, hc⟩ := h i hi
  exact ⟨b, off, rfl, by rw [hb.cell (p := ⟨b, off + i, none⟩) (lt_of_cell hc)]; exact hc⟩
end Go.Proofs.Ytmikkhfklmmkaaa
namespace Go.Proofs.Ytmikkhfklmmkaaa
open Go.RowKit
set_option linter.unusedSimpArgs false
set_option linter.unusedVariables false
abbrev BlAt (B b : Nat) (L : List UInt8) (w : World) : Prop := Lib.BuilderAt 78 5 B b (.pointer (some ⟨b, 0, none⟩)) (Lib.byteCells L) w
theorem bc_app (L M : List UInt8) : Lib.byteCells (L ++ M) = Lib.byteCells L ++ Lib.byteCells M := by unfold Lib.byteCells; rw [List.map_append]
theorem bc_len (L : List UInt8) : (Lib.byteCells L).length = L.length := by unfold Lib.byteCells; rw [List.length_map]
def LayIs (B b : Nat) (L : List UInt8) (w : World) (e : Ending) (w' : World) : Prop := e = .returned (.tuple #[]) ∧ BlAt B b L w' ∧ Below B w w'
set_option maxRecDepth 100000 in
set_option maxHeartbeats 4000000 in
theorem lay_part (B b : Nat) (L : List UInt8) (p : ByteArray) (w : World) (h : BlAt B b L w) (hl : L.length + (8 + p.size) ≤ 140737488355328) (hB : B ≤ w.heap.size) :
    Calls Try.prog 42 #[.string p, .pointer (some ⟨b, 0, none⟩)] w (LayIs B b (L ++ partL p) w) := by
  have H := Lib.hid h
  have HL := Lib.hid hl
  have HB := Lib.hid hB
  clear h hl hB
  have i1 : IntKind.u64.wrap ((p.size : Nat) : Int) = ((p.size : Nat) : Int) := IntWalk.u64_in _ (by have := HL.out; omega)
  go_enter Try.func42, Try.ntmps42
  go_wp2_with fail
  refine (dnum_any p.size w (by have := HL.out; omega)).mono ?_
  rintro e w1 ⟨rfl, hb1⟩
  have HB1 := Lib.hid hb1
  have H1 : Hid (BlAt B b L w1) := Lib.hid (by
    obtain ⟨h1, v, h2, h3, h4⟩ := H.out
    exact ⟨h1, v, (hb1.block _ (lt_of_block h2)).trans h2, own_below h3 hb1, h4⟩)
  clear hb1
  go_wp2_with fail
  refine (bstr_any B b _ (num8S p.size) w1 (Or.inr H1.out) (by rw [bc_len, num8S_size]; have := HL.out; omega) (Nat.le_trans HB.out HB1.out.size)).mono ?_
  rintro e w2 ⟨rfl, h2, hb2⟩
  have H2 : Hid (BlAt B b (L ++ num8 p.size) w2) := Lib.hid (by show Lib.BuilderAt _ _ _ _ _ (Lib.byteCells _) _; rw [bc_app]; exact h2)
  have HB2 : Hid (Below B w w2) := Lib.hid ((HB1.out.mono HB.out).trans hb2)
  have HBS : Hid (B ≤ w2.heap.size) := Lib.hid (Nat.le_trans HB.out HB2.out.size)
  clear h2 hb2
  go_wp2_with fail
  refine (bstr_any B b _ p w2 (Or.inr H2.out) (by rw [bc_len, List.length_append, num8_len]; have := HL.out; omega) HBS.out).mono ?_
  rintro e w3 ⟨rfl, h3, hb3⟩
  have H3 : Hid (BlAt B b (L ++ partL p) w3) := Lib.hid (by show Lib.BuilderAt _ _ _ _ _ (Lib.byteCells _) _; unfold partL; rw [← List.append_assoc, bc_app]; exact h3)
  have HB3 : Hid (Below B w w3) := Lib.hid (HB2.out.trans hb3)
  clear h3 hb3
  go_wp2
  go_end0
  exact ⟨rfl, H3.out, HB3.out⟩
theorem fullT {t : ByteArray} (h : t.size ≠ 0) : t.toList.isEmpty = false := by
  rw [ByteArray.toList_eq]; cases t with | mk d => simp_all [ByteArray.size]
theorem headL_cells (tag : ByteArray) (h : tag.size ≤ 16) : Lib.byteCells (headL tag) = [.int .u8 ((tag.size : Nat) : Int)] ++ Lib.strCells tag := by
  unfold headL Lib.strCells Lib.byteCells
  rw [List.map_cons]
  congr 1
  rw [UInt8.toNat_ofNat', Nat.mod_eq_of_lt (by omega)]
set_option maxRecDepth 100000 in
set_option maxHeartbeats 4000000 in
theorem frame_any (tag : ByteArray) (parts : List ByteArray) (a : Option Addr) (cap : Nat) (w : World) (h1 : 1 ≤ tag.size) (h2 : tag.size ≤ 16) (hp : Txts w a parts) (hs : (partsL parts).length ≤ 140737488355300) :
    Calls Try.prog 30 #[.string tag, .slice a (len parts) cap] w fun e w' => e = .returned (.string (frameS tag parts)) ∧ Below w.heap.size w w' := by
  have HP := Lib.hid hp
  have HS := Lib.hid hs
  have HT2 := Lib.hid h2
  have HT1 := Lib.hid h1
  have HPL : Hid (len parts ≤ 140737488355300) := Lib.hid (by have := partsL_ge parts; rw [len_eq]; omega)
  have t1 : tag.toList.isEmpty = false := fullT (by omega)
  have t2 : ¬ (16 : Int) < (tag.size : Int) := by omega
  have t3 : IntKind.u8.wrap ((tag.size : Nat) : Int) = ((tag.size : Nat) : Int) := IntWalk.u8_in _ (by omega)
  clear hp hs h1 h2
  go_enter Try.func30, Try.ntmps30
  go_upto_region 4 with fail
  obtain ⟨b, hb⟩ : ∃ b, w.heap.size = b := ⟨_, rfl⟩
  rw [hb]
  obtain ⟨V, hV⟩ : ∃ V, w.alloc (.cells #[.pointer none, .slice none 0 0] 78) = V := ⟨_, rfl⟩
  rw [hV]
  have HBW : Hid (w.heap.size ≤ b) := Lib.hid (Nat.le_of_eq hb)
  have HI : Hid (Lib.IsBuilder 78 5 b b [] V) := Lib.hid (Or.inl ⟨Nat.le_refl _, _, by rw [← hV]; exact alloc_new_at _ hb, World.ownsRow_nil _ _ _ _, by simp [Value.ownBlock]⟩)
  have HVW : Hid (Below w.heap.size w V) := Lib.hid (by rw [← hV]; exact balloc (Below.refl _ _) _)
  have HVS : Hid (b ≤ V.heap.size) := Lib.hid (by rw [← hb]; exact HVW.out.size)
  clear hV hb
  go_wp2_with fail
  refine (bbyte_any b b [] _ V HI.out (by decide) HVS.out).mono ?_
  rintro e w1 ⟨rfl, hb1, hB1⟩
  have H1 := Lib.hid hb1
  have HS1 : Hid (b ≤ w1.heap.size) := Lib.hid (Nat.le_trans HVS.out hB1.size)
  have HW1 : Hid (Below w.heap.size w w1) := Lib.hid (HVW.out.trans (hB1.mono HBW.out))
  clear hb1 hB1 t1 t2 t3
  go_wp2_with fail
  refine (bstr_any b b _ tag w1 (Or.inr H1.out) (by have := HT2.out; show 1 + tag.size ≤ _; omega) HS1.out).mono ?_
  rintro e w2 ⟨rfl, hb2, hB2⟩
  have H2 : Hid (BlAt b b (headL tag ++ partsL (parts.take 0)) w2) := Lib.hid (by
    show Lib.BuilderAt _ _ _ _ _ (Lib.byteCells _) _
    rw [List.take_zero, show partsL [] = [] from rfl, List.append_nil, headL_cells tag HT2.out]
    exact hb2)
  have HS2 : Hid (b ≤ w2.heap.size) := Lib.hid (Nat.le_trans HS1.out hB2.size)
  have HW2 : Hid (Below w.heap.size w w2) := Lib.hid (HW1.out.trans (hB2.mono HBW.out))
  clear hb2 hB2
  go_wp2
  go_loopg [25, 8] (len parts) (fun g i _ wr => ∃ m : Nat, g + m = len parts ∧ i = .int .i64 m ∧ Hid (BlAt b b (headL tag ++ partsL (parts.take m)) wr) ∧ Hid (b ≤ wr.heap.size) ∧ Hid (Below w.heap.size w wr))
  case atStart => exact ⟨0, rfl, rfl, H2, HS2, HW2⟩
  case round =>
    clear H2 HS2 HW2
    obtain ⟨m, hm, rfl, H2, HS2, HW2⟩ := hrel
    have HPB := HPL.out
    by_cases hlt : m < len parts
    · have i1 : (m : Int) < (len parts : Nat) := by omega
      obtain ⟨pb, po, rfl, hpc⟩ := (HP.out.below HW2.out) m hlt
      obtain ⟨x, hx⟩ : ∃ x, tth parts m = x := ⟨_, rfl⟩
      rw [hx] at hpc
      have HX := Lib.hid hx
      clear hx
      go_wp2_with fail
      refine (lay_part b b _ x wr H2.out (by
        have h1 := HS.out
        have h2 := partsL_le parts (m + 1)
        have h3 := HT2.out
        rw [partsL_snoc _ _ hlt, List.length_append, HX.out, partL_len] at h2
        rw [List.length_append, headL_len]
        omega) HS2.out).mono ?_
      rintro e w3 ⟨rfl, h3, hb3⟩
      have H3 : Hid (BlAt b b (headL tag ++ partsL (parts.take (m + 1))) w3) := Lib.hid (by rw [partsL_snoc _ _ hlt, HX.out, ← List.append_assoc]; exact h3)
      have HS3 : Hid (b ≤ w3.heap.size) := Lib.hid (Nat.le_trans HS2.out hb3.size)
      have HW3 : Hid (Below w.heap.size w w3) := Lib.hid (HW2.out.trans (hb3.mono HBW.out))
      clear h3 hb3 hpc
      go_wp2
      go_roundg (len parts - (m + 1))
      case rel => exact ⟨m + 1, by omega, by go_num, H3, HS3, HW3⟩
      case measure => omega
    · obtain rfl : m = len parts := by omega
      have i1 : ¬ ((len parts : Nat) : Int) < (len parts : Nat) := by omega
      have H4 : Hid (BlAt b b (framL tag parts) wr) := Lib.hid (by have h := H2.out; rw [take_len] at h; exact h)
      clear H2 hm hlt
      go_wp2_with fail
      refine (Try.Builder_String_any b b _ wr (Or.inr H4.out) HS2.out).mono ?_
      rintro e w4 ⟨rfl, hB4⟩
      have HW4 : Hid (Below w.heap.size w w4) := Lib.hid (HW2.out.trans (hB4.mono HBW.out))
      clear hB4
      go_wp2
      go_ret
      exact ⟨rfl, HW4.out⟩
set_option maxRecDepth 100000 in
set_option maxHeartbeats 4000000 in
theorem hash_any (tag : ByteArray) (parts : List ByteArray) (a : Option Addr) (cap : Nat) (w : World) (h1 : 1 ≤ tag.size) (h2 : tag.size ≤ 16) (hp : Txts w a parts) (hs : (partsL parts).length ≤ 140737488355300) :
    Calls Try.prog 13 #[.string tag, .slice a (len parts) cap] w fun e w' => e = .returned (.string (hashP tag parts)) ∧ Below w.heap.size w w' := by
  have HF := Lib.hid (frame_any tag parts a cap w h1 h2 hp hs)
  have HS : Hid (1 ≤ (frameS tag parts).size ∧ (frameS tag parts).size ≤ 140737488355328) := Lib.hid (by rw [frameS_size]; omega)
  clear h1 h2 hp hs
  go_enter Try.func13, Try.ntmps13
  go_wp2_with fail
  refine HF.out.mono ?_
  rintro e w1 ⟨rfl, hb1⟩
  have HB1 := Lib.hid hb1
  have t1 : (frameS tag parts).toList.isEmpty = false := fullT (by have := HS.out; omega)
  clear hb1
  go_wp2_with fail
  refine (sha_any (frameS tag parts) w1 (by have := HS.out; omega)).mono ?_
  rintro e w2 ⟨rfl, hb2⟩
  have HB2 : Hid (Below w.heap.size w w2) := Lib.hid (bnext HB1.out hb2)
  clear hb2
  go_wp2
  go_ret
  exact ⟨rfl, HB2.out⟩
end Go.Proofs.Ytmikkhfklmmkaaa
namespace Go.Proofs.Ytmikkhfklmmkaaa
open Go.RowKit
set_option linter.unusedSimpArgs false
set_option linter.unusedVariables false
def NodeAt (b : Nat) (d : ByteArray) (k0 k1 : Option Addr) (w : World) : Prop := w.heap[b]? = some (.cells #[.string d, .pointer k0, .pointer k1] 49 (0, 0))
theorem NodeAt.below {b : Nat} {d : ByteArray} {k0 k1 : Option Addr} {w w' : World} (h : NodeAt b d k0 k1 w) (hb : Below w.heap.size w w') : NodeAt b d k0 k1 w' := (hb.block _ (lt_of_block h)).trans h
theorem NodeAt.digest {b : Nat} {d : ByteArray} {k0 k1 : Option Addr} {w : World} (h : NodeAt b d k0 k1 w) : w.cell? ⟨b, 0, none⟩ = some (.string d) := by rw [block_cell h]; rfl
def LeafIs (d : ByteArray) (w : World) (e : Ending) (w' : World) : Prop := ∃ b, e = .returned (.pointer (some ⟨b, 0, none⟩)) ∧ w.heap.size ≤ b ∧ NodeAt b d none none w' ∧ Below w.heap.size w w'
theorem txts_cells {w : World} {g : Nat} {cs : Array Value} {t : TypeId} {fr : Nat × Nat} (h : w.heap[g]? = some (.cells cs t fr)) (l : List ByteArray) (hl : ∀ i, i < len l → cs[i]? = some (.string (tth l i))) : Txts w (some ⟨g, 0, none⟩) l := fun i hi => ⟨g, 0, rfl, by rw [block_cell h, Nat.zero_add]; exact hl i hi⟩
set_option maxRecDepth 100000 in
set_option maxHeartbeats 4000000 in
theorem leaf_node (s : ByteArray) (w : World) (hs : s.size ≤ 140737488355200) : Calls Try.prog 22 #[.string s] w (LeafIs (hashP leafT [s]) w) := by
  have HS := Lib.hid hs
  clear hs
  go_enter Try.func22, Try.ntmps22
  go_wp2_with fail
  have hw1 : Txts (w.alloc (.cells #[.string s] 9)) (some ⟨w.heap.size, 0, none⟩) [s] := txts_cells (heap_alloc_new _ _) [s] (fun i hi => by
    have : i = 0 := by have : i < 1 := hi; omega
    subst this; rfl)
  refine (hash_any leafT [s] (some ⟨w.heap.size, 0, none⟩) 1 _ (by decide) (by decide) hw1 (by have := HS.out; show ((partL s) ++ []).length ≤ _; rw [List.append_nil, partL_len]; omega)).mono ?_
  rintro e w2 ⟨rfl, hb2⟩
  have HB2 : Hid (Below w.heap.size w w2) := Lib.hid (bnext (balloc (Below.refl _ _) _) hb2)
  clear hb2 hw1
  obtain ⟨H, hH⟩ : ∃ H, hashP leafT [s] = H := ⟨_, rfl⟩
  rw [hH]
  go_wp2
  go_ret
  exact ⟨w2.heap.size, rfl, HB2.out.size, by rw [hH]; exact heap_alloc_new _ _, balloc HB2.out _⟩
def OverIs (d : ByteArray) (b0 b1 : Nat) (w : World) (e : Ending) (w' : World) : Prop := ∃ b, e = .returned (.pointer (some ⟨b, 0, none⟩)) ∧ w.heap.size ≤ b ∧ NodeAt b d (some ⟨b0, 0, none⟩) (some ⟨b1, 0, none⟩) w' ∧ Below w.heap.size w w'
set_option maxRecDepth 100000 in
set_option maxHeartbeats 4000000 in
theorem over_any (b0 b1 : Nat) (d0 d1 : ByteArray) (w : World) (h0 : w.cell? ⟨b0, 0, none⟩ = some (.string d0)) (h1 : w.cell? ⟨b1, 0, none⟩ = some (.string d1)) (hs : d0.size ≤ 70000000000000 ∧ d1.size ≤ 70000000000000) :
    Calls Try.prog 20 #[.pointer (some ⟨b0, 0, none⟩), .pointer (some ⟨b1, 0, none⟩)] w (OverIs (hashP nodeT [d0, d1]) b0 b1 w) := by
  obtain ⟨H, hH⟩ : ∃ H, hashP nodeT [d0, d1] = H := ⟨_, rfl⟩
  rw [hH]
  have HH : Hid (∀ (g : Nat) (wv : World), wv.heap[g]? = some (.cells #[.string d0, .string d1] 9 (0, 0)) → Calls Try.prog 13 #[.string ⟨#[110, 111, 100, 101]⟩, .slice (some ⟨g, 0, none⟩) 2 2] wv fun e w' => e = .returned (.string H) ∧ Below wv.heap.size wv w') := Lib.hid (fun g wv hg => by
    rw [← hH]
    refine hash_any nodeT [d0, d1] (some ⟨g, 0, none⟩) 2 wv (by decide) (by decide) (txts_cells hg [d0, d1] (fun i hi => by
      have : i = 0 ∨ i = 1 := by have : i < 2 := hi; omega
      rcases this with rfl | rfl <;> rfl)) ?_
    show ((partL d0) ++ ((partL d1) ++ [])).length ≤ _
    rw [List.append_nil, List.length_append, partL_len, partL_len]
    omega)
  have c0 := h0
  have c1 := h1
  clear hH h0 h1 hs
  go_enter Try.func20, Try.ntmps20
  go_upto_region 1 with fail
  refine wp_region_tail 15 1000 (none) (phis [fun u _ => u = (.pointer (some ⟨b0, 0, none⟩)), fun u _ => u = (.pointer (some ⟨b0, 0, none⟩)), fun u _ => u = (.pointer (some ⟨b0, 0, none⟩)), fun u _ => u = (.string d0), fun u _ => u = (.pointer (some ⟨b1, 0, none⟩)), fun u _ => u = (.pointer (some ⟨b1, 0, none⟩)), fun u _ => u = (.pointer (some ⟨b1, 0, none⟩)), fun u _ => u = (.string d1), fun u w' => ∃ g, u = .slice (some ⟨g, 0, none⟩) 2 2 ∧ w'.heap[g]? = some (.cells #[.string d0, .string d1] 9 (0, 0)), fun u _ => u = (.string H), fun u _ => u = (.pointer (some ⟨b0, 0, none⟩)), fun u _ => u = (.pointer (some ⟨b1, 0, none⟩)), fun u _ => u = (.agg #[.pointer (some ⟨b0, 0, none⟩), .pointer (some ⟨b1, 0, none⟩)]), fun u _ => u = (.agg #[.string H, .pointer (some ⟨b0, 0, none⟩), .pointer (some ⟨b1, 0, none⟩)]), fun u w' => ∃ g, u = .pointer (some ⟨g, 0, none⟩) ∧ w.heap.size ≤ g ∧ NodeAt g H (some ⟨b0, 0, none⟩) (some ⟨b1, 0, none⟩) w']) rfl (by kernel_rfl) (by kernel_rfl) (mono_of ⟨mono_eq, mono_eq, mono_eq, mono_eq, mono_eq, mono_eq, mono_eq, mono_eq, ?m8, mono_eq, mono_eq, mono_eq, mono_eq, mono_eq, ?m14, trivial⟩) (steps_of 15 ⟨?s0, ?s1, ?s2, ?s3, ?s4, ?s5, ?s6, ?s7, ?s8, ?s9, ?s10, ?s11, ?s12, ?s13, ?s14, trivial⟩) ?_
  case m8 =>
    exact ⟨fun u w1 w' h ⟨b, h1, hb⟩ => ⟨b, h1, ext_block h hb⟩, fun _ u w1 w' h ⟨b, h1, hb⟩ => ⟨b, h1, extB_block h (by simp) hb⟩⟩
  case m14 =>
    exact ⟨fun u w1 w' h ⟨b, h1, h2, hb⟩ => ⟨b, h1, h2, ext_block h hb⟩, fun _ u w1 w' h ⟨b, h1, h2, hb⟩ => ⟨b, h1, h2, extB_block h (by simp) hb⟩⟩
  case s0 =>
    refine step_val (v := (.pointer (some ⟨b0, 0, none⟩))) (fun av wv hE hS hO hD => ?_) (fun _ => rfl)
    have h0 : av.eval (.tmp 0) = (.pointer (some ⟨b0, 0, none⟩)) := hO.2.2 0 rfl
    have f0 := (ev_form av 0).symm.trans h0
    refine ⟨rfl, ?_⟩
    simp [go_sem, f0]
  case s1 =>
    refine step_val (v := (.pointer (some ⟨b0, 0, none⟩))) (fun av wv hE hS hO hD => ?_) (fun _ => rfl)
    have d5 : av.eval (.tmp 5) = (.pointer (some ⟨b0, 0, none⟩)) := hD.1 rfl _ rfl
    have f5 := (ev_form av 5).symm.trans d5
    refine ⟨rfl, ?_⟩
    simp [go_sem, f5]
  case s2 =>
    refine step_val (v := (.pointer (some ⟨b0, 0, none⟩))) (fun av wv hE hS hO hD => ?_) (fun _ => rfl)
    have d6 : av.eval (.tmp 6) = (.pointer (some ⟨b0, 0, none⟩)) := hD.1 rfl _ rfl
    have f6 := (ev_form av 6).symm.trans d6
    refine ⟨rfl, ?_⟩
    simp [go_sem, f6]
  case s3 =>
    refine step_val (v := (.string d0)) (fun av wv hE hS hO hD => ?_) (fun _ => rfl)
    have d7 : av.eval (.tmp 7) = (.pointer (some ⟨b0, 0, none⟩)) := hD.1 rfl _ rfl
    have f7 := (ev_form av 7).symm.trans d7
    have c0 := extB_cell hE (by simp) c0
    have c1 := extB_cell hE (by simp) c1
    refine ⟨rfl, ?_⟩
    simp [go_sem, f7, c0, c1]
  case s4 =>
    refine step_val (v := (.pointer (some ⟨b1, 0, none⟩))) (fun av wv hE hS hO hD => ?_) (fun _ => rfl)
    have h1 : av.eval (.tmp 1) = (.pointer (some ⟨b1, 0, none⟩)) := hO.2.2 1 rfl
    have f1 := (ev_form av 1).symm.trans h1
    refine ⟨rfl, ?_⟩
    simp [go_sem, f1]
  case s5 =>
    refine step_val (v := (.pointer (some ⟨b1, 0, none⟩))) (fun av wv hE hS hO hD => ?_) (fun _ => rfl)
    have d9 : av.eval (.tmp 9) = (.pointer (some ⟨b1, 0, none⟩)) := hD.1 rfl _ rfl
    have f9 := (ev_form av 9).symm.trans d9
    refine ⟨rfl, ?_⟩
    simp [go_sem, f9]
  case s6 =>
    refine step_val (v := (.pointer (some ⟨b1, 0, none⟩))) (fun av wv hE hS hO hD => ?_) (fun _ => rfl)
    have d10 : av.eval (.tmp 10) = (.pointer (some ⟨b1, 0, none⟩)) := hD.1 rfl _ rfl
    have f10 := (ev_form av 10).symm.trans d10
    refine ⟨rfl, ?_⟩
    simp [go_sem, f10]
  case s7 =>
    refine step_val (v := (.string d1)) (fun av wv hE hS hO hD => ?_) (fun _ => rfl)
    have d11 : av.eval (.tmp 11) = (.pointer (some ⟨b1, 0, none⟩)) := hD.1 rfl _ rfl
    have f11 := (ev_form av 11).symm.trans d11
    have c0 := extB_cell hE (by simp) c0
    have c1 := extB_cell hE (by simp) c1
    refine ⟨rfl, ?_⟩
    simp [go_sem, f11, c0, c1]
  case s8 =>
    refine step_wp (fun av wv hE hS hO hD => ?_)
    have d8 : av.eval (.tmp 8) = (.string d0) := hD.1 rfl _ rfl
    have f8 := (ev_form av 8).symm.trans d8
    have d12 : av.eval (.tmp 12) = (.string d1) := hD.2.1 rfl _ rfl
    have f12 := (ev_form av 12).symm.trans d12
    refine ⟨rfl, ?_⟩
    refine wp_of_run (v := .slice (some ⟨wv.heap.size, 0, none⟩) 2 2) (w' := wv.alloc (.cells #[.string d0, .string d1] 9)) (by simp [go_sem, f8, f12]) ⟨_, rfl, es_of_ext (balloc (Ext_refl _) _), wv.heap.size, rfl, heap_alloc_new _ _⟩
  case s9 =>
    refine step_wp (fun av wv hE hS hO hD => ?_)
    have d13 : (fun u w' => ∃ g, u = .slice (some ⟨g, 0, none⟩) 2 2 ∧ w'.heap[g]? = some (.cells #[.string d0, .string d1] 9 (0, 0))) (av.eval (.tmp 13)) wv := hD.1 rfl _ rfl
    refine ⟨rfl, ?_⟩
    obtain ⟨g, h13, hg⟩ := d13
    have f13 := (ev_form av 13).symm.trans h13
    refine wp_of_call (v := .string H) (by simp [go_sem, f13]) (HH.out g wv hg) (fun w2 hb => ⟨_, rfl, es_of_ext hb, rfl⟩)
  case s10 =>
    refine step_val (v := (.pointer (some ⟨b0, 0, none⟩))) (fun av wv hE hS hO hD => ?_) (fun _ => rfl)
    have h0 : av.eval (.tmp 0) = (.pointer (some ⟨b0, 0, none⟩)) := hO.2.2 0 rfl
    have f0 := (ev_form av 0).symm.trans h0
    refine ⟨rfl, ?_⟩
    simp [go_sem, f0]
  case s11 =>
    refine step_val (v := (.pointer (some ⟨b1, 0, none⟩))) (fun av wv hE hS hO hD => ?_) (fun _ => rfl)
    have h1 : av.eval (.tmp 1) = (.pointer (some ⟨b1, 0, none⟩)) := hO.2.2 1 rfl
    have f1 := (ev_form av 1).symm.trans h1
    refine ⟨rfl, ?_⟩
    simp [go_sem, f1]
  case s12 =>
    refine step_val (v := (.agg #[.pointer (some ⟨b0, 0, none⟩), .pointer (some ⟨b1, 0, none⟩)])) (fun av wv hE hS hO hD => ?_) (fun _ => rfl)
    have d15 : av.eval (.tmp 15) = (.pointer (some ⟨b0, 0, none⟩)) := hD.1 rfl _ rfl
    have f15 := (ev_form av 15).symm.trans d15
    have d16 : av.eval (.tmp 16) = (.pointer (some ⟨b1, 0, none⟩)) := hD.2.1 rfl _ rfl
    have f16 := (ev_form av 16).symm.trans d16
    refine ⟨rfl, ?_⟩
    simp [go_sem, f15, f16]
  case s13 =>
    refine step_val (v := (.agg #[.string H, .pointer (some ⟨b0, 0, none⟩), .pointer (some ⟨b1, 0, none⟩)])) (fun av wv hE hS hO hD => ?_) (fun _ => rfl)
    have d14 : av.eval (.tmp 14) = (.string H) := hD.1 rfl _ rfl
    have f14 := (ev_form av 14).symm.trans d14
    have d17 : av.eval (.tmp 17) = (.agg #[.pointer (some ⟨b0, 0, none⟩), .pointer (some ⟨b1, 0, none⟩)]) := hD.2.1 rfl _ rfl
    have f17 := (ev_form av 17).symm.trans d17
    refine ⟨rfl, ?_⟩
    simp [go_sem, f14, f17]
  case s14 =>
    refine step_wp (fun av wv hE hS hO hD => ?_)
    have d18 : av.eval (.tmp 18) = (.agg #[.string H, .pointer (some ⟨b0, 0, none⟩), .pointer (some ⟨b1, 0, none⟩)]) := hD.1 rfl _ rfl
    have f18 := (ev_form av 18).symm.trans d18
    refine ⟨rfl, ?_⟩
    refine wp_of_run (v := .pointer (some ⟨wv.heap.size, 0, none⟩)) (w' := wv.alloc (.cells #[.string H, .pointer (some ⟨b0, 0, none⟩), .pointer (some ⟨b1, 0, none⟩)] 49)) (by simp [go_sem, f18]) ⟨_, rfl, es_of_ext (balloc (Ext_refl _) _), wv.heap.size, rfl, (by have := hE.size; simp at this; omega), heap_alloc_new _ _⟩
  intro a' w' hE hO hall
  have hA := act_of_outer (ds := [5, 6, 7, 8, 9, 10, 11, 12, 13, 14, 15, 16, 17, 18, 19]) rfl hO (by kernel_rfl)
  have e5 : (fun u _ => u = (.pointer (some ⟨b0, 0, none⟩))) (a'.eval (.tmp 5)) w' := hall.1 _ rfl
  have e6 : (fun u _ => u = (.pointer (some ⟨b0, 0, none⟩))) (a'.eval (.tmp 6)) w' := hall.2.1 _ rfl
  have e7 : (fun u _ => u = (.pointer (some ⟨b0, 0, none⟩))) (a'.eval (.tmp 7)) w' := hall.2.2.1 _ rfl
  have e8 : (fun u _ => u = (.string d0)) (a'.eval (.tmp 8)) w' := hall.2.2.2.1 _ rfl
  have e9 : (fun u _ => u = (.pointer (some ⟨b1, 0, none⟩))) (a'.eval (.tmp 9)) w' := hall.2.2.2.2.1 _ rfl
  have e10 : (fun u _ => u = (.pointer (some ⟨b1, 0, none⟩))) (a'.eval (.tmp 10)) w' := hall.2.2.2.2.2.1 _ rfl
  have e11 : (fun u _ => u = (.pointer (some ⟨b1, 0, none⟩))) (a'.eval (.tmp 11)) w' := hall.2.2.2.2.2.2.1 _ rfl
  have e12 : (fun u _ => u = (.string d1)) (a'.eval (.tmp 12)) w' := hall.2.2.2.2.2.2.2.1 _ rfl
  have e13 : (fun u w' => ∃ g, u = .slice (some ⟨g, 0, none⟩) 2 2 ∧ w'.heap[g]? = some (.cells #[.string d0, .string d1] 9 (0, 0))) (a'.eval (.tmp 13)) w' := hall.2.2.2.2.2.2.2.2.1 _ rfl
  have e14 : (fun u _ => u = (.string H)) (a'.eval (.tmp 14)) w' := hall.2.2.2.2.2.2.2.2.2.1 _ rfl
  have e15 : (fun u _ => u = (.pointer (some ⟨b0, 0, none⟩))) (a'.eval (.tmp 15)) w' := hall.2.2.2.2.2.2.2.2.2.2.1 _ rfl
  have e16 : (fun u _ => u = (.pointer (some ⟨b1, 0, none⟩))) (a'.eval (.tmp 16)) w' := hall.2.2.2.2.2.2.2.2.2.2.2.1 _ rfl
  have e17 : (fun u _ => u = (.agg #[.pointer (some ⟨b0, 0, none⟩), .pointer (some ⟨b1, 0, none⟩)])) (a'.eval (.tmp 17)) w' := hall.2.2.2.2.2.2.2.2.2.2.2.2.1 _ rfl
  have e18 : (fun u _ => u = (.agg #[.string H, .pointer (some ⟨b0, 0, none⟩), .pointer (some ⟨b1, 0, none⟩)])) (a'.eval (.tmp 18)) w' := hall.2.2.2.2.2.2.2.2.2.2.2.2.2.1 _ rfl
  have e19 : (fun u w' => ∃ g, u = .pointer (some ⟨g, 0, none⟩) ∧ w.heap.size ≤ g ∧ NodeAt g H (some ⟨b0, 0, none⟩) (some ⟨b1, 0, none⟩) w') (a'.eval (.tmp 19)) w' := hall.2.2.2.2.2.2.2.2.2.2.2.2.2.2.1 _ rfl
  obtain ⟨v13, hv13⟩ : ∃ v, a'.eval (.tmp 13) = v := ⟨_, rfl⟩
  rw [hv13] at e13
  obtain ⟨v19, hv19⟩ : ∃ v, a'.eval (.tmp 19) = v := ⟨_, rfl⟩
  rw [hv19] at e19
  simp only [List.foldl_cons, List.foldl_nil, Act.put, List.setIfInBounds_toArray, List.set_cons_succ, List.set_cons_zero, e5, e6, e7, e8, e9, e10, e11, e12, hv13, e14, e15, e16, e17, e18, hv19] at hA
  clear hO hall e5 e6 e7 e8 e9 e10 e11 e12 hv13 e14 e15 e16 e17 e18 hv19
  subst hA
  obtain ⟨g, rfl, hg, hn⟩ := e19
  have HN := Lib.hid hn
  have HG := Lib.hid hg
  have HW : Hid (Below w.heap.size w w') := Lib.hid (of_drew hE)
  clear hn hg hE
  go_wp2
  go_ret
  exact ⟨g, rfl, HG.out, HN.out, HW.out⟩
end Go.Proofs.Ytmikkhfklmmkaaa
namespace Go.Proofs.Ytmikkhfklmmkaaa
open Go.RowKit
set_option linter.unusedSimpArgs false
set_option linter.unusedVariables false
def plD (els : List ByteArray) (d : Nat) : Nat → Nat → ByteArray
  | 0, k => if revOf k d < len els then hashP leafT [tth els (revOf k d)] else hashP noneT []
  | l + 1, k => hashP nodeT [plD els d l (2 * k), plD els d l (2 * k + 1)]
theorem plD_size (els : List ByteArray) (d : Nat) : ∀ l k, (plD els d l k).size = 32
  | 0, k => by unfold plD; split <;> exact hashP_size _ _
  | l + 1, k => hashP_size _ _
end Go.Proofs.Ytmikkhfklmmkaaa
namespace Go.Proofs.Ytmikkhfklmmkaaa
open Go.RowKit
set_option linter.unusedSimpArgs false
set_option linter.unusedVariables false
def PlaceIs (els : List ByteArray) (d : Nat) : Nat → Nat → Nat → World → Prop
  | 0, k, b, w => NodeAt b (plD els d 0 k) none none w
  | l + 1, k, b, w => ∃ b0 b1, NodeAt b (plD els d (l + 1) k) (some ⟨b0, 0, none⟩) (some ⟨b1, 0, none⟩) w ∧ PlaceIs els d l (2 * k) b0 w ∧ PlaceIs els d l (2 * k + 1) b1 w
theorem PlaceIs.below {els : List ByteArray} {d : Nat} : ∀ {l k b : Nat} {w w' : World}, PlaceIs els d l k b w → Below w.heap.size w w' → PlaceIs els d l k b w'
  | 0, _, _, _, _, h, hb => NodeAt.below h hb
  | l + 1, _, _, _, _, ⟨b0, b1, h, h0, h1⟩, hb => ⟨b0, b1, h.below hb, h0.below hb, h1.below hb⟩
theorem PlaceIs.digest {els : List ByteArray} {d : Nat} : ∀ {l k b : Nat} {w : World}, PlaceIs els d l k b w → w.cell? ⟨b, 0, none⟩ = some (.string (plD els d l k))
  | 0, _, _, _, h => NodeAt.digest h
  | l + 1, _, _, _, ⟨b0, b1, h, _, _⟩ => h.digest
theorem PlaceIs.ext {els : List ByteArray} {d l k b : Nat} {w w' : World} (h : PlaceIs els d l k b w) (hb : Ext w w') : PlaceIs els d l k b w' := h.below hb
theorem PlaceIs.extB {els : List ByteArray} {d l k b : Nat} {w w' : World} (h : PlaceIs els d l k b w) (hb : ExtB none w w') : PlaceIs els d l k b w' := h.below (extB_none hb)
structure EnvT (els : List ByteArray) (d bF bD bE bN nb : Nat) (a : Option Addr) (cap : Nat) (w : World) : Prop where
  f : w.heap[bF]? = some (.cells #[.func (.func 19) #[] #[.pointer (some ⟨bF, 0, none⟩), .pointer (some ⟨bD, 0, none⟩), .pointer (some ⟨bE, 0, none⟩), .pointer (some ⟨bN, 0, none⟩)]] 50 (0, 0))
  d : w.heap[bD]? = some (.cells #[.int .i64 (d : Nat)] 3 (0, 0))
  e : w.heap[bE]? = some (.cells #[.slice a (len els) cap] 26 (0, 0))
  n : w.heap[bN]? = some (.cells #[.pointer (some ⟨nb, 0, none⟩)] 46 (0, 0))
  nb : NodeAt nb (hashP noneT []) none none w
  t : Txts w a els
theorem EnvT.below {els : List ByteArray} {d bF bD bE bN nb : Nat} {a : Option Addr} {cap : Nat} {w w' : World} (h : EnvT els d bF bD bE bN nb a cap w) (hb : Below w.heap.size w w') : EnvT els d bF bD bE bN nb a cap w' :=
  ⟨(hb.block _ (lt_of_block h.f)).trans h.f, (hb.block _ (lt_of_block h.d)).trans h.d, (hb.block _ (lt_of_block h.e)).trans h.e, (hb.block _ (lt_of_block h.n)).trans h.n, h.nb.below hb, h.t.below hb⟩
def AtIs (els : List ByteArray) (d l k : Nat) (w : World) (e : Ending) (w' : World) : Prop := ∃ g, e = .returned (.pointer (some ⟨g, 0, none⟩)) ∧ PlaceIs els d l k g w' ∧ Below w.heap.size w w'
theorem turned_rev {k d : Nat} (hd : d ≤ 16) (hk : k < 2 ^ d) : turnedZ (k : Nat) (d : Nat) = ((revOf k d : Nat) : Int) := by
  unfold turnedZ
  rw [if_pos]
  · simp
  · refine ⟨by omega, by omega, ?_⟩
    rw [Int.toNat_natCast, pow_cast]
    exact_mod_cast hk
theorem pow_le16 {d : Nat} (hd : d ≤ 16) : 2 ^ d ≤ 65536 := Nat.pow_le_pow_right (by decide) hd
set_option maxRecDepth 100000 in
set_option maxHeartbeats 4000000 in
theorem at_zero (els : List ByteArray) (d bF bD bE bN nb : Nat) (a : Option Addr) (cap k : Nat) (w : World) (hd : d ≤ 16) (hk : k < 2 ^ d) (hn : len els ≤ 65536) (hz : ∀ i, i < len els → (tth els i).size ≤ 140737488355200) (h : EnvT els d bF bD bE bN nb a cap w) :
    Calls Try.prog 19 #[.int .i64 0, .int .u64 k, .pointer (some ⟨bF, 0, none⟩), .pointer (some ⟨bD, 0, none⟩), .pointer (some ⟨bE, 0, none⟩), .pointer (some ⟨bN, 0, none⟩)] w (AtIs els d 0 k w) := by
  have H := Lib.hid h
  have HK : Hid (k < 65536) := Lib.hid (Nat.lt_of_lt_of_le hk (pow_le16 hd))
  have HN := Lib.hid hn
  have HZ := Lib.hid hz
  have HEL := Lib.hid (element_any (k : Nat) (d : Nat) w (by omega) (by have := HK.out; omega))
  rw [turned_rev hd hk] at HEL
  have cd : w.cell? ⟨bD, 0, none⟩ = some (.int .i64 (d : Nat)) := by rw [block_cell h.d]; rfl
  have ce : w.cell? ⟨bE, 0, none⟩ = some (.slice a (len els) cap) := by rw [block_cell h.e]; rfl
  have cn : w.cell? ⟨bN, 0, none⟩ = some (.pointer (some ⟨nb, 0, none⟩)) := by rw [block_cell h.n]; rfl
  have HPL : Hid (plD els d 0 k = if revOf k d < len els then hashP leafT [tth els (revOf k d)] else hashP noneT []) := Lib.hid rfl
  have HRL : Hid (revOf k d < 65536) := Lib.hid (Nat.lt_of_lt_of_le (revOf_lt k d) (pow_le16 hd))
  obtain ⟨i, hi⟩ : ∃ i, revOf k d = i := ⟨_, rfl⟩
  rw [hi] at HEL HPL HRL
  clear h hi hd hk hn hz
  go_enter Try.func19, Try.ntmps19
  go_wp2_with fail
  refine HEL.out.mono ?_
  rintro e w1 ⟨rfl, rfl⟩
  have HNB := HN.out
  have hil := HRL.out
  by_cases hlt : i < len els
  · have i1 : (i : Int) < (len els : Nat) := by omega
    have i2 : IntKind.u64.wrap ((len els : Nat) : Int) = ((len els : Nat) : Int) := IntWalk.u64_in _ (by omega)
    obtain ⟨pb, po, rfl, hpc⟩ := H.out.t i hlt
    obtain ⟨x, hx⟩ : ∃ x, tth els i = x := ⟨_, rfl⟩
    rw [hx] at hpc
    have HX := Lib.hid hx
    clear hx
    go_wp2_with fail
    refine (leaf_node x w (by rw [← HX.out]; exact HZ.out i hlt)).mono ?_
    rintro e w2 ⟨g, rfl, hg, hn2, hb2⟩
    have HE2 : Hid (PlaceIs els d 0 k g w2) := Lib.hid (by
      show NodeAt g (plD els d 0 k) none none w2
      rw [HPL.out, if_pos hlt, HX.out]; exact hn2)
    have HB2 := Lib.hid hb2
    clear hg hn2 hb2 hpc
    go_wp2
    go_ret
    exact ⟨g, rfl, HE2.out, HB2.out⟩
  · have i1 : ¬ (i : Int) < (len els : Nat) := by omega
    have i2 : IntKind.u64.wrap ((len els : Nat) : Int) = ((len els : Nat) : Int) := IntWalk.u64_in _ (by omega)
    have HE2 : Hid (PlaceIs els d 0 k nb w) := Lib.hid (by
      show NodeAt nb (plD els d 0 k) none none w
      rw [HPL.out, if_neg hlt]; exact H.out.nb)
    clear hlt
    go_wp2
    go_ret
    exact ⟨nb, rfl, HE2.out, Below.refl _ _⟩
set_option maxRecDepth 100000 in
set_option maxHeartbeats 4000000 in
theorem at_step (els : List ByteArray) (d bF bD bE bN nb : Nat) (a : Option Addr) (cap l k : Nat) (w : World) (hd : l + 1 ≤ 16) (hk : k < 65536) (h : EnvT els d bF bD bE bN nb a cap w)
    (hr : ∀ (k' : Nat) (wv : World), Below w.heap.size w wv → (k' = 2 * k ∨ k' = 2 * k + 1) → Calls Try.prog 19 #[.int .i64 (l : Nat), .int .u64 ((k' : Nat) : Int), .pointer (some ⟨bF, 0, none⟩), .pointer (some ⟨bD, 0, none⟩), .pointer (some ⟨bE, 0, none⟩), .pointer (some ⟨bN, 0, none⟩)] wv (AtIs els d l k' wv)) :
    Calls Try.prog 19 #[.int .i64 ((l + 1 : Nat) : Int), .int .u64 k, .pointer (some ⟨bF, 0, none⟩), .pointer (some ⟨bD, 0, none⟩), .pointer (some ⟨bE, 0, none⟩), .pointer (some ⟨bN, 0, none⟩)] w (AtIs els d (l + 1) k w) := by
  have HR := Lib.hid hr
  have K1 : 2 * k = 2 * k ∨ 2 * k = 2 * k + 1 := Or.inl rfl
  have K2 : 2 * k + 1 = 2 * k ∨ 2 * k + 1 = 2 * k + 1 := Or.inr rfl
  have cf : w.cell? ⟨bF, 0, none⟩ = some (.func (.func 19) #[] #[.pointer (some ⟨bF, 0, none⟩), .pointer (some ⟨bD, 0, none⟩), .pointer (some ⟨bE, 0, none⟩), .pointer (some ⟨bN, 0, none⟩)]) := by rw [block_cell h.f]; rfl
  have l1 : (0 : Int) < ((l + 1 : Nat) : Int) := by omega
  have s1 : IntKind.i64.wrap (l : Int) = (l : Int) := IntWalk.i64_in _ (by omega)
  have m1 : IntKind.u64.wrap (2 * (k : Int)) = 2 * (k : Int) := IntWalk.u64_in _ (by omega)
  have m2 : IntKind.u64.wrap (2 * (k : Int) + 1) = 2 * (k : Int) + 1 := IntWalk.u64_in _ (by omega)
  clear hr h
  go_enter Try.func19, Try.ntmps19
  go_upto_region 2 with fail
  refine wp_region_tail 14 1000 (none) (phis [fun u _ => u = (.func (.func 19) #[] #[.pointer (some ⟨bF, 0, none⟩), .pointer (some ⟨bD, 0, none⟩), .pointer (some ⟨bE, 0, none⟩), .pointer (some ⟨bN, 0, none⟩)]), fun u _ => u = (.int .i64 ((l + 1 : Nat) : Int)), fun u _ => u = (.int .i64 (l : Nat)), fun u _ => u = (.int .u64 k), fun u _ => u = (.int .u64 ((2 * k : Nat) : Int)), fun u w' => ∃ g, u = .pointer (some ⟨g, 0, none⟩) ∧ PlaceIs els d l (2 * k) g w', fun u _ => u = (.func (.func 19) #[] #[.pointer (some ⟨bF, 0, none⟩), .pointer (some ⟨bD, 0, none⟩), .pointer (some ⟨bE, 0, none⟩), .pointer (some ⟨bN, 0, none⟩)]), fun u _ => u = (.int .i64 ((l + 1 : Nat) : Int)), fun u _ => u = (.int .i64 (l : Nat)), fun u _ => u = (.int .u64 k), fun u _ => u = (.int .u64 ((2 * k : Nat) : Int)), fun u _ => u = (.int .u64 ((2 * k + 1 : Nat) : Int)), fun u w' => ∃ g, u = .pointer (some ⟨g, 0, none⟩) ∧ PlaceIs els d l (2 * k + 1) g w', fun u w' => ∃ g, u = .pointer (some ⟨g, 0, none⟩) ∧ PlaceIs els d (l + 1) k g w']) rfl (by kernel_rfl) (by kernel_rfl) (mono_of ⟨mono_eq, mono_eq, mono_eq, mono_eq, mono_eq, ?m5, mono_eq, mono_eq, mono_eq, mono_eq, mono_eq, mono_eq, ?m12, ?m13, trivial⟩) (steps_of 14 ⟨?s0, ?s1, ?s2, ?s3, ?s4, ?s5, ?s6, ?s7, ?s8, ?s9, ?s10, ?s11, ?s12, ?s13, trivial⟩) ?_
  case m5 =>
    exact ⟨fun u w1 w' h ⟨b, h1, hb⟩ => ⟨b, h1, hb.ext h⟩, fun _ u w1 w' h ⟨b, h1, hb⟩ => ⟨b, h1, hb.extB h⟩⟩
  case m12 =>
    exact ⟨fun u w1 w' h ⟨b, h1, hb⟩ => ⟨b, h1, hb.ext h⟩, fun _ u w1 w' h ⟨b, h1, hb⟩ => ⟨b, h1, hb.extB h⟩⟩
  case m13 =>
    exact ⟨fun u w1 w' h ⟨b, h1, hb⟩ => ⟨b, h1, hb.ext h⟩, fun _ u w1 w' h ⟨b, h1, hb⟩ => ⟨b, h1, hb.extB h⟩⟩
  case s0 =>
    refine step_val (v := (.func (.func 19) #[] #[.pointer (some ⟨bF, 0, none⟩), .pointer (some ⟨bD, 0, none⟩), .pointer (some ⟨bE, 0, none⟩), .pointer (some ⟨bN, 0, none⟩)])) (fun av wv hE hS hO hD => ?_) (fun _ => rfl)
    have h2 : av.eval (.tmp 2) = (.pointer (some ⟨bF, 0, none⟩)) := hO.2.2 2 rfl
    have f2 := (ev_form av 2).symm.trans h2
    have cf := extB_cell hE (by simp) cf
    refine ⟨rfl, ?_⟩
    simp [go_sem, f2, cf, s1, m1, m2]
  case s1 =>
    refine step_val (v := (.int .i64 ((l + 1 : Nat) : Int))) (fun av wv hE hS hO hD => ?_) (fun _ => rfl)
    have h0 : av.eval (.tmp 0) = (.int .i64 ((l + 1 : Nat) : Int)) := hO.2.2 0 rfl
    have f0 := (ev_form av 0).symm.trans h0
    refine ⟨rfl, ?_⟩
    simp [go_sem, f0, s1, m1, m2]
  case s2 =>
    refine step_val (v := (.int .i64 (l : Nat))) (fun av wv hE hS hO hD => ?_) (fun _ => rfl)
    have d13 : av.eval (.tmp 13) = (.int .i64 ((l + 1 : Nat) : Int)) := hD.1 rfl _ rfl
    have f13 := (ev_form av 13).symm.trans d13
    refine ⟨rfl, ?_⟩
    simp [go_sem, f13, s1, m1, m2]
  case s3 =>
    refine step_val (v := (.int .u64 k)) (fun av wv hE hS hO hD => ?_) (fun _ => rfl)
    have h1 : av.eval (.tmp 1) = (.int .u64 k) := hO.2.2 1 rfl
    have f1 := (ev_form av 1).symm.trans h1
    refine ⟨rfl, ?_⟩
    simp [go_sem, f1, s1, m1, m2]
  case s4 =>
    refine step_val (v := (.int .u64 ((2 * k : Nat) : Int))) (fun av wv hE hS hO hD => ?_) (fun _ => rfl)
    have d15 : av.eval (.tmp 15) = (.int .u64 k) := hD.1 rfl _ rfl
    have f15 := (ev_form av 15).symm.trans d15
    refine ⟨rfl, ?_⟩
    simp [go_sem, f15, s1, m1, m2]
  case s5 =>
    refine step_wp (fun av wv hE hS hO hD => ?_)
    have d12 : av.eval (.tmp 12) = (.func (.func 19) #[] #[.pointer (some ⟨bF, 0, none⟩), .pointer (some ⟨bD, 0, none⟩), .pointer (some ⟨bE, 0, none⟩), .pointer (some ⟨bN, 0, none⟩)]) := hD.1 rfl _ rfl
    have f12 := (ev_form av 12).symm.trans d12
    have d14 : av.eval (.tmp 14) = (.int .i64 (l : Nat)) := hD.2.1 rfl _ rfl
    have f14 := (ev_form av 14).symm.trans d14
    have d16 : av.eval (.tmp 16) = (.int .u64 ((2 * k : Nat) : Int)) := hD.2.2.1 rfl _ rfl
    have f16 := (ev_form av 16).symm.trans d16
    refine ⟨rfl, ?_⟩
    refine wp_of_callV (R := fun u w2 => (∃ g, u = .pointer (some ⟨g, 0, none⟩) ∧ PlaceIs els d l (2 * k) g w2) ∧ Below wv.heap.size wv w2) (f := 19) (args := #[.int .i64 (l : Nat), .int .u64 ((2 * k : Nat) : Int), .pointer (some ⟨bF, 0, none⟩), .pointer (some ⟨bD, 0, none⟩), .pointer (some ⟨bE, 0, none⟩), .pointer (some ⟨bN, 0, none⟩)]) (by simp [go_sem, f12, f14, f16]) ((HR.out (2 * k) wv (of_drew hE) K1).mono (fun e w2 ⟨g, h1, h2, h3⟩ => ⟨_, h1, ⟨g, rfl, h2⟩, h3⟩)) (fun u w2 ⟨h1, h2⟩ => ⟨_, rfl, es_of_ext h2, h1⟩)
  case s6 =>
    refine step_val (v := (.func (.func 19) #[] #[.pointer (some ⟨bF, 0, none⟩), .pointer (some ⟨bD, 0, none⟩), .pointer (some ⟨bE, 0, none⟩), .pointer (some ⟨bN, 0, none⟩)])) (fun av wv hE hS hO hD => ?_) (fun _ => rfl)
    have h2 : av.eval (.tmp 2) = (.pointer (some ⟨bF, 0, none⟩)) := hO.2.2 2 rfl
    have f2 := (ev_form av 2).symm.trans h2
    have cf := extB_cell hE (by simp) cf
    refine ⟨rfl, ?_⟩
    simp [go_sem, f2, cf, s1, m1, m2]
  case s7 =>
    refine step_val (v := (.int .i64 ((l + 1 : Nat) : Int))) (fun av wv hE hS hO hD => ?_) (fun _ => rfl)
    have h0 : av.eval (.tmp 0) = (.int .i64 ((l + 1 : Nat) : Int)) := hO.2.2 0 rfl
    have f0 := (ev_form av 0).symm.trans h0
    refine ⟨rfl, ?_⟩
    simp [go_sem, f0, s1, m1, m2]
  case s8 =>
    refine step_val (v := (.int .i64 (l : Nat))) (fun av wv hE hS hO hD => ?_) (fun _ => rfl)
    have d19 : av.eval (.tmp 19) = (.int .i64 ((l + 1 : Nat) : Int)) := hD.1 rfl _ rfl
    have f19 := (ev_form av 19).symm.trans d19
    refine ⟨rfl, ?_⟩
    simp [go_sem, f19, s1, m1, m2]
  case s9 =>
    refine step_val (v := (.int .u64 k)) (fun av wv hE hS hO hD => ?_) (fun _ => rfl)
    have h1 : av.eval (.tmp 1) = (.int .u64 k) := hO.2.2 1 rfl
    have f1 := (ev_form av 1).symm.trans h1
    refine ⟨rfl, ?_⟩
    simp [go_sem, f1, s1, m1, m2]
  case s10 =>
    refine step_val (v := (.int .u64 ((2 * k : Nat) : Int))) (fun av wv hE hS hO hD => ?_) (fun _ => rfl)
    have d21 : av.eval (.tmp 21) = (.int .u64 k) := hD.1 rfl _ rfl
    have f21 := (ev_form av 21).symm.trans d21
    refine ⟨rfl, ?_⟩
    simp [go_sem, f21, s1, m1, m2]
  case s11 =>
    refine step_val (v := (.int .u64 ((2 * k + 1 : Nat) : Int))) (fun av wv hE hS hO hD => ?_) (fun _ => rfl)
    have d22 : av.eval (.tmp 22) = (.int .u64 ((2 * k : Nat) : Int)) := hD.1 rfl _ rfl
    have f22 := (ev_form av 22).symm.trans d22
    refine ⟨rfl, ?_⟩
    simp [go_sem, f22, s1, m1, m2]
  case s12 =>
    refine step_wp (fun av wv hE hS hO hD => ?_)
    have d18 : av.eval (.tmp 18) = (.func (.func 19) #[] #[.pointer (some ⟨bF, 0, none⟩), .pointer (some ⟨bD, 0, none⟩), .pointer (some ⟨bE, 0, none⟩), .pointer (some ⟨bN, 0, none⟩)]) := hD.1 rfl _ rfl
    have f18 := (ev_form av 18).symm.trans d18
    have d20 : av.eval (.tmp 20) = (.int .i64 (l : Nat)) := hD.2.1 rfl _ rfl
    have f20 := (ev_form av 20).symm.trans d20
    have d23 : av.eval (.tmp 23) = (.int .u64 ((2 * k + 1 : Nat) : Int)) := hD.2.2.1 rfl _ rfl
    have f23 := (ev_form av 23).symm.trans d23
    refine ⟨rfl, ?_⟩
    refine wp_of_callV (R := fun u w2 => (∃ g, u = .pointer (some ⟨g, 0, none⟩) ∧ PlaceIs els d l (2 * k + 1) g w2) ∧ Below wv.heap.size wv w2) (f := 19) (args := #[.int .i64 (l : Nat), .int .u64 ((2 * k + 1 : Nat) : Int), .pointer (some ⟨bF, 0, none⟩), .pointer (some ⟨bD, 0, none⟩), .pointer (some ⟨bE, 0, none⟩), .pointer (some ⟨bN, 0, none⟩)]) (by simp [go_sem, f18, f20, f23]) ((HR.out (2 * k + 1) wv (of_drew hE) K2).mono (fun e w2 ⟨g, h1, h2, h3⟩ => ⟨_, h1, ⟨g, rfl, h2⟩, h3⟩)) (fun u w2 ⟨h1, h2⟩ => ⟨_, rfl, es_of_ext h2, h1⟩)
  case s13 =>
    refine step_wp (fun av wv hE hS hO hD => ?_)
    have d17 : (fun u w' => ∃ g, u = .pointer (some ⟨g, 0, none⟩) ∧ PlaceIs els d l (2 * k) g w') (av.eval (.tmp 17)) wv := hD.1 rfl _ rfl
    have d24 : (fun u w' => ∃ g, u = .pointer (some ⟨g, 0, none⟩) ∧ PlaceIs els d l (2 * k + 1) g w') (av.eval (.tmp 24)) wv := hD.2.1 rfl _ rfl
    refine ⟨rfl, ?_⟩
    obtain ⟨g0, h17, hg0⟩ := d17
    obtain ⟨g1, h24, hg1⟩ := d24
    have f17 := (ev_form av 17).symm.trans h17
    have f24 := (ev_form av 24).symm.trans h24
    refine wp_of_callV (R := fun u w2 => ∃ g, u = .pointer (some ⟨g, 0, none⟩) ∧ NodeAt g (plD els d (l + 1) k) (some ⟨g0, 0, none⟩) (some ⟨g1, 0, none⟩) w2 ∧ Below wv.heap.size wv w2) (f := 20) (args := #[.pointer (some ⟨g0, 0, none⟩), .pointer (some ⟨g1, 0, none⟩)]) (by simp [go_sem, f17, f24]) ((over_any g0 g1 (plD els d l (2 * k)) (plD els d l (2 * k + 1)) wv hg0.digest hg1.digest ⟨by rw [plD_size]; decide, by rw [plD_size]; decide⟩).mono (fun e w2 ⟨g, h1, _, h2, h3⟩ => ⟨_, h1, g, rfl, h2, h3⟩)) (fun u w2 ⟨g, h1, h2, h3⟩ => ⟨_, rfl, es_of_ext h3, g, h1, g0, g1, h2, hg0.below h3, hg1.below h3⟩)
  intro a' w' hE hO hall
  have hA := act_of_outer (ds := [12, 13, 14, 15, 16, 17, 18, 19, 20, 21, 22, 23, 24, 25]) rfl hO (by kernel_rfl)
  have e12 : (fun u _ => u = (.func (.func 19) #[] #[.pointer (some ⟨bF, 0, none⟩), .pointer (some ⟨bD, 0, none⟩), .pointer (some ⟨bE, 0, none⟩), .pointer (some ⟨bN, 0, none⟩)])) (a'.eval (.tmp 12)) w' := hall.1 _ rfl
  have e13 : (fun u _ => u = (.int .i64 ((l + 1 : Nat) : Int))) (a'.eval (.tmp 13)) w' := hall.2.1 _ rfl
  have e14 : (fun u _ => u = (.int .i64 (l : Nat))) (a'.eval (.tmp 14)) w' := hall.2.2.1 _ rfl
  have e15 : (fun u _ => u = (.int .u64 k)) (a'.eval (.tmp 15)) w' := hall.2.2.2.1 _ rfl
  have e16 : (fun u _ => u = (.int .u64 ((2 * k : Nat) : Int))) (a'.eval (.tmp 16)) w' := hall.2.2.2.2.1 _ rfl
  have e17 : (fun u w' => ∃ g, u = .pointer (some ⟨g, 0, none⟩) ∧ PlaceIs els d l (2 * k) g w') (a'.eval (.tmp 17)) w' := hall.2.2.2.2.2.1 _ rfl
  have e18 : (fun u _ => u = (.func (.func 19) #[] #[.pointer (some ⟨bF, 0, none⟩), .pointer (some ⟨bD, 0, none⟩), .pointer (some ⟨bE, 0, none⟩), .pointer (some ⟨bN, 0, none⟩)])) (a'.eval (.tmp 18)) w' := hall.2.2.2.2.2.2.1 _ rfl
  have e19 : (fun u _ => u = (.int .i64 ((l + 1 : Nat) : Int))) (a'.eval (.tmp 19)) w' := hall.2.2.2.2.2.2.2.1 _ rfl
  have e20 : (fun u _ => u = (.int .i64 (l : Nat))) (a'.eval (.tmp 20)) w' := hall.2.2.2.2.2.2.2.2.1 _ rfl
  have e21 : (fun u _ => u = (.int .u64 k)) (a'.eval (.tmp 21)) w' := hall.2.2.2.2.2.2.2.2.2.1 _ rfl
  have e22 : (fun u _ => u = (.int .u64 ((2 * k : Nat) : Int))) (a'.eval (.tmp 22)) w' := hall.2.2.2.2.2.2.2.2.2.2.1 _ rfl
  have e23 : (fun u _ => u = (.int .u64 ((2 * k + 1 : Nat) : Int))) (a'.eval (.tmp 23)) w' := hall.2.2.2.2.2.2.2.2.2.2.2.1 _ rfl
  have e24 : (fun u w' => ∃ g, u = .pointer (some ⟨g, 0, none⟩) ∧ PlaceIs els d l (2 * k + 1) g w') (a'.eval (.tmp 24)) w' := hall.2.2.2.2.2.2.2.2.2.2.2.2.1 _ rfl
  have e25 : (fun u w' => ∃ g, u = .pointer (some ⟨g, 0, none⟩) ∧ PlaceIs els d (l + 1) k g w') (a'.eval (.tmp 25)) w' := hall.2.2.2.2.2.2.2.2.2.2.2.2.2.1 _ rfl
  obtain ⟨v17, hv17⟩ : ∃ v, a'.eval (.tmp 17) = v := ⟨_, rfl⟩
  rw [hv17] at e17
  obtain ⟨v24, hv24⟩ : ∃ v, a'.eval (.tmp 24) = v := ⟨_, rfl⟩
  rw [hv24] at e24
  obtain ⟨v25, hv25⟩ : ∃ v, a'.eval (.tmp 25) = v := ⟨_, rfl⟩
  rw [hv25] at e25
  simp only [List.foldl_cons, List.foldl_nil, Act.put, List.setIfInBounds_toArray, List.set_cons_succ, List.set_cons_zero, e12, e13, e14, e15, e16, hv17, e18, e19, e20, e21, e22, e23, hv24, hv25] at hA
  clear hO hall e12 e13 e14 e15 e16 hv17 e18 e19 e20 e21 e22 e23 hv24 hv25
  subst hA
  obtain ⟨g, rfl, hg⟩ := e25
  have HG := Lib.hid hg
  have HW : Hid (Below w.heap.size w w') := Lib.hid (of_drew hE)
  clear hg hE e17 e24
  go_wp2
  go_ret
  exact ⟨g, rfl, HG.out, HW.out⟩
theorem at_any (els : List ByteArray) (d bF bD bE bN nb : Nat) (a : Option Addr) (cap : Nat) (hd : d ≤ 16) (hn : len els ≤ 65536) (hz : ∀ i, i < len els → (tth els i).size ≤ 140737488355200) :
    ∀ (l k : Nat) (w : World), l ≤ d → k < 2 ^ (d - l) → EnvT els d bF bD bE bN nb a cap w →
    Calls Try.prog 19 #[.int .i64 (l : Nat), .int .u64 k, .pointer (some ⟨bF, 0, none⟩), .pointer (some ⟨bD, 0, none⟩), .pointer (some ⟨bE, 0, none⟩), .pointer (some ⟨bN, 0, none⟩)] w (AtIs els d l k w)
  | 0, k, w, _, hk, h => at_zero els d bF bD bE bN nb a cap k w hd (by simpa using hk) hn hz h
  | l + 1, k, w, hl, hk, h => by
    have h2 : 2 ^ (d - (l + 1)) ≤ 65536 := Nat.le_trans (Nat.pow_le_pow_right (by decide) (show d - (l + 1) ≤ 16 by omega)) (by decide)
    refine at_step els d bF bD bE bN nb a cap l k w (by omega) (by omega) h fun k' wv hb hk' => ?_
    refine at_any els d bF bD bE bN nb a cap hd hn hz l k' wv (by omega) ?_ (h.below hb)
    have : 2 ^ (d - l) = 2 * 2 ^ (d - (l + 1)) := by rw [show d - l = (d - (l + 1)) + 1 by omega, Nat.pow_succ]; omega
    rcases hk' with rfl | rfl <;> omega
end Go.Proofs.Ytmikkhfklmmkaaa
namespace Go.Proofs.Ytmikkhfklmmkaaa
open Go.RowKit
set_option linter.unusedSimpArgs false
set_option linter.unusedVariables false
def depN (els : List ByteArray) : Nat := Lib.bitLen (len els - 1)
theorem depN_le {els : List ByteArray} (h : len els ≤ 65536) : depN els ≤ 16 := (depth_bd (len els) h).1
theorem depthZ_len {els : List ByteArray} (h : len els ≤ 65536) : depthZ (len els : Nat) = ((depN els : Nat) : Int) := by
  unfold depthZ depN
  rw [if_neg (by omega), Int.toNat_natCast]
def TreeAt (els : List ByteArray) (b : Nat) (w : World) : Prop := ∃ p, w.heap[b]? = some (.cells #[.pointer (some ⟨p, 0, none⟩), .int .i64 (depN els : Nat), .int .i64 (len els : Nat)] 55 (0, 0)) ∧ PlaceIs els (depN els) (depN els) 0 p w
theorem TreeAt.below {els : List ByteArray} {b : Nat} {w w' : World} (h : TreeAt els b w) (hb : Below w.heap.size w w') : TreeAt els b w' := by
  obtain ⟨p, h1, h2⟩ := h
  exact ⟨p, (hb.block _ (lt_of_block h1)).trans h1, h2.below hb⟩
def BuildIs (els : List ByteArray) (w : World) (e : Ending) (w' : World) : Prop := ∃ b, e = .returned (.tuple #[.pointer (some ⟨b, 0, none⟩), .int .i64 0]) ∧ w.heap.size ≤ b ∧ TreeAt els b w' ∧ Below w.heap.size w w'
set_option maxRecDepth 100000 in
set_option maxHeartbeats 4000000 in
theorem build_any (els : List ByteArray) (a : Option Addr) (cap : Nat) (w : World) (ht : Txts w a els) (hn : len els ≤ 65536) (hz : ∀ i, i < len els → (tth els i).size ≤ 140737488355200) :
    Calls Try.prog 6 #[.slice a (len els) cap] w (BuildIs els w) := by
  have HT := Lib.hid ht
  have HN := Lib.hid hn
  have HZ := Lib.hid hz
  obtain ⟨d, hd⟩ : ∃ d, depN els = d := ⟨_, rfl⟩
  have HDD := Lib.hid hd
  have HD16 : Hid (d ≤ 16) := Lib.hid (by rw [← hd]; exact depN_le hn)
  have HDZ : Hid (depthZ (len els : Nat) = ((d : Nat) : Int)) := Lib.hid (by rw [← hd]; exact depthZ_len hn)
  have n1 : ¬ (65536 : Int) < (len els : Nat) := by omega
  clear ht hz hd
  go_enter Try.func6, Try.ntmps6
  go_wp2_with fail
  refine (depth_any (len els : Nat) _ (by omega) (by omega)).mono ?_
  rintro e w1 ⟨rfl, rfl⟩
  rw [HDZ.out]
  clear n1 hn
  go_wp2_with fail
  obtain ⟨bE, hbE⟩ : ∃ bE, w.heap.size = bE := ⟨_, rfl⟩
  obtain ⟨bD, hbD⟩ : ∃ bD, w.heap.size + 1 = bD := ⟨_, rfl⟩
  rw [hbD, hbE]
  obtain ⟨V, hV⟩ : ∃ V, (w.alloc (.cells #[.slice a (len els) cap] 26)).alloc (.cells #[.int .i64 (d : Nat)] 3) = V := ⟨_, rfl⟩
  rw [hV]
  have HVE : Hid (V.heap[bE]? = some (.cells #[.slice a (len els) cap] 26 (0, 0))) := Lib.hid (by rw [← hV]; exact block_alloc (alloc_new_at _ hbE) _)
  have HVD : Hid (V.heap[bD]? = some (.cells #[.int .i64 (d : Nat)] 3 (0, 0))) := Lib.hid (by rw [← hV]; exact alloc_new_at _ (by rw [alloc_size _ rfl]; exact hbD))
  have HVW : Hid (Below w.heap.size w V) := Lib.hid (by rw [← hV]; exact balloc (balloc (Below.refl _ _) _) _)
  clear hV hbE hbD
  refine (hash_any noneT [] none 0 V (by decide) (by decide) (Txts.nil _ _) (by decide)).mono ?_
  rintro e w2 ⟨rfl, hb2⟩
  have H2E : Hid (w2.heap[bE]? = some (.cells #[.slice a (len els) cap] 26 (0, 0))) := Lib.hid ((hb2.block _ (lt_of_block HVE.out)).trans HVE.out)
  have H2D : Hid (w2.heap[bD]? = some (.cells #[.int .i64 (d : Nat)] 3 (0, 0))) := Lib.hid ((hb2.block _ (lt_of_block HVD.out)).trans HVD.out)
  have H2W : Hid (Below w.heap.size w w2) := Lib.hid (bnext HVW.out hb2)
  obtain ⟨Hn, hHn⟩ : ∃ Hn, hashP noneT [] = Hn := ⟨_, rfl⟩
  rw [hHn]
  have HHN := Lib.hid hHn
  clear hb2 hHn HVE HVD HVW
  go_upto_region 7 with fail
  obtain ⟨nb, hnb⟩ : ∃ nb, w2.heap.size = nb := ⟨_, rfl⟩
  obtain ⟨bN, hbN⟩ : ∃ bN, w2.heap.size + 1 = bN := ⟨_, rfl⟩
  obtain ⟨bF, hbF⟩ : ∃ bF, w2.heap.size + 1 + 1 = bF := ⟨_, rfl⟩
  rw [hbF, hbN, hnb]
  obtain ⟨U, hU⟩ : ∃ U, (((w2.alloc (.cells #[.string Hn, .pointer none, .pointer none] 49)).alloc (.cells #[.pointer (some ⟨nb, 0, none⟩)] 46)).alloc (.cells #[.func (.func 19) #[] #[.pointer (some ⟨bF, 0, none⟩), .pointer (some ⟨bD, 0, none⟩), .pointer (some ⟨bE, 0, none⟩), .pointer (some ⟨bN, 0, none⟩)]] 50)) = U := ⟨_, rfl⟩
  rw [hU]
  have HEN : Hid (EnvT els d bF bD bE bN nb a cap U) := Lib.hid (by
    have hbw : Below w.heap.size w U := by rw [← hU]; exact balloc (balloc (balloc H2W.out _) _) _
    refine ⟨?_, ?_, ?_, ?_, ?_, HT.out.below hbw⟩
    · rw [← hU]; exact alloc_new_at _ (by rw [alloc_size _ (alloc_size _ rfl)]; exact hbF)
    · rw [← hU]; exact block_alloc (block_alloc (block_alloc H2D.out _) _) _
    · rw [← hU]; exact block_alloc (block_alloc (block_alloc H2E.out _) _) _
    · rw [← hU]; exact block_alloc (alloc_new_at _ (by rw [alloc_size _ rfl]; exact hbN)) _
    · rw [← hU, HHN.out]; exact block_alloc (block_alloc (alloc_new_at _ hnb) _) _)
  have HUW : Hid (Below w.heap.size w U) := Lib.hid (by rw [← hU]; exact balloc (balloc (balloc H2W.out _) _) _)
  have HVS : Hid (w.heap.size ≤ U.heap.size) := Lib.hid HUW.out.size
  have HA : Hid (∀ wv : World, Below U.heap.size U wv → Calls Try.prog 19 #[.int .i64 (d : Nat), .int .u64 0, .pointer (some ⟨bF, 0, none⟩), .pointer (some ⟨bD, 0, none⟩), .pointer (some ⟨bE, 0, none⟩), .pointer (some ⟨bN, 0, none⟩)] wv (AtIs els d d 0 wv)) := Lib.hid (fun wv hb => at_any els d bF bD bE bN nb a cap HD16.out HN.out HZ.out d 0 wv (Nat.le_refl _) (Nat.two_pow_pos _) (HEN.out.below hb))
  have cf : U.cell? ⟨bF, 0, none⟩ = some (.func (.func 19) #[] #[.pointer (some ⟨bF, 0, none⟩), .pointer (some ⟨bD, 0, none⟩), .pointer (some ⟨bE, 0, none⟩), .pointer (some ⟨bN, 0, none⟩)]) := by rw [block_cell HEN.out.f]; rfl
  have cd : U.cell? ⟨bD, 0, none⟩ = some (.int .i64 (d : Nat)) := by rw [block_cell HEN.out.d]; rfl
  have ce : U.cell? ⟨bE, 0, none⟩ = some (.slice a (len els) cap) := by rw [block_cell HEN.out.e]; rfl
  clear hU hnb hbN hbF H2D H2E H2W
  refine wp_region_tail 8 1000 (none) (phis [fun u _ => u = (.func (.func 19) #[] #[.pointer (some ⟨bF, 0, none⟩), .pointer (some ⟨bD, 0, none⟩), .pointer (some ⟨bE, 0, none⟩), .pointer (some ⟨bN, 0, none⟩)]), fun u _ => u = (.int .i64 (d : Nat)), fun u w' => ∃ g, u = .pointer (some ⟨g, 0, none⟩) ∧ PlaceIs els d d 0 g w', fun u _ => u = (.int .i64 (d : Nat)), fun u _ => u = (.slice a (len els) cap), fun u _ => u = (.int .i64 (len els)), fun u w' => ∃ g, u = .agg #[.pointer (some ⟨g, 0, none⟩), .int .i64 (d : Nat), .int .i64 (len els)] ∧ PlaceIs els d d 0 g w', fun u w' => ∃ b, u = .pointer (some ⟨b, 0, none⟩) ∧ w.heap.size ≤ b ∧ TreeAt els b w']) rfl (by kernel_rfl) (by kernel_rfl) (mono_of ⟨mono_eq, mono_eq, ?m2, mono_eq, mono_eq, mono_eq, ?m6, ?m7, trivial⟩) (steps_of 8 ⟨?s0, ?s1, ?s2, ?s3, ?s4, ?s5, ?s6, ?s7, trivial⟩) ?_
  case m2 =>
    exact ⟨fun u w1 w' h ⟨b, h1, hb⟩ => ⟨b, h1, hb.ext h⟩, fun _ u w1 w' h ⟨b, h1, hb⟩ => ⟨b, h1, hb.extB h⟩⟩
  case m6 =>
    exact ⟨fun u w1 w' h ⟨b, h1, hb⟩ => ⟨b, h1, hb.ext h⟩, fun _ u w1 w' h ⟨b, h1, hb⟩ => ⟨b, h1, hb.extB h⟩⟩
  case m7 =>
    exact ⟨fun u w1 w' h ⟨b, h1, h2, hb⟩ => ⟨b, h1, h2, hb.below h⟩, fun _ u w1 w' h ⟨b, h1, h2, hb⟩ => ⟨b, h1, h2, hb.below (extB_none h)⟩⟩
  case s0 =>
    refine step_val (v := (.func (.func 19) #[] #[.pointer (some ⟨bF, 0, none⟩), .pointer (some ⟨bD, 0, none⟩), .pointer (some ⟨bE, 0, none⟩), .pointer (some ⟨bN, 0, none⟩)])) (fun av wv hE hS hO hD => ?_) (fun _ => rfl)
    have h6 : av.eval (.tmp 6) = (.pointer (some ⟨bF, 0, none⟩)) := hO.2.2 6 rfl
    have f6 := (ev_form av 6).symm.trans h6
    have cf := extB_cell hE (by simp) cf
    have cd := extB_cell hE (by simp) cd
    have ce := extB_cell hE (by simp) ce
    refine ⟨rfl, ?_⟩
    simp [go_sem, f6, cf, cd, ce]
  case s1 =>
    refine step_val (v := (.int .i64 (d : Nat))) (fun av wv hE hS hO hD => ?_) (fun _ => rfl)
    have h4 : av.eval (.tmp 4) = (.pointer (some ⟨bD, 0, none⟩)) := hO.2.2 4 rfl
    have f4 := (ev_form av 4).symm.trans h4
    have cf := extB_cell hE (by simp) cf
    have cd := extB_cell hE (by simp) cd
    have ce := extB_cell hE (by simp) ce
    refine ⟨rfl, ?_⟩
    simp [go_sem, f4, cf, cd, ce]
  case s2 =>
    refine step_wp (fun av wv hE hS hO hD => ?_)
    have d17 : av.eval (.tmp 17) = (.func (.func 19) #[] #[.pointer (some ⟨bF, 0, none⟩), .pointer (some ⟨bD, 0, none⟩), .pointer (some ⟨bE, 0, none⟩), .pointer (some ⟨bN, 0, none⟩)]) := hD.1 rfl _ rfl
    have f17 := (ev_form av 17).symm.trans d17
    have d18 : av.eval (.tmp 18) = (.int .i64 (d : Nat)) := hD.2.1 rfl _ rfl
    have f18 := (ev_form av 18).symm.trans d18
    refine ⟨rfl, ?_⟩
    refine wp_of_callV (R := fun u w2 => (∃ g, u = .pointer (some ⟨g, 0, none⟩) ∧ PlaceIs els d d 0 g w2) ∧ Below wv.heap.size wv w2) (f := 19) (args := #[.int .i64 (d : Nat), .int .u64 0, .pointer (some ⟨bF, 0, none⟩), .pointer (some ⟨bD, 0, none⟩), .pointer (some ⟨bE, 0, none⟩), .pointer (some ⟨bN, 0, none⟩)]) (by simp [go_sem, f17, f18]) ((HA.out wv (of_drew hE)).mono (fun e w2 ⟨g, h1, h2, h3⟩ => ⟨_, h1, ⟨g, rfl, h2⟩, h3⟩)) (fun u w2 ⟨h1, h2⟩ => ⟨_, rfl, es_of_ext h2, h1⟩)
  case s3 =>
    refine step_val (v := (.int .i64 (d : Nat))) (fun av wv hE hS hO hD => ?_) (fun _ => rfl)
    have h4 : av.eval (.tmp 4) = (.pointer (some ⟨bD, 0, none⟩)) := hO.2.2 4 rfl
    have f4 := (ev_form av 4).symm.trans h4
    have cf := extB_cell hE (by simp) cf
    have cd := extB_cell hE (by simp) cd
    have ce := extB_cell hE (by simp) ce
    refine ⟨rfl, ?_⟩
    simp [go_sem, f4, cf, cd, ce]
  case s4 =>
    refine step_val (v := (.slice a (len els) cap)) (fun av wv hE hS hO hD => ?_) (fun _ => rfl)
    have h1 : av.eval (.tmp 1) = (.pointer (some ⟨bE, 0, none⟩)) := hO.2.2 1 rfl
    have f1 := (ev_form av 1).symm.trans h1
    have cf := extB_cell hE (by simp) cf
    have cd := extB_cell hE (by simp) cd
    have ce := extB_cell hE (by simp) ce
    refine ⟨rfl, ?_⟩
    simp [go_sem, f1, cf, cd, ce]
  case s5 =>
    refine step_val (v := (.int .i64 (len els))) (fun av wv hE hS hO hD => ?_) (fun _ => rfl)
    have d21 : av.eval (.tmp 21) = (.slice a (len els) cap) := hD.1 rfl _ rfl
    have f21 := (ev_form av 21).symm.trans d21
    refine ⟨rfl, ?_⟩
    simp [go_sem, f21]
  case s6 =>
    refine step_wp (fun av wv hE hS hO hD => ?_)
    have d19 : (fun u w' => ∃ g, u = .pointer (some ⟨g, 0, none⟩) ∧ PlaceIs els d d 0 g w') (av.eval (.tmp 19)) wv := hD.1 rfl _ rfl
    have d20 : av.eval (.tmp 20) = (.int .i64 (d : Nat)) := hD.2.1 rfl _ rfl
    have f20 := (ev_form av 20).symm.trans d20
    have d22 : av.eval (.tmp 22) = (.int .i64 (len els)) := hD.2.2.1 rfl _ rfl
    have f22 := (ev_form av 22).symm.trans d22
    refine ⟨rfl, ?_⟩
    obtain ⟨g, h19, hg⟩ := d19
    have f19 := (ev_form av 19).symm.trans h19
    exact wp_of_run (v := .agg #[.pointer (some ⟨g, 0, none⟩), .int .i64 (d : Nat), .int .i64 (len els)]) (by simp [go_sem, f19, f20, f22]) ⟨_, rfl, es_of_ext (Ext_refl _), g, rfl, hg⟩
  case s7 =>
    refine step_wp (fun av wv hE hS hO hD => ?_)
    have d23 : (fun u w' => ∃ g, u = .agg #[.pointer (some ⟨g, 0, none⟩), .int .i64 (d : Nat), .int .i64 (len els)] ∧ PlaceIs els d d 0 g w') (av.eval (.tmp 23)) wv := hD.1 rfl _ rfl
    refine ⟨rfl, ?_⟩
    obtain ⟨g, h23, hg⟩ := d23
    have f23 := (ev_form av 23).symm.trans h23
    refine wp_of_run (v := .pointer (some ⟨wv.heap.size, 0, none⟩)) (w' := wv.alloc (.cells #[.pointer (some ⟨g, 0, none⟩), .int .i64 (d : Nat), .int .i64 (len els)] 55)) (by simp [go_sem, f23]) ⟨_, rfl, es_of_ext (balloc (Ext_refl _) _), wv.heap.size, rfl, (by have := hE.size; have := HVS.out; simp at *; omega), g, ?_, ?_⟩
    · rw [HDD.out]; exact heap_alloc_new _ _
    · rw [HDD.out]; exact hg.below (balloc (Below.refl _ _) _)
  intro a' w' hE hO hall
  have hA := act_of_outer (ds := [17, 18, 19, 20, 21, 22, 23, 24]) rfl hO (by kernel_rfl)
  have e17 : (fun u _ => u = (.func (.func 19) #[] #[.pointer (some ⟨bF, 0, none⟩), .pointer (some ⟨bD, 0, none⟩), .pointer (some ⟨bE, 0, none⟩), .pointer (some ⟨bN, 0, none⟩)])) (a'.eval (.tmp 17)) w' := hall.1 _ rfl
  have e18 : (fun u _ => u = (.int .i64 (d : Nat))) (a'.eval (.tmp 18)) w' := hall.2.1 _ rfl
  have e19 : (fun u w' => ∃ g, u = .pointer (some ⟨g, 0, none⟩) ∧ PlaceIs els d d 0 g w') (a'.eval (.tmp 19)) w' := hall.2.2.1 _ rfl
  have e20 : (fun u _ => u = (.int .i64 (d : Nat))) (a'.eval (.tmp 20)) w' := hall.2.2.2.1 _ rfl
  have e21 : (fun u _ => u = (.slice a (len els) cap)) (a'.eval (.tmp 21)) w' := hall.2.2.2.2.1 _ rfl
  have e22 : (fun u _ => u = (.int .i64 (len els))) (a'.eval (.tmp 22)) w' := hall.2.2.2.2.2.1 _ rfl
  have e23 : (fun u w' => ∃ g, u = .agg #[.pointer (some ⟨g, 0, none⟩), .int .i64 (d : Nat), .int .i64 (len els)] ∧ PlaceIs els d d 0 g w') (a'.eval (.tmp 23)) w' := hall.2.2.2.2.2.2.1 _ rfl
  have e24 : (fun u w' => ∃ b, u = .pointer (some ⟨b, 0, none⟩) ∧ w.heap.size ≤ b ∧ TreeAt els b w') (a'.eval (.tmp 24)) w' := hall.2.2.2.2.2.2.2.1 _ rfl
  obtain ⟨v19, hv19⟩ : ∃ v, a'.eval (.tmp 19) = v := ⟨_, rfl⟩
  rw [hv19] at e19
  obtain ⟨v23, hv23⟩ : ∃ v, a'.eval (.tmp 23) = v := ⟨_, rfl⟩
  rw [hv23] at e23
  obtain ⟨v24, hv24⟩ : ∃ v, a'.eval (.tmp 24) = v := ⟨_, rfl⟩
  rw [hv24] at e24
  simp only [List.foldl_cons, List.foldl_nil, Act.put, List.setIfInBounds_toArray, List.set_cons_succ, List.set_cons_zero, e17, e18, hv19, e20, e21, e22, hv23, hv24] at hA
  clear hO hall e17 e18 hv19 e20 e21 e22 hv23 hv24
  subst hA
  obtain ⟨g, rfl, hg, ht⟩ := e24
  have HG : Hid (w.heap.size ≤ g) := Lib.hid hg
  have HT2 := Lib.hid ht
  have HW : Hid (Below w.heap.size w w') := Lib.hid (bnext HUW.out (of_drew hE))
  clear hg ht hE e19 e23
  go_wp2
  go_ret2
  exact ⟨g, rfl, HG.out, HT2.out, HW.out⟩
theorem root_any (els : List ByteArray) (b : Nat) (w : World) (h : TreeAt els b w) : Calls Try.prog 16 #[.pointer (some ⟨b, 0, none⟩)] w fun e w' => e = .returned (.string (plD els (depN els) (depN els) 0)) ∧ w = w' := by
  obtain ⟨p, h1, h2⟩ := h
  have c0 : w.cell? ⟨b, 0, none⟩ = some (.pointer (some ⟨p, 0, none⟩)) := by rw [block_cell h1]; rfl
  have c1 := h2.digest
  clear h1 h2
  go_enter Try.func16, Try.ntmps16
  go_wp2
  go_ret
  exact ⟨rfl, rfl⟩
theorem tdepth_any (els : List ByteArray) (b : Nat) (w : World) (h : TreeAt els b w) : Calls Try.prog 27 #[.pointer (some ⟨b, 0, none⟩)] w fun e w' => e = .returned (.int .i64 (depN els : Nat)) ∧ w = w' := by
  obtain ⟨p, h1, h2⟩ := h
  have c0 : w.cell? ⟨b, 1, none⟩ = some (.int .i64 (depN els : Nat)) := by rw [block_cell h1]; rfl
  clear h1 h2
  go_enter Try.func27, Try.ntmps27
  go_wp2
  go_ret
  exact ⟨rfl, rfl⟩
theorem tlen_any (els : List ByteArray) (b : Nat) (w : World) (h : TreeAt els b w) : Calls Try.prog 24 #[.pointer (some ⟨b, 0, none⟩)] w fun e w' => e = .returned (.int .i64 (len els : Nat)) ∧ w = w' := by
  obtain ⟨p, h1, h2⟩ := h
  have c0 : w.cell? ⟨b, 2, none⟩ = some (.int .i64 (len els : Nat)) := by rw [block_cell h1]; rfl
  clear h1 h2
  go_enter Try.func24, Try.ntmps24
  go_wp2
  go_ret
  exact ⟨rfl, rfl⟩
end Go.Proofs.Ytmikkhfklmmkaaa
namespace Go.Proofs.Ytmikkhfklmmkaaa
open Go.RowKit
set_option linter.unusedSimpArgs false
set_option linter.unusedVariables false
theorem mem_flatFrom : ∀ (s : Nat) (rs : List (List Int)) (x : Int × Int), x ∈ flatFrom s rs → ∃ j, j < rs.length ∧ ∃ k ∈ rnth rs j, x = (((s + j : Nat) : Int), k)
  | _, [], x, h => by simp [flatFrom] at h
  | s, r :: rs, x, h => by
    rw [flatFrom, List.mem_append] at h
    rcases h with h | h
    · obtain ⟨k, hk, rfl⟩ := List.mem_map.1 h
      exact ⟨0, by simp, k, by simpa [rnth] using hk, rfl⟩
    · obtain ⟨j, hj, k, hk, rfl⟩ := mem_flatFrom (s + 1) rs x h
      refine ⟨j + 1, by simp; omega, k, by simpa [rnth] using hk, ?_⟩
      rw [show s + 1 + j = s + (j + 1) by omega]
theorem sib_bd {k : Int} {e : Nat} (h0 : 0 ≤ k) (h1 : k < 2 ^ (e + 1)) : 0 ≤ sib k ∧ sib k < 2 ^ (e + 1) := by
  have h2 : (2 : Int) ^ (e + 1) = 2 * 2 ^ e := by rw [Int.pow_succ]; omega
  rw [h2] at h1 ⊢
  generalize (2 : Int) ^ e = p at h1 ⊢
  unfold sib
  split <;> omega
theorem half_bd {y : Int} {d i : Nat} (h0 : 0 ≤ y) (h1 : y < 2 ^ d) (hi : i ≤ d) : 0 ≤ y / 2 ^ i ∧ y / 2 ^ i < 2 ^ (d - i) := by
  obtain ⟨n, rfl⟩ := Int.eq_ofNat_of_zero_le h0
  rw [pow_cast] at h1
  have h3 : n < 2 ^ d := by exact_mod_cast h1
  have h4 : n / 2 ^ i < 2 ^ (d - i) := by
    apply Nat.div_lt_of_lt_mul
    rw [← Nat.pow_add, show i + (d - i) = d by omega]
    exact h3
  rw [pow_cast, pow_cast]
  constructor
  · exact Int.ediv_nonneg h0 (Int.natCast_nonneg _)
  · exact_mod_cast h4
theorem plc_bd {leaves : List Int} {d : Nat} (hd : d ≤ 16) (h : ∀ y ∈ leaves, 0 ≤ y ∧ y < 2 ^ d) : ∀ x ∈ flatLv (needsL leaves (d : Nat)), ∃ i k : Nat, x = ((i : Int), (k : Int)) ∧ i < d ∧ k < 2 ^ (d - i) := by
  intro x hx
  obtain ⟨i, hi, k, hk, rfl⟩ := mem_flatFrom 0 _ x hx
  unfold needsL at hi hk
  split at hi
  · rename_i hc
    rw [if_pos hc, Int.toNat_natCast] at hk
    rw [Int.toNat_natCast] at hi
    unfold rowsOf at hi hk
    rw [List.length_map, List.length_range] at hi
    rw [rnth_eq _ i (by simpa using hi)] at hk
    simp only [List.getElem_map, List.getElem_range] at hk
    unfold rowK at hk
    rw [srt_mem, needK_mem] at hk
    obtain ⟨⟨j, hj, rfl⟩, _⟩ := hk
    rw [(insAll_all _).2.1, List.mem_map] at hj
    obtain ⟨y, hy, rfl⟩ := hj
    have h1 := half_bd (h y hy).1 (h y hy).2 (Nat.le_of_lt hi)
    obtain ⟨e, he⟩ : ∃ e, d - i = e + 1 := ⟨d - i - 1, by omega⟩
    rw [he] at h1
    have h2 := sib_bd h1.1 h1.2
    refine ⟨i, (sib (y / 2 ^ i)).toNat, ?_, hi, ?_⟩
    · rw [Int.toNat_of_nonneg h2.1, Nat.zero_add]
    · rw [he]
      have h3 := h2.2
      rw [pow_cast] at h3
      exact (Int.toNat_lt h2.1).2 h3
  · simp at hi
theorem leaves_in {l : List Int} {d : Nat} (hd : d ≤ 16) : ∀ y ∈ leavesL l (d : Nat), 0 ≤ y ∧ y < 2 ^ d := by
  intro y hy
  obtain ⟨k, _, rfl⟩ := List.mem_map.1 hy
  unfold turnedZ
  split
  · have := revOf_lt k.toNat ((d : Nat) : Int).toNat
    rw [Int.toNat_natCast] at this ⊢
    rw [pow_cast]
    omega
  · rw [pow_cast]
    have := Nat.two_pow_pos d
    omega
def dgsL (els : List ByteArray) (L : List (Int × Int)) : List ByteArray := L.map fun x => plD els (depN els) x.1.toNat x.2.toNat
theorem dgsL_snoc (els : List ByteArray) (L : List (Int × Int)) (x : Int × Int) : dgsL els (L ++ [x]) = dgsL els L ++ [plD els (depN els) x.1.toNat x.2.toNat] := by unfold dgsL; rw [List.map_append]; rfl
theorem row_litE {ks l m : List Int} (h : needK ks = l) (hm : m.Pairwise (fun x y => x < y)) (he : ∀ k, k ∈ l ↔ k ∈ m) : rowK ks = m := by
  unfold rowK
  exact srt_of (needK_nodup ks) hm (fun k => by rw [h]; exact he k)
theorem needsE : needsL (leavesL [0] ((2 : Nat) : Int)) ((2 : Nat) : Int) = [[1], [1]] := by
  have e0 : leavesL [0] ((2 : Nat) : Int) = [0] := by decide
  have e1 : rowsOf [0] 2 = [rowK (insAll [0]), rowK (insAll [0])] := by simp [rowsOf, List.range_succ_eq_map]
  rw [e0]
  unfold needsL
  rw [Int.toNat_natCast, if_pos ⟨by decide, by decide, by decide, by decide⟩, e1, row_litE (l := [1]) (m := [1]) (by decide) (by decide) (fun k => Iff.rfl)]
def abcE : List ByteArray := [⟨#[97]⟩, ⟨#[98]⟩, ⟨#[99]⟩]
theorem depE : depN abcE = 2 := by decide
theorem depZE : depthZ (len abcE : Nat) = ((2 : Nat) : Int) := by decide
theorem plcE : plcL (len abcE : Nat) [0] = [(0, 1), (1, 1)] := by unfold plcL; rw [depZE, needsE]; rfl
theorem leafE (k : Nat) (s : ByteArray) (h : revOf k 2 < len abcE) (hs : tth abcE (revOf k 2) = s) : plD abcE 2 0 k = hashP leafT [s] := by
  show (if revOf k 2 < len abcE then hashP leafT [tth abcE (revOf k 2)] else hashP noneT []) = _
  rw [if_pos h, hs]
theorem noneE (k : Nat) (h : ¬ revOf k 2 < len abcE) : plD abcE 2 0 k = hashP noneT [] := by
  show (if revOf k 2 < len abcE then hashP leafT [tth abcE (revOf k 2)] else hashP noneT []) = _
  rw [if_neg h]
def cE : ByteArray := hashP leafT [⟨#[99]⟩]
def rightE : ByteArray := hashP nodeT [hashP leafT [⟨#[98]⟩], hashP noneT []]
theorem plE1 : plD abcE 2 0 1 = cE := leafE 1 ⟨#[99]⟩ (by decide) rfl
theorem plE2 : plD abcE 2 1 1 = rightE := by
  show hashP nodeT [plD abcE 2 0 (2 * 1), plD abcE 2 0 (2 * 1 + 1)] = _
  rw [leafE (2 * 1) ⟨#[98]⟩ (by decide) rfl, noneE (2 * 1 + 1) (by decide)]
  rfl
theorem plE0 : plD abcE 2 2 0 = hashP nodeT [hashP nodeT [hashP leafT [⟨#[97]⟩], cE], rightE] := by
  show hashP nodeT [hashP nodeT [plD abcE 2 0 (2 * (2 * 0)), plD abcE 2 0 (2 * (2 * 0) + 1)], plD abcE 2 1 (2 * 0 + 1)] = _
  rw [leafE (2 * (2 * 0)) ⟨#[97]⟩ (by decide) rfl, show 2 * (2 * 0) + 1 = 1 from rfl, plE1, plE2]
theorem dgsE : dgsL abcE (plcL (len abcE : Nat) [0]) = [cE, rightE] := by
  rw [plcE]
  unfold dgsL
  rw [depE]
  show [plD abcE 2 0 1, plD abcE 2 1 1] = _
  rw [plE1, plE2]
end Go.Proofs.Ytmikkhfklmmkaaa
namespace Go.Proofs.Ytmikkhfklmmkaaa
open Go.RowKit
set_option linter.unusedSimpArgs false
set_option linter.unusedVariables false
theorem rowK_len (ks : List Int) : (rowK ks).length = (needK ks).length := by
  unfold rowK srt
  exact (List.mergeSort_perm _ _).length_eq
theorem sib_ne (y : Int) : sib y ≠ y := by unfold sib; split <;> omega
theorem rowK_single (y : Int) : (rowK [y]).length = 1 := by
  rw [rowK_len]
  unfold needK
  have h : ([y].map sib).filter (fun s => !decide (s ∈ [y])) = [sib y] := by
    simp [sib_ne y]
  rw [h]
  rfl
theorem rows_get (L : List Int) (d i : Nat) (hi : i < d) : rnth (rowsOf L d) i = rowK (insAll (L.map (· / 2 ^ i))) := by
  rw [rnth_eq _ i (by unfold rowsOf; simpa using hi)]
  unfold rowsOf
  simp only [List.getElem_map, List.getElem_range]
theorem rows_len (L : List Int) (d : Nat) : (rowsOf L d).length = d := by unfold rowsOf; simp
theorem needs_rows {l : List Int} {d : Nat} (hd : d ≤ 16) (h0 : 0 < len l) : needsL (leavesL l (d : Nat)) (d : Nat) = rowsOf (leavesL l (d : Nat)) d := by
  unfold needsL
  rw [Int.toNat_natCast, if_pos]
  refine ⟨by omega, by omega, by rw [leavesL_len]; exact h0, ?_⟩
  unfold farB
  rw [decide_eq_false]
  rintro ⟨k, hk, h9⟩
  have := (leaves_in hd k hk).2
  omega
theorem flat_len1 : ∀ (s : Nat) (c : List (List Int)), (∀ i, i < c.length → (rnth c i).length = 1) → (flatFrom s c).length = c.length
  | _, [], _ => rfl
  | s, z :: c, h => by
    have h1 := flat_len1 (s + 1) c (fun i hi => by
      have := h (i + 1) (by simp; omega)
      simpa [rnth] using this)
    have h2 := h 0 (by simp)
    simp only [rnth, List.getD_cons_zero] at h2
    simp only [flatFrom, List.length_append, List.length_map, List.length_cons]
    omega
theorem plcL_rows {n : Int} {l : List Int} {d : Nat} (hd : depthZ n = (d : Nat)) (hd16 : d ≤ 16) (h0 : 0 < len l) : plcL n l = flatLv (rowsOf (leavesL l (d : Nat)) d) := by
  unfold plcL
  rw [hd, needs_rows hd16 h0]
theorem plc_one {n : Int} {d : Nat} {x : Int} (hd : depthZ n = (d : Nat)) (hd16 : d ≤ 16) : (plcL n [x]).length = d := by
  rw [plcL_rows (l := [x]) hd hd16 (show 0 < len [x] from Nat.zero_lt_one)]
  have h := flat_len1 0 (rowsOf (leavesL [x] (d : Nat)) d) (fun i hi => by
    rw [rows_len] at hi
    rw [rows_get _ _ _ hi]
    exact rowK_single _)
  rw [rows_len] at h
  exact h
theorem dgs_len (els : List ByteArray) (L : List (Int × Int)) : len (dgsL els L) = L.length := by unfold dgsL; rw [len_eq, List.length_map]
end Go.Proofs.Ytmikkhfklmmkaaa
namespace Go.Proofs.Ytmikkhfklmmkaaa
open Go.RowKit
set_option linter.unusedSimpArgs false
set_option linter.unusedVariables false
def zE (n : Nat) : List ByteArray := List.replicate n ⟨#[]⟩
def xE : List ByteArray := [⟨#[120]⟩]
theorem mk_depZ5 : depthZ 5 = ((3 : Nat) : Int) := by decide
theorem mk_depZ8 : depthZ 8 = ((3 : Nat) : Int) := by decide
theorem mk_depZ1 : depthZ 1 = ((0 : Nat) : Int) := by decide
theorem mk_depZ16 : depthZ 65536 = ((16 : Nat) : Int) := by decide
theorem mk_lv1 : leavesL [0] ((0 : Nat) : Int) = [0] := by decide
theorem mk_lv01 : leavesL [0, 1] ((3 : Nat) : Int) = [0, 4] := by decide
theorem mk_lv04 : leavesL [0, 4] ((3 : Nat) : Int) = [0, 1] := by decide
theorem mk_lv8 : leavesL [0, 1, 2, 3, 4, 5, 6, 7] ((3 : Nat) : Int) = [0, 4, 2, 6, 1, 5, 3, 7] := by decide
theorem mk_plc1 : (plcL 1 [0]).length = 0 := by
  rw [plcL_rows (d := 0) mk_depZ1 (by decide) (by decide), mk_lv1]
  rfl
theorem mk_plc0 : (plcL 5 [0]).length = 3 := plc_one (d := 3) mk_depZ5 (by decide)
theorem mk_plc01 : (plcL 5 [0, 1]).length = 4 := by
  rw [plcL_rows (d := 3) mk_depZ5 (by decide) (by decide), mk_lv01]
  have e1 : rowsOf [0, 4] 3 = [rowK (insAll [0, 4]), rowK (insAll [0, 2]), rowK (insAll [0, 1])] := by simp [rowsOf, List.range_succ_eq_map]
  rw [e1, row_litE (l := [1, 5]) (m := [1, 5]) (by decide) (by decide) (fun k => Iff.rfl), row_litE (l := [1, 3]) (m := [1, 3]) (by decide) (by decide) (fun k => Iff.rfl), row_litE (l := []) (m := []) (by decide) (by decide) (fun k => Iff.rfl)]
  rfl
theorem mk_plc04 : (plcL 5 [0, 4]).length = 2 := by
  rw [plcL_rows (d := 3) mk_depZ5 (by decide) (by decide), mk_lv04]
  have e1 : rowsOf [0, 1] 3 = [rowK (insAll [0, 1]), rowK (insAll [0, 0]), rowK (insAll [0, 0])] := by simp [rowsOf, List.range_succ_eq_map]
  rw [e1, row_litE (l := []) (m := []) (by decide) (by decide) (fun k => Iff.rfl), row_litE (l := [1]) (m := [1]) (by decide) (by decide) (fun k => Iff.rfl)]
  rfl
theorem mk_plc8 : (plcL 8 [0, 1, 2, 3, 4, 5, 6, 7]).length = 0 := by
  rw [plcL_rows (d := 3) mk_depZ8 (by decide) (by decide), mk_lv8]
  have e1 : rowsOf [0, 4, 2, 6, 1, 5, 3, 7] 3 = [rowK (insAll [0, 4, 2, 6, 1, 5, 3, 7]), rowK (insAll [0, 2, 1, 3, 0, 2, 1, 3]), rowK (insAll [0, 1, 0, 1, 0, 1, 0, 1])] := by simp [rowsOf, List.range_succ_eq_map]
  rw [e1, row_litE (l := []) (m := []) (by decide) (by decide) (fun k => Iff.rfl), row_litE (l := []) (m := []) (by decide) (by decide) (fun k => Iff.rfl), row_litE (l := []) (m := []) (by decide) (by decide) (fun k => Iff.rfl)]
  rfl
theorem mk_size16 : sizeN 65536 [65535] = 16 ∧ sizeE 65536 [65535] = 0 := by
  have h : SizeOk 65536 [65535] := by decide
  refine ⟨?_, if_pos h⟩
  unfold sizeN
  rw [if_pos h]
  rw [plc_one (d := 16) mk_depZ16 (by decide)]
  rfl
theorem mk_over : sizeN 65537 [1] = 0 ∧ sizeE 65537 [1] = 2 := by
  have h : ¬ SizeOk 65537 [1] := by decide
  exact ⟨if_neg h, if_neg h⟩
theorem mk_zero : sizeN 0 [0] = 0 ∧ sizeE 0 [0] = 2 := by
  have h : ¬ SizeOk 0 [0] := by decide
  exact ⟨if_neg h, if_neg h⟩
end Go.Proofs.Ytmikkhfklmmkaaa
namespace Go.Proofs.Ytmikkhfklmmkaaa
open Go.RowKit
set_option linter.unusedSimpArgs false
set_option linter.unusedVariables false
set_option maxRecDepth 100000 in
set_option maxHeartbeats 4000000 in
theorem tat_any (els : List ByteArray) (b l k : Nat) (w : World) (h : TreeAt els b w) (hn : len els ≤ 65536) (hl : l ≤ depN els) (hk : k < 2 ^ (depN els - l)) :
    Calls Try.prog 25 #[.pointer (some ⟨b, 0, none⟩), .int .i64 (l : Nat), .int .u64 (k : Nat)] w fun e w' => e = .returned (.tuple #[.string (plD els (depN els) l k), .bool true]) ∧ Below w.heap.size w w' := by
  obtain ⟨p0, h1, h2⟩ := h
  have hd16 := depN_le hn
  obtain ⟨d, hd⟩ : ∃ d, depN els = d := ⟨_, rfl⟩
  rw [hd] at h1 h2 hl hk hd16 ⊢
  have c0 : w.cell? ⟨b, 0, none⟩ = some (.pointer (some ⟨p0, 0, none⟩)) := by rw [block_cell h1]; rfl
  have c1 : w.cell? ⟨b, 1, none⟩ = some (.int .i64 (d : Nat)) := by rw [block_cell h1]; rfl
  have HP : Hid (PlaceIs els d (l + (d - l)) (k / 2 ^ (d - l)) p0 w) := Lib.hid (by rw [Nat.div_eq_of_lt hk, show l + (d - l) = d by omega]; exact h2)
  have HK : Hid (k < 65536) := Lib.hid (Nat.lt_of_lt_of_le hk (pow_le16 (by omega)))
  have a2 : ¬ ((d : Nat) : Int) < ((l : Nat) : Int) := by omega
  obtain ⟨e, he⟩ : ∃ e, d - l = e := ⟨_, rfl⟩
  rw [he] at HP hk
  have a3 : IntKind.i64.wrap ((d : Int) - (l : Int)) = ((e : Nat) : Int) := by rw [IntWalk.i64_in _ (by omega)]; omega
  have a5 : ¬ (e : Int) < 0 := by omega
  have a4 : ((k : Nat) : Int) / 2 ^ e = 0 := by
    rw [pow_cast]
    have : k / 2 ^ e = 0 := Nat.div_eq_of_lt hk
    exact_mod_cast this
  have a6 : IntKind.i64.wrap ((e : Int) - 1) = (e : Int) - 1 := IntWalk.i64_in _ (by omega)
  have a1 : ¬ ((l : Nat) : Int) < 0 := by omega
  have a7 : min e 64 = e := by omega
  have HE : Hid (e ≤ 16) := Lib.hid (by omega)
  clear h1 h2 hd hk he hl hd16
  go_enter Try.func25, Try.ntmps25
  go_upto_region 5 with fail
  clear c0 c1 a1 a2 a3 a4 a5 a6 a7
  go_loopg [9, 8] e (fun g i p wr => ∃ (t q : Nat), g = t ∧ i = .int .i64 ((t : Int) - 1) ∧ p = .pointer (some ⟨q, 0, none⟩) ∧ t ≤ 16 ∧ Hid (PlaceIs els d (l + t) (k / 2 ^ t) q wr) ∧ Hid (Below w.heap.size w wr))
  case atStart => exact ⟨e, p0, rfl, rfl, rfl, HE.out, HP, Lib.hid (Below.refl _ _)⟩
  case round =>
    clear HP
    obtain ⟨t, q, hgt, rfl, rfl, ht, HP, HW⟩ := hrel
    have HGT := Lib.hid hgt
    clear hgt
    cases t with
    | zero =>
      have i1 : ¬ (0 : Int) ≤ ((0 : Nat) : Int) - 1 := by decide
      have cq : wr.cell? ⟨q, 0, none⟩ = some (.string (plD els d l k)) := by
        have := HP.out.digest
        rwa [Nat.add_zero, Nat.pow_zero, Nat.div_one] at this
      go_wp2
      go_ret2
      exact ⟨rfl, HW.out⟩
    | succ t =>
      rw [show ((t + 1 : Nat) : Int) - 1 = ((t : Nat) : Int) by omega]
      have i1 : (0 : Int) ≤ ((t : Nat) : Int) := by omega
      obtain ⟨W, hW⟩ : ∃ W, wr = W := ⟨_, rfl⟩
      rw [hW] at HP HW ⊢
      clear hW
      obtain ⟨b0, b1, hn9, h0, h1⟩ := HP.out
      obtain ⟨x, hx⟩ : ∃ x, k / 2 ^ t = x := ⟨_, rfl⟩
      obtain ⟨y, hy⟩ : ∃ y, x % 2 = y := ⟨_, rfl⟩
      have hxx : k / 2 ^ (t + 1) = x / 2 := by rw [← hx, Nat.div_div_eq_div_mul, Nat.pow_succ]
      have hx6 : x < 65536 := by rw [← hx]; exact Nat.lt_of_le_of_lt (Nat.div_le_self _ _) HK.out
      rw [hxx] at h0 h1
      obtain ⟨q2, hq2⟩ : ∃ q2, (if y = 0 then b0 else b1) = q2 := ⟨_, rfl⟩
      have cq : W.cell? ⟨q, 1 + y, none⟩ = some (.pointer (some ⟨q2, 0, none⟩)) := by
        rw [block_cell hn9, ← hq2]
        by_cases hy0 : y = 0
        · rw [if_pos hy0, hy0]; rfl
        · rw [if_neg hy0, show y = 1 by omega]; rfl
      have HP2 : Hid (PlaceIs els d (l + t) (k / 2 ^ t) q2 W) := Lib.hid (by
        rw [hx, ← hq2]
        by_cases hy0 : y = 0
        · rw [if_pos hy0, show x = 2 * (x / 2) by omega]; exact h0
        · rw [if_neg hy0, show x = 2 * (x / 2) + 1 by omega]; exact h1)
      have s1 : min t 64 = t := by omega
      have s2 : ((k : Nat) : Int) / 2 ^ t = ((x : Nat) : Int) := by rw [pow_cast, ← hx]; rfl
      have s3 : bits .and .u64 ((x : Nat) : Int) 1 = ((y : Nat) : Int) := by
        rw [show (1 : Int) = ((1 : Nat) : Int) from rfl, u64_and_nat _ _ (by omega) (by omega), Nat.and_one_is_mod, hy]
      have s4 : ¬ (2 : Int) ≤ ((y : Nat) : Int) := by omega
      have s5 : ¬ ((t : Nat) : Int) < 0 := by omega
      clear hx hy hxx hx6 hn9 h0 h1 hq2
      go_upto_region 7 with fail
      refine wp_region_tail 9 1000 (none) (phis [fun u _ => u = (.pointer (some ⟨q, 0, none⟩)), fun u _ => u = (.int .u64 (k : Nat)), fun u _ => u = (.int .i64 (t : Nat)), fun u _ => u = (.int .u64 (x : Nat)), fun u _ => u = (.int .u64 (y : Nat)), fun u _ => u = (.pointer (some ⟨q, 0, none⟩)), fun u _ => u = (.pointer (some ⟨q, 1, none⟩)), fun u _ => u = (.pointer (some ⟨q, 1 + y, none⟩)), fun u _ => u = (.pointer (some ⟨q2, 0, none⟩))]) rfl (by kernel_rfl) (by kernel_rfl) (mono_of ⟨mono_eq, mono_eq, mono_eq, mono_eq, mono_eq, mono_eq, mono_eq, mono_eq, mono_eq, trivial⟩) (steps_of 9 ⟨?s0, ?s1, ?s2, ?s3, ?s4, ?s5, ?s6, ?s7, ?s8, trivial⟩) ?_
      case s0 =>
        refine step_val (v := (.pointer (some ⟨q, 0, none⟩))) (fun av wv hE hS hO hD => ?_) (fun _ => rfl)
        have h8 : av.eval (.tmp 8) = (.pointer (some ⟨q, 0, none⟩)) := hO.2.2 8 rfl
        have f8 := (ev_form av 8).symm.trans h8
        refine ⟨rfl, ?_⟩
        simp [go_sem, f8, s1, s2, s3, s4, s5]
      case s1 =>
        refine step_val (v := (.int .u64 (k : Nat))) (fun av wv hE hS hO hD => ?_) (fun _ => rfl)
        have h2 : av.eval (.tmp 2) = (.int .u64 (k : Nat)) := hO.2.2 2 rfl
        have f2 := (ev_form av 2).symm.trans h2
        refine ⟨rfl, ?_⟩
        simp [go_sem, f2, s1, s2, s3, s4, s5]
      case s2 =>
        refine step_val (v := (.int .i64 (t : Nat))) (fun av wv hE hS hO hD => ?_) (fun _ => rfl)
        have h9 : av.eval (.tmp 9) = (.int .i64 (t : Nat)) := hO.2.2 9 rfl
        have f9 := (ev_form av 9).symm.trans h9
        refine ⟨rfl, ?_⟩
        simp [go_sem, f9, s1, s2, s3, s4, s5]
      case s3 =>
        refine step_val (v := (.int .u64 (x : Nat))) (fun av wv hE hS hO hD => ?_) (fun _ => rfl)
        have d51 : av.eval (.tmp 51) = (.int .u64 (k : Nat)) := hD.1 rfl _ rfl
        have f51 := (ev_form av 51).symm.trans d51
        have d52 : av.eval (.tmp 52) = (.int .i64 (t : Nat)) := hD.2.1 rfl _ rfl
        have f52 := (ev_form av 52).symm.trans d52
        refine ⟨rfl, ?_⟩
        simp [go_sem, f51, f52, s1, s2, s3, s4, s5]
      case s4 =>
        refine step_val (v := (.int .u64 (y : Nat))) (fun av wv hE hS hO hD => ?_) (fun _ => rfl)
        have d53 : av.eval (.tmp 53) = (.int .u64 (x : Nat)) := hD.1 rfl _ rfl
        have f53 := (ev_form av 53).symm.trans d53
        refine ⟨rfl, ?_⟩
        simp [go_sem, f53, s1, s2, s3, s4, s5]
      case s5 =>
        refine step_val (v := (.pointer (some ⟨q, 0, none⟩))) (fun av wv hE hS hO hD => ?_) (fun _ => rfl)
        have d50 : av.eval (.tmp 50) = (.pointer (some ⟨q, 0, none⟩)) := hD.1 rfl _ rfl
        have f50 := (ev_form av 50).symm.trans d50
        refine ⟨rfl, ?_⟩
        simp [go_sem, f50, s1, s2, s3, s4, s5]
      case s6 =>
        refine step_val (v := (.pointer (some ⟨q, 1, none⟩))) (fun av wv hE hS hO hD => ?_) (fun _ => rfl)
        have d55 : av.eval (.tmp 55) = (.pointer (some ⟨q, 0, none⟩)) := hD.1 rfl _ rfl
        have f55 := (ev_form av 55).symm.trans d55
        refine ⟨rfl, ?_⟩
        simp [go_sem, f55, s1, s2, s3, s4, s5]
      case s7 =>
        refine step_val (v := (.pointer (some ⟨q, 1 + y, none⟩))) (fun av wv hE hS hO hD => ?_) (fun _ => rfl)
        have d56 : av.eval (.tmp 56) = (.pointer (some ⟨q, 1, none⟩)) := hD.1 rfl _ rfl
        have f56 := (ev_form av 56).symm.trans d56
        have d54 : av.eval (.tmp 54) = (.int .u64 (y : Nat)) := hD.2.1 rfl _ rfl
        have f54 := (ev_form av 54).symm.trans d54
        refine ⟨rfl, ?_⟩
        simp [go_sem, f56, f54, s1, s2, s3, s4, s5]
      case s8 =>
        refine step_val (v := (.pointer (some ⟨q2, 0, none⟩))) (fun av wv hE hS hO hD => ?_) (fun _ => rfl)
        have d57 : av.eval (.tmp 57) = (.pointer (some ⟨q, 1 + y, none⟩)) := hD.1 rfl _ rfl
        have f57 := (ev_form av 57).symm.trans d57
        have cq := extB_cell hE (by simp) cq
        refine ⟨rfl, ?_⟩
        simp [go_sem, f57, cq, s1, s2, s3, s4, s5]
      intro a' w' hE hO hall
      have hA := act_of_outer (ds := [50, 51, 52, 53, 54, 55, 56, 57, 58]) rfl hO (by kernel_rfl)
      have e50 : (fun u _ => u = (.pointer (some ⟨q, 0, none⟩))) (a'.eval (.tmp 50)) w' := hall.1 _ rfl
      have e51 : (fun u _ => u = (.int .u64 (k : Nat))) (a'.eval (.tmp 51)) w' := hall.2.1 _ rfl
      have e52 : (fun u _ => u = (.int .i64 (t : Nat))) (a'.eval (.tmp 52)) w' := hall.2.2.1 _ rfl
      have e53 : (fun u _ => u = (.int .u64 (x : Nat))) (a'.eval (.tmp 53)) w' := hall.2.2.2.1 _ rfl
      have e54 : (fun u _ => u = (.int .u64 (y : Nat))) (a'.eval (.tmp 54)) w' := hall.2.2.2.2.1 _ rfl
      have e55 : (fun u _ => u = (.pointer (some ⟨q, 0, none⟩))) (a'.eval (.tmp 55)) w' := hall.2.2.2.2.2.1 _ rfl
      have e56 : (fun u _ => u = (.pointer (some ⟨q, 1, none⟩))) (a'.eval (.tmp 56)) w' := hall.2.2.2.2.2.2.1 _ rfl
      have e57 : (fun u _ => u = (.pointer (some ⟨q, 1 + y, none⟩))) (a'.eval (.tmp 57)) w' := hall.2.2.2.2.2.2.2.1 _ rfl
      have e58 : (fun u _ => u = (.pointer (some ⟨q2, 0, none⟩))) (a'.eval (.tmp 58)) w' := hall.2.2.2.2.2.2.2.2.1 _ rfl
      simp only [List.foldl_cons, List.foldl_nil, Act.put, List.setIfInBounds_toArray, List.set_cons_succ, List.set_cons_zero, e50, e51, e52, e53, e54, e55, e56, e57, e58] at hA
      clear hO hall e50 e51 e52 e53 e54 e55 e56 e57 e58
      subst hA
      have HW2 : Hid (Below w.heap.size w w') := Lib.hid (bnext HW.out (of_drew hE))
      have HP3 : Hid (PlaceIs els d (l + t) (k / 2 ^ t) q2 w') := Lib.hid (HP2.out.below (of_drew hE))
      have a6 : IntKind.i64.wrap (((t : Nat) : Int) - 1) = ((t : Nat) : Int) - 1 := IntWalk.i64_in _ (by omega)
      clear hE cq s1 s2 s3 s4 s5
      go_wp2
      go_roundg t
      case rel => exact ⟨t, q2, rfl, rfl, rfl, by omega, HP3, HW2⟩
      case measure => have := HGT.out; omega
end Go.Proofs.Ytmikkhfklmmkaaa
namespace Go.Proofs.Ytmikkhfklmmkaaa
open Go.RowKit Go.ChangeMaps
set_option linter.unusedSimpArgs false
set_option linter.unusedVariables false
attribute [local go_sem] Oper.semAt_some
theorem info_str : (Try.prog.info? 9).map (fun i => (i.zero, i.size, i.bytes)) = some (some (.string ⟨#[]⟩), 1, 16) := by kernel_rfl
def ProofIs (l : List ByteArray) (er : Int) (w : World) (e : Ending) (w' : World) : Prop := ∃ v, e = .returned (.tuple #[v, .int .i64 er]) ∧ w'.ownsRow w.heap.size 9 1 v (len l) (l.map Value.string) ∧ Below w.heap.size w w'
set_option maxRecDepth 100000 in
set_option maxHeartbeats 4000000 in
theorem prove_bad (els : List ByteArray) (b : Nat) (l : List Int) (a : Option Addr) (cap : Nat) (w : World) (ht : TreeAt els b w) (hn : len els ≤ 65536) (h : U64s w a l) (hl : len l ≤ 1000000000) (hb : ¬ MayOk (len els : Nat) l) :
    Calls Try.prog 7 #[.pointer (some ⟨b, 0, none⟩), .slice a (len l) cap] w (ProofIs [] 2 w) := by
  have HL := Lib.hid (tlen_any els b w ht)
  have HM := Lib.hid (mmay_any (len els : Nat) l a cap w h hl (by omega) (by omega))
  rw [decide_eq_false hb] at HM
  clear ht h hb
  go_enter Try.func7, Try.ntmps7
  go_wp2_with fail
  refine HL.out.mono ?_
  rintro e w1 ⟨rfl, rfl⟩
  go_wp2_with fail
  refine HM.out.mono ?_
  rintro e w1 ⟨rfl, hb1⟩
  have HB1 := Lib.hid hb1
  clear hb1
  go_wp2
  go_ret2
  exact ⟨_, rfl, World.ownsRow_nil _ _ _ _, HB1.out⟩
theorem exists_sub {α : Type} (P : α → Prop) : ∀ (l : List α), (∀ x ∈ l, P x) → ∃ L : List { x // P x }, L.map Subtype.val = l
  | [], _ => ⟨[], rfl⟩
  | x :: l, h => by
    obtain ⟨L, hL⟩ := exists_sub P l (fun y hy => h y (List.mem_cons_of_mem _ hy))
    exact ⟨⟨x, h x List.mem_cons_self⟩ :: L, by rw [List.map_cons, hL]⟩
abbrev PlX (d : Nat) := { x : Int × Int // ∃ i k : Nat, x = ((i : Int), (k : Int)) ∧ i < d ∧ k < 2 ^ (d - i) }
theorem kpo_append {o base k : Nat} {W w4 : World} {tmp : Obj} {v v' : Value} {xs : List Value} (hrow : W.ownsRow base 9 1 v k xs) (hg : (W.alloc tmp).grownBy w4 v.ownBlock) : KpO o W (w4.setCell ⟨o, 0, none⟩ v') := by
  have hs := hg.size
  refine ⟨by simp at hs; simp [World.setCell]; omega, fun b cs t fr hb ht hc => ?_⟩
  have hlt := lt_of_block hc
  refine (Below.heap_setCell _ _ _ _ (fun e => hb e)).trans ?_
  refine (hg.block b (by simp; omega) (fun e => ?_)).trans (block_alloc hc _)
  rcases hrow.2 with ⟨rfl, _⟩ | ⟨g, cap, cur, rfl, _, hgb, _⟩
  · simp [Value.ownBlock] at e
  · simp [Value.ownBlock] at e
    subst e
    rw [hgb] at hc
    cases hc
    exact ht rfl
set_option maxRecDepth 100000 in
set_option maxHeartbeats 4000000 in
theorem prove_ok (els : List ByteArray) (b : Nat) (l : List Int) (a : Option Addr) (cap : Nat) (w : World) (ht : TreeAt els b w) (hn : len els ≤ 65536) (h : U64s w a l) (hl : len l ≤ 100) (hu : ∀ k ∈ l, U64 k) (hb : MayOk (len els : Nat) l) :
    Calls Try.prog 7 #[.pointer (some ⟨b, 0, none⟩), .slice a (len l) cap] w (ProofIs (dgsL els (plcL (len els : Nat) l)) 0 w) := by
  have HT := Lib.hid ht
  have HN := Lib.hid hn
  have HM := Lib.hid (mmay_any (len els : Nat) l a cap w h (by omega) (by omega) (by omega))
  rw [decide_eq_true hb] at HM
  have HLN := Lib.hid (tlen_any els b w ht)
  have H := Lib.hid h
  have HU := Lib.hid hu
  obtain ⟨d, hd⟩ : ∃ d, depN els = d := ⟨_, rfl⟩
  have HDD := Lib.hid hd
  have HD16 : Hid (d ≤ 16) := Lib.hid (by rw [← hd]; exact depN_le hn)
  have HPL : Hid (plcL (len els : Nat) l = flatLv (needsL (leavesL l d) d)) := Lib.hid (by unfold plcL; rw [depthZ_len hn, hd])
  clear ht hn h hu hb hd
  obtain ⟨i0, hi, hz0, hz1, hz2⟩ := info_parts info_str
  have HZ := Lib.hid hz0
  clear hz0
  refine (callsIn_wide (n := 9)).1 ?_
  refine callsIn_of_wp_marks Try.func7 rfl trivial ?_ rfl
  simp only [Try.ntmps7, List.size_toArray, List.length_cons, List.length_nil, Nat.reduceAdd, Nat.reduceSub, Array.replicate_succ, Array.replicate_zero, List.push_toArray, List.append_toArray, List.nil_append, List.cons_append]
  gi_wp2_with fail
  refine ⟨trivial, (callsIn_wide.2 HLN.out).mono ?_⟩
  rintro e w1 ⟨rfl, rfl⟩
  gi_wp2_with fail
  refine ⟨trivial, (callsIn_wide.2 HM.out).mono ?_⟩
  rintro e w1 ⟨rfl, hb1⟩
  have HB1 := Lib.hid hb1
  have HT1 := Lib.hid (HT.out.below hb1)
  clear hb1 HM HLN
  obtain ⟨ab, hab⟩ : ∃ ab, w1.heap.size = ab := ⟨_, rfl⟩
  gi_wp2_with fail
  obtain ⟨o, ho⟩ : ∃ o, ab + 1 = o := ⟨_, rfl⟩
  rw [ho]
  obtain ⟨V, hV⟩ : ∃ V, ((w1.alloc (.cells #[.func (.func 25) #[.pointer (some ⟨b, 0, none⟩)] #[]] 58)).alloc (.cells #[.slice none 0 0] 26)) = V := ⟨_, rfl⟩
  rw [hV]
  have V1 : Hid (V.heap[ab]? = some (.cells #[.func (.func 25) #[.pointer (some ⟨b, 0, none⟩)] #[]] 58 (0, 0))) := Lib.hid (by rw [← hV]; exact block_alloc (alloc_new_at _ hab) _)
  have V2 : Hid (Boxed V o 26 (.slice none 0 0)) := Lib.hid (by rw [← hV]; exact alloc_new_at _ (by rw [alloc_size _ rfl]; omega))
  have VB : Hid (Below w.heap.size w V) := Lib.hid (by rw [← hV]; exact balloc (balloc HB1.out _) _)
  have VS : Hid (w.heap.size ≤ ab ∧ ab < o) := Lib.hid ⟨by rw [← hab]; exact HB1.out.size, by omega⟩
  have HDP := Lib.hid (tdepth_any els b V (HT.out.below VB.out))
  rw [HDD.out] at HDP
  clear hV hab ho HT1
  refine ⟨trivial, (callsIn_wide.2 HDP.out).mono ?_⟩
  rintro e w2 ⟨rfl, rfl⟩
  gi_wp2_with fail
  refine ⟨trivial, (callsIn_wide.2 (places_any a cap (len l) (d : Nat) _)).mono ?_⟩
  rintro e w3 ⟨rfl, hw3⟩
  obtain ⟨s1, hs1⟩ : ∃ s1, V.heap.size = s1 := ⟨_, rfl⟩
  rw [hs1]
  have Z1 : Hid (w3.heap[ab]? = some (.cells #[.func (.func 25) #[.pointer (some ⟨b, 0, none⟩)] #[]] 58 (0, 0))) := Lib.hid (by rw [hw3]; exact block_alloc (block_alloc V1.out _) _)
  have Z0 : Hid (Boxed w3 o 26 (.slice none 0 0)) := Lib.hid (by rw [hw3]; exact block_alloc (block_alloc V2.out _) _)
  have Z2 : Hid (w3.heap[s1]? = some (.cells #[.int .i64 (d : Nat)] 3 (0, 0))) := Lib.hid (by rw [hw3]; exact block_alloc (alloc_new_at _ hs1) _)
  have Z3 : Hid (w3.heap[s1 + 1]? = some (.cells #[.slice a (len l) cap] 28 (0, 0))) := Lib.hid (by rw [hw3]; exact alloc_new_at _ (by rw [alloc_size _ rfl, hs1]))
  have ZB : Hid (Below w.heap.size w w3) := Lib.hid (by rw [hw3]; exact balloc (balloc VB.out _) _)
  have ZS : Hid (o < w3.heap.size) := Lib.hid (Z0.out.lt)
  clear hw3 hs1 V1 V2 HDP
  obtain ⟨L, hL⟩ : ∃ L : List (PlX d), L.map Subtype.val = flatLv (needsL (leavesL l d) d) := exists_sub _ _ (plc_bd HD16.out (leaves_in HD16.out))
  have HLL := Lib.hid hL
  have HLB : Hid (L.length ≤ 1600) := Lib.hid (by
    have h1 := flat_bd (leavesL l d) d (by rw [leavesL_len]; exact hl)
    rw [← hL, List.length_map] at h1
    exact h1)
  gi_wp2_with fail
  refine wpIn_rangeFunc_ownF rfl (by omega) (gf := 37) (lb := #[.pointer (some ⟨s1 + 1, 0, none⟩), .pointer (some ⟨s1, 0, none⟩)]) rfl trivial (enters_of Try.func37 (by kernel_rfl) rfl)
    (places_seq (Subtype.val : PlX d → Int × Int) L 8 (by omega) o (s1 + 1) s1 a cap l d w3 (by rw [block_cell Z3.out]; rfl) (by rw [block_cell Z2.out]; rfl) (H.out.below ZB.out) hl HD16.out HU.out ZS.out hL)
    KpO.trans (fun W l9 x x' _ hl hx _ => KpO.putObj o W l9 x x' hl hx) (Below.refl _ _) (fun _ => rfl)
    (fun pre W => (∃ v, Boxed W o 26 v ∧ W.ownsRow w.heap.size 9 1 v (len (dgsL els (pre.map Subtype.val))) ((dgsL els (pre.map Subtype.val)).map Value.string) ∧ True) ∧ W.heap[ab]? = some (.cells #[.func (.func 25) #[.pointer (some ⟨b, 0, none⟩)] #[]] 58 (0, 0)) ∧ Below w.heap.size w W) (fun _ _ _ => False)
    (OwnFrom.and (Own.from (holdsRow_own w.heap.size o 26 9 1 (fun pre : List (PlX d) => len (dgsL els (pre.map Subtype.val))) (fun pre => (dgsL els (pre.map Subtype.val)).map Value.string) (fun _ _ => True)) _) (OwnFrom.and (own_one _ ab 58 (fun _ : List (PlX d) => .func (.func 25) #[.pointer (some ⟨b, 0, none⟩)] #[])) (ownFrom_below (Nat.le_refl _) ZB.out.size))) (fun _ _ _ _ _ h _ _ => h)
    ⟨⟨_, Z0.out, World.ownsRow_nil _ _ _ _, trivial⟩, Z1.out, ZB.out⟩ ?a1 ?assign ?body ?done ?stop
  case assign =>
    intro l9 x W K hK
    gi_wp2
    exact hK
  case body =>
    rintro l9 pre ⟨x, i, k, rfl, hi9, hk9⟩ W ⟨⟨v, hv, hrow, -⟩, hO, hB⟩ hlt
    have ca : W.cell? ⟨ab, 0, none⟩ = some (.func (.func 25) #[.pointer (some ⟨b, 0, none⟩)] #[]) := by rw [block_cell hO]; rfl
    have HV := Lib.hid hv
    have HRW := Lib.hid hrow
    have HO := Lib.hid hO
    have HB := Lib.hid hB
    have HAT := Lib.hid (tat_any els b i k W (HT.out.below hB) HN.out (by rw [HDD.out]; omega) (by rw [HDD.out]; exact hk9))
    rw [HDD.out] at HAT
    have HPB : Hid (len (dgsL els (pre.map Subtype.val)) ≤ 1600) := Lib.hid (by unfold dgsL; rw [len_eq, List.length_map, List.length_map]; have := HLB.out; omega)
    have HSN : Hid (dgsL els ((pre ++ [(⟨((i : Int), (k : Int)), i, k, rfl, hi9, hk9⟩ : PlX d)]).map Subtype.val) = dgsL els (pre.map Subtype.val) ++ [plD els d i k]) := Lib.hid (by
      rw [List.map_append]
      show dgsL els (pre.map Subtype.val ++ [((i : Int), (k : Int))]) = _
      rw [dgsL_snoc, HDD.out]
      simp)
    obtain ⟨P9, hP9⟩ : ∃ P9, dgsL els (pre.map Subtype.val) = P9 := ⟨_, rfl⟩
    rw [hP9] at HRW HPB HSN
    obtain ⟨X9, hX9⟩ : ∃ X9, plD els d i k = X9 := ⟨_, rfl⟩
    rw [hX9] at HAT HSN
    clear hv hrow hO hB hlt hP9 hX9
    dsimp only
    gi_wp2_with fail
    refine ⟨trivial, (CallsIn.inRound l9 (callsIn_wide.2 HAT.out)).mono ?_⟩
    rintro e W2 ⟨rfl, hb2⟩
    have HV2 : Hid (Boxed W2 o 26 v) := Lib.hid ((hb2.block _ HV.out.lt).trans HV.out)
    have HR2 : Hid (W2.ownsRow w.heap.size 9 1 v (len P9) (P9.map Value.string)) := Lib.hid (own_below HRW.out hb2)
    have HO2 : Hid (W2.heap[ab]? = some (.cells #[.func (.func 25) #[.pointer (some ⟨b, 0, none⟩)] #[]] 58 (0, 0))) := Lib.hid ((hb2.block _ (lt_of_block HO.out)).trans HO.out)
    have HB2 : Hid (Below w.heap.size w W2) := Lib.hid (bnext HB.out hb2)
    have HWW := Lib.hid hb2
    have hc := HV2.out.cell
    have hpb := HPB.out
    clear hb2 ca HAT
    gi_wp2_with (gi_at_builtin; refine wpListIn_append_own _ rfl _ _ 26 rfl w.heap.size 9 i0 (.string ⟨#[]⟩) 1 16 Try.underlying26 hi HZ.out hz1 hz2 rfl (by decide) _ _ _ rfl (HR2.out.alloc _) ⟨W2.heap.size, 0, none⟩ 1 1 [.string X9] rfl rfl (World.news_of_block (heap_alloc_new _ _)) (by intro u hu9; simp at hu9; subst hu9; rfl) (by unfold maxLen; omega) (by omega) (by have := HB2.out.size; simp; omega) ?_; intro v' w4 hown' hgrow _; obtain ⟨g', cap', rfl⟩ := ownsRow_succ hown'; obtain ⟨hv1, hv2, hr2, hk2, hb3⟩ := HV2.out.appended (by decide) HR2.out HB2.out.size (by have := VS.out; omega) hown' hgrow; have hc1 := hv1.cell; have hf1 := hv1.frozen; have HQ1 := Lib.hid hv2; have HQ2 := Lib.hid hr2; have HQ3 := Lib.hid hk2; have HQ4 := Lib.hid hb3; have HQ5 := Lib.hid (kpo_append (o := o) (v' := .slice (some ⟨g', 0, none⟩) (len P9 + 1) cap') HR2.out hgrow); clear hv2 hr2 hk2 hb3 hown' hgrow)
    have HKO : Hid (KeepsOthers W W2) := Lib.hid (KeepsOthers.of_grownBy (below_grown HWW.out) (fun j o h => by cases h))
    have HKP : Hid (KpO o W W2) := Lib.hid ⟨HWW.out.size, fun b9 cs t fr _ _ hc9 => (HWW.out.block _ (lt_of_block hc9)).trans hc9⟩
    refine ⟨HKO.out.trans HQ3.out, HKP.out.trans HQ5.out, ⟨_, HQ1.out, ?_, trivial⟩, ?_, HB2.out.trans HQ4.out⟩
    · have e9 : len (P9 ++ [X9]) = len P9 + 1 := by rw [len_eq, List.length_append]; rfl
      rw [HSN.out, List.map_append, e9]
      exact HQ2.out
    · exact HQ5.out.same _ _ _ _ (by have := VS.out; omega) (by decide) HO2.out
  case done =>
    rintro D ys W hD rfl ⟨⟨v, hv, hrow, -⟩, hO, hB⟩ hK
    have hc := hv.cell
    rw [HLL.out] at hrow
    have HR := Lib.hid (ownsRow_putObj hrow (.deferred none) hK rfl)
    have HB : Hid (Below w.heap.size w (W.putObj D (.deferred none))) := Lib.hid (hB.trans (belowK_b (w := w) (Nat.le_refl _) W D _ _ (Nat.le_trans ZB.out.size hD) hK rfl rfl))
    have HK := Lib.hid hK
    clear hO hB hrow
    gi_wp2
    refine ⟨by simp, .inl ⟨_, _, rfl, run_takeDeferred HK.out, ?_⟩⟩
    refine ⟨_, results_tmp2 rfl _ _ _, v, rfl, ?_, HB.out⟩
    rw [HPL.out]
    exact HR.out
  case stop =>
    intro D c pre W _ _ h _
    exact h.elim
end Go.Proofs.Ytmikkhfklmmkaaa
namespace Go.Proofs.Ytmikkhfklmmkaaa
open Go.RowKit
set_option linter.unusedSimpArgs false
set_option linter.unusedVariables false
theorem own_txts {w : World} {base n : Nat} {v : Value} {l : List ByteArray} (h : w.ownsRow base 9 1 v n (l.map Value.string)) : ∃ a cap, v = .slice a (len l) cap ∧ Txts w a l := by
  have hn : len l = n := by have := h.1; rw [len_eq]; simpa using this
  rcases h.2 with ⟨rfl, h2⟩ | ⟨g, cap, cur, rfl, hg, hh, hc1, hc2, hc3, hc4⟩
  · obtain rfl : l = [] := List.eq_nil_of_length_eq_zero (by rw [← len_eq]; omega)
    exact ⟨none, 0, rfl, Txts.nil _ _⟩
  · refine ⟨some ⟨g, 0, none⟩, cap, by rw [hn], fun i hi => ⟨g, 0, rfl, ?_⟩⟩
    have := h.cellAt i (by omega)
    have hi2 : i < l.length := hi
    rw [Nat.zero_add, this, List.getElem?_map, List.getElem?_eq_getElem hi2, tth_eq l i hi]; rfl
theorem str_beq (a b : ByteArray) : (a.toList == b.toList) = decide (a = b) := by
  rw [ByteArray.toList_eq, ByteArray.toList_eq]
  by_cases h : a = b
  · subst h; simp
  · rw [decide_eq_false h]
    rw [beq_eq_false_iff_ne]
    intro h2
    exact h (ByteArray.ext (Array.ext' h2))
theorem hash0_any (tag : ByteArray) (w : World) (h1 : 1 ≤ tag.size) (h2 : tag.size ≤ 16) : Calls Try.prog 13 #[.string tag, .slice none 0 0] w fun e w' => e = .returned (.string (hashP tag [])) ∧ Below w.heap.size w w' :=
  hash_any tag [] none 0 w h1 h2 (Txts.nil _ _) (by decide)
theorem hash1_any (tag s : ByteArray) (w : World) (h1 : 1 ≤ tag.size) (h2 : tag.size ≤ 16) (hs : s.size ≤ 1000000) : Calls Try.prog 13 #[.string tag, .slice (some ⟨w.heap.size, 0, none⟩) 1 1] (w.alloc (.cells #[.string s] 9)) fun e w' => e = .returned (.string (hashP tag [s])) ∧ Below w.heap.size w w' := by
  have hw1 : Txts (w.alloc (.cells #[.string s] 9)) (some ⟨w.heap.size, 0, none⟩) [s] := txts_cells (heap_alloc_new _ _) [s] (fun i hi => by
    have : i = 0 := by have : i < 1 := hi; omega
    subst this; rfl)
  refine (hash_any tag [s] (some ⟨w.heap.size, 0, none⟩) 1 _ h1 h2 hw1 (by show ((partL s) ++ []).length ≤ _; rw [List.append_nil, partL_len]; omega)).mono ?_
  rintro e w2 ⟨rfl, hb2⟩
  exact ⟨rfl, bnext (balloc (Below.refl _ _) _) hb2⟩
theorem hash2_any (tag s t : ByteArray) (w : World) (h1 : 1 ≤ tag.size) (h2 : tag.size ≤ 16) (hs : s.size ≤ 1000000) (ht : t.size ≤ 1000000) : Calls Try.prog 13 #[.string tag, .slice (some ⟨w.heap.size, 0, none⟩) 2 2] (w.alloc (.cells #[.string s, .string t] 9)) fun e w' => e = .returned (.string (hashP tag [s, t])) ∧ Below w.heap.size w w' := by
  have hw1 : Txts (w.alloc (.cells #[.string s, .string t] 9)) (some ⟨w.heap.size, 0, none⟩) [s, t] := txts_cells (heap_alloc_new _ _) [s, t] (fun i hi => by
    have : i = 0 ∨ i = 1 := by have : i < 2 := hi; omega
    rcases this with rfl | rfl <;> rfl)
  refine (hash_any tag [s, t] (some ⟨w.heap.size, 0, none⟩) 2 _ h1 h2 hw1 (by show ((partL s) ++ ((partL t) ++ [])).length ≤ _; rw [List.append_nil, List.length_append, partL_len, partL_len]; omega)).mono ?_
  rintro e w2 ⟨rfl, hb2⟩
  exact ⟨rfl, bnext (balloc (Below.refl _ _) _) hb2⟩
theorem errno_any (a b : Int) (w : World) : Calls Try.prog 28 #[.int .i64 a, .int .i64 b] w fun e w' => e = .returned (.bool (a == b)) ∧ w = w' := by
  go_enter Try.func28, Try.ntmps28
  go_wp2
  go_ret
  exact ⟨rfl, rfl⟩
theorem tth_ext {la lb : List ByteArray} (hl : len la = len lb) (h : ∀ i, i < len la → tth la i = tth lb i) : la = lb := by
  apply List.ext_getElem hl
  intro i h1 h2
  have := h i h1
  rwa [tth_eq la i h1, tth_eq lb i h2] at this
set_option maxRecDepth 100000 in
set_option maxHeartbeats 4000000 in
theorem alike_any (la lb : List ByteArray) (a b : Option Addr) (ca cb : Nat) (w : World) (ha : Txts w a la) (hb : Txts w b lb) (hn : len la ≤ 1000000) (hn2 : len lb ≤ 1000000) : Calls Try.prog 29 #[.slice a (len la) ca, .slice b (len lb) cb] w fun e w' => e = .returned (.bool (decide (la = lb))) ∧ Below w.heap.size w w' := by
  have HA := Lib.hid ha
  have HB := Lib.hid hb
  have HN := Lib.hid hn
  have HN2 := Lib.hid hn2
  clear ha hb
  by_cases hl : len la = len lb
  · have l1 : ((len la : Nat) : Int) = (len lb : Nat) := by omega
    have HL := Lib.hid hl
    clear hn hn2 hl
    go_enter Try.func29, Try.ntmps29
    go_wp2
    go_loopg [5] (len la) (fun g i wr => ∃ m : Nat, g + m = len la ∧ i = .int .i64 m ∧ Hid (∀ j, j < m → tth la j = tth lb j) ∧ Hid (Below w.heap.size w wr))
    case atStart => exact ⟨0, rfl, rfl, Lib.hid (fun j hj => by omega), Lib.hid (Below.refl _ _)⟩
    case round =>
      obtain ⟨m, hm, rfl, HE, HW⟩ := hrel
      have HNN := HN.out
      by_cases hlt : m < len la
      · have b0 : (m : Int) < len la := by omega
        have b1 : (m : Int) < len lb := by have := HL.out; omega
        obtain ⟨ba, oa, rfl, e1⟩ := (HA.out.below HW.out) m hlt
        obtain ⟨bb, ob, rfl, e2⟩ := (HB.out.below HW.out) m (by have := HL.out; omega)
        obtain ⟨x, hx⟩ : ∃ x, tth la m = x := ⟨_, rfl⟩
        obtain ⟨y, hy⟩ : ∃ y, tth lb m = y := ⟨_, rfl⟩
        rw [hx] at e1
        rw [hy] at e2
        have HX := Lib.hid hx
        have HY := Lib.hid hy
        have l3 := lt_of_cell e1
        have l4 := lt_of_cell e2
        clear hx hy
        cases hq : (x.toList == y.toList) with
        | true =>
          have HQ := Lib.hid hq
          go_wp2
          go_quiet (fail)
          go_wp2
          go_roundg (len la - (m + 1))
          case rel => exact ⟨m + 1, by omega, by go_num, Lib.hid (fun j hj => by
            by_cases e : j = m
            · subst e
              rw [HX.out, HY.out]
              have := HQ.out
              rw [str_beq] at this
              exact of_decide_eq_true this
            · exact HE.out j (by omega)), by (repeat (first | exact Below.refl _ _ | assumption | (refine bdrew ?_) | (refine bdrewN ?_ _) | (refine balloc ?_ _) | (refine bset ?_ (by first | omega | (simp; done) | (simp; omega)) _) | (refine bnext ?_ (by assumption))))⟩
          case measure => omega
        | false =>
          have HQ := Lib.hid hq
          go_wp2
          go_quiet (fail)
          go_wp2
          go_ret
          refine ⟨?_, bnext HW.out (by (repeat (first | exact Below.refl _ _ | assumption | (refine bdrew ?_) | (refine bdrewN ?_ _) | (refine balloc ?_ _) | (refine bset ?_ (by first | omega | (simp; done) | (simp; omega)) _) | (refine bnext ?_ (by assumption)))))⟩
          have : ¬ la = lb := fun h9 => by
            have := HQ.out
            rw [str_beq, ← HX.out, ← HY.out, h9] at this
            simp at this
          rw [decide_eq_false this]; rfl
      · obtain rfl : m = len la := by omega
        have b0 : ¬ ((len la : Nat) : Int) < len la := by omega
        go_wp2
        go_ret
        exact ⟨by rw [decide_eq_true (tth_ext HL.out HE.out)]; rfl, HW.out⟩
  · have l1 : ¬ ((len la : Nat) : Int) = (len lb : Nat) := by omega
    have HL : Hid (decide (la = lb) = false) := Lib.hid (decide_eq_false (fun h9 => hl (by rw [h9])))
    clear hn hn2 hl
    go_enter Try.func29, Try.ntmps29
    go_wp2
    go_ret
    exact ⟨by rw [HL.out]; rfl, Below.refl _ _⟩
end Go.Proofs.Ytmikkhfklmmkaaa
namespace Go.Proofs.Ytmikkhfklmmkaaa
open Go.RowKit
set_option linter.unusedSimpArgs false
set_option linter.unusedVariables false
theorem hashP_small (t : ByteArray) (l : List ByteArray) : (hashP t l).size ≤ 1000000 := by rw [hashP_size]; decide
set_option maxRecDepth 100000 in
set_option maxHeartbeats 4000000 in
theorem works10_any (w : World) : Calls Try.prog 9 #[] w fun e w' => e = .returned (.bool true) ∧ Below w.heap.size w w' := by
  go_enter Try.func9, Try.ntmps9
  go_wp2_with fail
  have ht0 : Txts (w.alloc (.cells #[.string ⟨#[97]⟩, .string ⟨#[98]⟩, .string ⟨#[99]⟩] 9)) (some ⟨w.heap.size, 0, none⟩) abcE := txts_cells (heap_alloc_new _ _) abcE (fun i hi => by
    have : i = 0 ∨ i = 1 ∨ i = 2 := by have : i < 3 := hi; omega
    rcases this with rfl | rfl | rfl <;> rfl)
  refine (build_any abcE (some ⟨w.heap.size, 0, none⟩) 3 _ ht0 (by decide) (fun i hi => by
    have : i = 0 ∨ i = 1 ∨ i = 2 := by have : i < 3 := hi; omega
    rcases this with rfl | rfl | rfl <;> decide)).mono ?_
  rintro e w1 ⟨b, rfl, hbs, htr, hb1⟩
  have HT1 := Lib.hid htr
  have HB1 : Hid (Below w.heap.size w w1) := Lib.hid (bnext (balloc (Below.refl _ _) _) hb1)
  clear ht0 htr hb1 hbs
  go_wp2_with fail
  refine (prove_ok abcE b [0] (some ⟨w1.heap.size, 0, none⟩) 1 _ (HT1.out.below (balloc (Below.refl _ _) _)) (by decide) (fun i hi => ⟨w1.heap.size, 0, rfl, by
    have : i = 0 := by have : i < 1 := hi; omega
    subst this
    rw [block_cell (heap_alloc_new _ _)]; rfl⟩) (by decide) (fun k hk => by simp at hk; subst hk; unfold U64; omega) (by decide)).mono ?_
  rintro e w2 ⟨v, rfl, hown, hb2⟩
  rw [dgsE] at hown
  obtain ⟨pa, pc, rfl, hpt⟩ := own_txts hown
  have HP := Lib.hid hpt
  have HB2 : Hid (Below w.heap.size w w2) := Lib.hid (bnext (balloc HB1.out _) hb2)
  have HT2 : Hid (TreeAt abcE b w2) := Lib.hid ((HT1.out.below (balloc (Below.refl _ _) _)).below hb2)
  clear hown hpt hb2 HT1
  go_wp2_with fail
  refine (hash1_any leafT ⟨#[99]⟩ w2 (by decide) (by decide) (by decide)).mono ?_
  rintro e w3 ⟨rfl, hb3⟩
  have HB3 : Hid (Below w.heap.size w w3) := Lib.hid (bnext HB2.out hb3)
  have HBX3 : Hid (Below w2.heap.size w2 w3) := Lib.hid hb3
  clear hb3
  have hcE : hashP leafT [⟨#[99]⟩] = cE := rfl
  rw [hcE]
  have HCS : Hid (cE.size ≤ 1000000) := Lib.hid (hashP_small _ _)
  have HRS : Hid (rightE.size ≤ 1000000) := Lib.hid (hashP_small _ _)
  obtain ⟨C9, hC9⟩ : ∃ C9, cE = C9 := ⟨_, rfl⟩
  rw [hC9] at HP HCS ⊢
  have HC9 := Lib.hid hC9
  clear hcE hC9
  go_wp2_with fail
  refine (hash1_any leafT ⟨#[98]⟩ w3 (by decide) (by decide) (by decide)).mono ?_
  rintro e w4 ⟨rfl, hb4⟩
  have HB4 : Hid (Below w.heap.size w w4) := Lib.hid (bnext HB3.out hb4)
  have HBX4 : Hid (Below w2.heap.size w2 w4) := Lib.hid (bnext HBX3.out hb4)
  clear hb4
  obtain ⟨B9, hB9⟩ : ∃ B9, hashP leafT [⟨#[98]⟩] = B9 := ⟨_, rfl⟩
  have HBS9 : Hid (B9.size ≤ 1000000) := Lib.hid (by rw [← hB9]; exact hashP_small _ _)
  rw [hB9]
  have HB9 := Lib.hid hB9
  clear hB9
  go_wp2_with fail
  refine (hash0_any noneT w4 (by decide) (by decide)).mono ?_
  rintro e w5 ⟨rfl, hb5⟩
  have HB5 : Hid (Below w.heap.size w w5) := Lib.hid (bnext HB4.out hb5)
  have HBX5 : Hid (Below w2.heap.size w2 w5) := Lib.hid (bnext HBX4.out hb5)
  clear hb5
  obtain ⟨N9, hN9⟩ : ∃ N9, hashP noneT [] = N9 := ⟨_, rfl⟩
  have HNS9 : Hid (N9.size ≤ 1000000) := Lib.hid (by rw [← hN9]; exact hashP_small _ _)
  rw [hN9]
  have HN9 := Lib.hid hN9
  clear hN9
  go_wp2_with fail
  refine (hash2_any nodeT B9 N9 w5 (by decide) (by decide) HBS9.out HNS9.out).mono ?_
  rintro e w6 ⟨rfl, hb6⟩
  have HB6 : Hid (Below w.heap.size w w6) := Lib.hid (bnext HB5.out hb6)
  have hb6x := Lib.hid hb6
  clear hb6
  have HBX : Hid (Below w2.heap.size w2 w6) := Lib.hid (bnext HBX5.out hb6x.out)
  have hR9 : hashP nodeT [B9, N9] = rightE := by rw [← HB9.out, ← HN9.out]; rfl
  rw [hR9]
  obtain ⟨R9, hR8⟩ : ∃ R9, rightE = R9 := ⟨_, rfl⟩
  rw [hR8] at HP HRS ⊢
  have HR9 := Lib.hid hR8
  clear hR9 hR8
  go_wp2_with fail
  refine (errno_any 0 0 w6).mono ?_
  rintro e w7 ⟨rfl, rfl⟩
  rw [show ((0 : Int) == 0) = true from rfl]
  go_wp2_with fail
  have HP6 : Hid (Txts w6 pa [C9, R9]) := Lib.hid (HP.out.below HBX.out)
  have ht6 : Txts (w6.alloc (.cells #[.string C9, .string R9] 9)) (some ⟨w6.heap.size, 0, none⟩) [C9, R9] := txts_cells (heap_alloc_new _ _) [C9, R9] (fun i hi => by
    have : i = 0 ∨ i = 1 := by have : i < 2 := hi; omega
    rcases this with rfl | rfl <;> rfl)
  refine (alike_any [C9, R9] [C9, R9] pa (some ⟨w6.heap.size, 0, none⟩) pc 2 _ (HP6.out.below (balloc (Below.refl _ _) _)) ht6 (by show 2 ≤ 1000000; decide) (by show 2 ≤ 1000000; decide)).mono ?_
  rintro e w7 ⟨rfl, hb7⟩
  rw [show decide ([C9, R9] = [C9, R9]) = true from decide_eq_true rfl]
  have HB7 : Hid (Below w.heap.size w w7) := Lib.hid (bnext (balloc HB6.out _) hb7)
  have HT7 : Hid (TreeAt abcE b w7) := Lib.hid (HT2.out.below (bnext (balloc HBX.out _) hb7))
  clear hb7 ht6
  go_wp2_with fail
  refine (root_any abcE b w7 HT7.out).mono ?_
  rintro e w8 ⟨rfl, rfl⟩
  rw [depE, plE0]
  obtain ⟨T9, hT9⟩ : ∃ T9, hashP nodeT [hashP nodeT [hashP leafT [⟨#[97]⟩], cE], rightE] = T9 := ⟨_, rfl⟩
  have HT9 := Lib.hid hT9
  rw [hT9]
  clear hT9
  go_wp2_with fail
  refine (hash1_any leafT ⟨#[97]⟩ w7 (by decide) (by decide) (by decide)).mono ?_
  rintro e w9 ⟨rfl, hb9⟩
  have HB9w : Hid (Below w.heap.size w w9) := Lib.hid (bnext HB7.out hb9)
  clear hb9
  obtain ⟨A9, hA9⟩ : ∃ A9, hashP leafT [⟨#[97]⟩] = A9 := ⟨_, rfl⟩
  have HAS9 : Hid (A9.size ≤ 1000000) := Lib.hid (by rw [← hA9]; exact hashP_small _ _)
  rw [hA9]
  have HA9 := Lib.hid hA9
  clear hA9
  go_wp2_with fail
  refine (hash2_any nodeT A9 C9 w9 (by decide) (by decide) HAS9.out HCS.out).mono ?_
  rintro e w10 ⟨rfl, hb10⟩
  have HB10 : Hid (Below w.heap.size w w10) := Lib.hid (bnext HB9w.out hb10)
  clear hb10
  obtain ⟨L9, hL9⟩ : ∃ L9, hashP nodeT [A9, C9] = L9 := ⟨_, rfl⟩
  have HLS9 : Hid (L9.size ≤ 1000000) := Lib.hid (by rw [← hL9]; exact hashP_small _ _)
  rw [hL9]
  have HL9 := Lib.hid hL9
  clear hL9
  go_wp2_with fail
  refine (hash2_any nodeT L9 R9 w10 (by decide) (by decide) HLS9.out HRS.out).mono ?_
  rintro e w11 ⟨rfl, hb11⟩
  have HB11 : Hid (Below w.heap.size w w11) := Lib.hid (bnext HB10.out hb11)
  clear hb11
  have hE9 : hashP nodeT [L9, R9] = T9 := by rw [← HL9.out, ← HA9.out, ← HC9.out, ← HR9.out]; exact HT9.out
  rw [hE9]
  clear hE9
  go_wp2
  go_ret
  refine ⟨?_, HB11.out⟩
  simp
end Go.Proofs.Ytmikkhfklmmkaaa
namespace Go.Proofs.Ytmikkhfklmmkaaa
open Go.RowKit
set_option linter.unusedSimpArgs false
set_option linter.unusedVariables false
abbrev KnF := Int → Option ByteArray
def noF : KnF := fun _ => none
def kidF (g : KnF) (k : Int) : ByteArray := (g k).getD ByteArray.empty
def putF (g : KnF) (k : Int) (d : ByteArray) : KnF := fun j => if j = k then some d else g j
def vS (g : KnF) (k : Int) : Option Value := (g k).map Value.string
structure MapF (L : List (Int × Value)) (g : KnF) : Prop where
  nodup : (L.map (·.1)).Nodup
  get : ∀ k, mGet L k = vS g k
  u64 : ∀ e ∈ L, U64 e.1
theorem MapF.nil : MapF [] noF := ⟨List.nodup_nil, fun k => rfl, fun e h => by simp at h⟩
theorem mGet_cons (a : Int × Value) (l : List (Int × Value)) (j : Int) : mGet (a :: l) j = if a.1 = j then some a.2 else mGet l j := by
  unfold mGet
  rw [List.find?_cons]
  by_cases h : a.1 = j
  · simp [h]
  · have : (a.1 == j) = false := by simpa using h
    simp [this, h]
theorem mGet_put : ∀ (l : List (Int × Value)) (k : Int) (v : Value) (j : Int), mGet (mPut l k v) j = if j = k then some v else mGet l j
  | [], k, v, j => by
    show mGet [(k, v)] j = _
    rw [mGet_cons]
    by_cases h : j = k
    · subst h; simp
    · rw [if_neg (fun e => h e.symm), if_neg h]
  | a :: l, k, v, j => by
    unfold mPut
    by_cases h : a.1 = k
    · simp only [h, if_true]
      rw [mGet_cons, mGet_cons]
      by_cases h2 : j = k
      · subst h2; simp
      · rw [if_neg (fun e => h2 e.symm), if_neg h2, if_neg (by rw [h]; exact fun e => h2 e.symm)]
    · simp only [h, if_false]
      rw [mGet_cons, mGet_cons, mGet_put l k v j]
      by_cases h2 : j = k
      · subst h2; simp [h]
      · rw [if_neg h2, if_neg h2]
theorem mPut_keys : ∀ (l : List (Int × Value)) (k : Int) (v : Value) (x : Int), x ∈ (mPut l k v).map (·.1) ↔ x ∈ l.map (·.1) ∨ x = k
  | [], k, v, x => by simp [mPut]
  | a :: l, k, v, x => by
    unfold mPut
    by_cases h : a.1 = k
    · simp only [h, if_true, List.map_cons, List.mem_cons]
      constructor
      · rintro (rfl | h2)
        · exact .inr rfl
        · exact .inl (.inr h2)
      · rintro ((rfl | h2) | rfl)
        · exact .inl rfl
        · exact .inr h2
        · exact .inl rfl
    · simp only [h, if_false, List.map_cons, List.mem_cons, mPut_keys l k v x]
      constructor
      · rintro (rfl | h2 | rfl)
        · exact .inl (.inl rfl)
        · exact .inl (.inr h2)
        · exact .inr rfl
      · rintro ((rfl | h2) | rfl)
        · exact .inl rfl
        · exact .inr (.inl h2)
        · exact .inr (.inr rfl)
theorem mPut_nodup : ∀ (l : List (Int × Value)) (k : Int) (v : Value), (l.map (·.1)).Nodup → ((mPut l k v).map (·.1)).Nodup
  | [], k, v, h => by simp [mPut]
  | a :: l, k, v, h => by
    rw [List.map_cons, List.nodup_cons] at h
    unfold mPut
    by_cases h2 : a.1 = k
    · simp only [h2, if_true, List.map_cons, List.nodup_cons]
      rw [h2] at h
      exact h
    · simp only [h2, if_false, List.map_cons, List.nodup_cons]
      refine ⟨fun hm => ?_, mPut_nodup l k v h.2⟩
      rcases (mPut_keys l k v a.1).1 hm with h3 | h3
      · exact h.1 h3
      · exact h2 h3
theorem mPut_u64 {l : List (Int × Value)} {k : Int} {v : Value} (h : ∀ e ∈ l, U64 e.1) (hk : U64 k) : ∀ e ∈ mPut l k v, U64 e.1 := fun e he => by
  have h1 : e.1 ∈ (mPut l k v).map (·.1) := List.mem_map.2 ⟨e, he, rfl⟩
  rcases (mPut_keys l k v e.1).1 h1 with h2 | h2
  · obtain ⟨e2, h3, h4⟩ := List.mem_map.1 h2
    rw [← h4]; exact h e2 h3
  · rw [h2]; exact hk
theorem MapF.put {L : List (Int × Value)} {g : KnF} (h : MapF L g) (k : Int) (d : ByteArray) (hk : U64 k) : MapF (mPut L k (.string d)) (putF g k d) :=
  ⟨mPut_nodup _ _ _ h.nodup, fun j => by
    rw [mGet_put, h.get]
    unfold vS putF
    by_cases e : j = k
    · rw [if_pos e, if_pos e]; rfl
    · rw [if_neg e, if_neg e], mPut_u64 h.u64 hk⟩
def prV (h : KnF) (p : Int) : Value := .agg #[.string (kidF h (2 * p)), .string (kidF h (2 * p + 1))]
def prIs (h : KnF) (p : Int) : Prop := (h (2 * p)).isSome ∨ (h (2 * p + 1)).isSome
instance (h : KnF) (p : Int) : Decidable (prIs h p) := by unfold prIs; infer_instance
structure PairF (L : List (Int × Value)) (h : KnF) : Prop where
  nodup : (L.map (·.1)).Nodup
  get : ∀ p, mGet L p = if prIs h p then some (prV h p) else none
  u64 : ∀ e ∈ L, U64 e.1
theorem PairF.nil : PairF [] noF := ⟨List.nodup_nil, fun k => rfl, fun e h => by simp at h⟩
theorem putF_same (h : KnF) (k : Int) (d : ByteArray) : putF h k d k = some d := by unfold putF; rw [if_pos rfl]
theorem putF_other (h : KnF) {k j : Int} (d : ByteArray) (e : j ≠ k) : putF h k d j = h j := by unfold putF; rw [if_neg e]
theorem kid_same (h : KnF) (k : Int) (d : ByteArray) : kidF (putF h k d) k = d := by unfold kidF; rw [putF_same]; rfl
theorem kid_other (h : KnF) {k j : Int} (d : ByteArray) (e : j ≠ k) : kidF (putF h k d) j = kidF h j := by unfold kidF; rw [putF_other h d e]
def prPut (h : KnF) (k : Int) (d : ByteArray) : Value := if k % 2 = 0 then .agg #[.string d, .string (kidF h (2 * (k / 2) + 1))] else .agg #[.string (kidF h (2 * (k / 2))), .string d]
theorem prPut_eq (h : KnF) (k : Int) (d : ByteArray) : prPut h k d = prV (putF h k d) (k / 2) := by
  unfold prPut prV
  by_cases e : k % 2 = 0
  · rw [if_pos e]
    have e1 : 2 * (k / 2) = k := by omega
    rw [kid_other h d (show 2 * (k / 2) + 1 ≠ k by omega), show kidF (putF h k d) (2 * (k / 2)) = d by rw [e1, kid_same]]
  · rw [if_neg e]
    have e1 : 2 * (k / 2) + 1 = k := by omega
    rw [kid_other h d (show 2 * (k / 2) ≠ k by omega), show kidF (putF h k d) (2 * (k / 2) + 1) = d by rw [e1, kid_same]]
theorem PairF.put {L : List (Int × Value)} {h : KnF} (hp : PairF L h) (k : Int) (d : ByteArray) (hk : U64 k) : PairF (mPut L (k / 2) (prPut h k d)) (putF h k d) :=
  ⟨mPut_nodup _ _ _ hp.nodup, fun p => by
    rw [mGet_put, hp.get]
    by_cases e : p = k / 2
    · subst e
      have : prIs (putF h k d) (k / 2) := by
        unfold prIs
        by_cases e2 : k % 2 = 0
        · left; rw [show 2 * (k / 2) = k by omega, putF_same]; rfl
        · right; rw [show 2 * (k / 2) + 1 = k by omega, putF_same]; rfl
      rw [if_pos rfl, if_pos this, prPut_eq]
    · rw [if_neg e]
      have e1 : 2 * p ≠ k := by omega
      have e2 : 2 * p + 1 ≠ k := by omega
      have e3 : prIs (putF h k d) p ↔ prIs h p := by unfold prIs; rw [putF_other h d e1, putF_other h d e2]
      have e4 : prV (putF h k d) p = prV h p := by unfold prV; rw [kid_other h d e1, kid_other h d e2]
      rw [e4]
      by_cases hi : prIs h p
      · rw [if_pos hi, if_pos (e3.2 hi)]
      · rw [if_neg hi, if_neg (fun h9 => hi (e3.1 h9))], mPut_u64 hp.u64 (by unfold U64 at hk ⊢; omega)⟩
end Go.Proofs.Ytmikkhfklmmkaaa
namespace Go.Proofs.Ytmikkhfklmmkaaa
open Go.RowKit
set_option linter.unusedSimpArgs false
set_option linter.unusedVariables false
def Apart (u v : Value) : Prop := ∀ k, u.ownBlock = some k → v.ownBlock ≠ some k
theorem Apart.symm {u v : Value} (h : Apart u v) : Apart v u := fun k h1 h2 => h k h2 h1
theorem Apart.keep {w w1 : World} {u v : Value} {base e size n : Nat} {xs : List Value} (h : Apart u v) (ho : w.ownsRow base e size u n xs) (hg : w.grownBy w1 v.ownBlock) : w1.ownsRow base e size u n xs :=
  ho.kept hg (by
    cases hp : Value.ownBlock u with
    | none => exact .inl rfl
    | some k => exact .inr (fun e => h k hp e.symm))
end Go.Proofs.Ytmikkhfklmmkaaa
namespace Go.Proofs.Ytmikkhfklmmkaaa
open Go.RowKit
set_option linter.unusedSimpArgs false
set_option linter.unusedVariables false
set_option maxRecDepth 100000 in
theorem prove_nil (v : Value) (w : World) : Calls Try.prog 7 #[.pointer none, v] w (ProofIs [] 1 w) := by
  go_enter Try.func7, Try.ntmps7
  go_wp2
  go_ret2
  exact ⟨_, rfl, World.ownsRow_nil _ _ _ _, Below.refl _ _⟩
theorem zE_at (n i : Nat) : tth (zE n) i = ⟨#[]⟩ := by
  unfold tth zE
  rw [List.getD_eq_getElem?_getD, List.getElem?_replicate]
  split <;> rfl
theorem txts_zE {w : World} {b : Nat} {t : TypeId} {fr : Nat × Nat} {n : Nat} {cs : Array Value} (h : w.heap[b]? = some (.cells cs t fr)) (hc : ∀ i, i < n → cs[i]? = some (.string ⟨#[]⟩)) : Txts w (some ⟨b, 0, none⟩) (zE n) := fun i hi => ⟨b, 0, rfl, by
  rw [block_cell h, Nat.zero_add, zE_at]
  exact hc i (by have : (zE n).length = n := List.length_replicate; rw [len_eq] at hi; omega)⟩
theorem zE_len (n : Nat) : len (zE n) = n := by rw [len_eq]; exact List.length_replicate
set_option maxRecDepth 100000 in
theorem make_zs (k : Nat) (kI : Int) (hkI : kI = (k : Int)) (hk : k ≤ 8) : ∃ cs : Array Value, (∀ W : World, (Instr.makeSlice 26 (.int .i64 kI) (.int .i64 kI)).run Try.prog W = .ok (.slice (some ⟨W.heap.size, 0, none⟩) k k) (W.alloc (.cells cs 9))) ∧ ∀ i, i < k → cs[i]? = some (.string ⟨#[]⟩) := by
  subst hkI
  obtain ⟨i0, hi, hz0, hz1, hz2⟩ := info_parts info_str
  have hr := fun W => run_make (P := Try.prog) W 26 9 i0 (.string ⟨#[]⟩) Try.underlying26 hi hz0 .i64 .i64 k k (by omega) (Int.le_refl _) (by rw [hz2]; omega) (by omega)
  refine ⟨_, hr, fun i hi2 => ?_⟩
  rw [hz1]
  have h2 : (madeCells (Value.string ⟨#[]⟩).cells (k * 1)).toList[i]? = some (.string ⟨#[]⟩) := by
    show (madeCells #[.string ⟨#[]⟩] (k * 1)).toList[i]? = _
    rw [toList_madeCells_one, List.getElem?_replicate]; simp; omega
  rw [Array.getElem?_toList] at h2
  exact h2
structure Rw (T k : Nat) (w : World) (q a : Option Addr) (n c z : Nat) (er : Int) (ls : List ByteArray) : Prop where
  c0 : w.cell? ⟨T, k * 4, none⟩ = some (.pointer q)
  c1 : w.cell? ⟨T, k * 4 + 1, none⟩ = some (.slice a n c)
  c2 : w.cell? ⟨T, k * 4 + 2, none⟩ = some (.int .i64 (z : Nat))
  c3 : w.cell? ⟨T, k * 4 + 3, none⟩ = some (.int .i64 er)
  z_ : len ls = z
  pr : ∀ w', Below w.heap.size w w' → Calls Try.prog 7 #[.pointer q, .slice a n c] w' (ProofIs ls er w')
theorem Rw.below {T k : Nat} {w w' : World} {q a : Option Addr} {n c z : Nat} {er : Int} {ls : List ByteArray} (h : Rw T k w q a n c z er ls) (hb : Below w.heap.size w w') : Rw T k w' q a n c z er ls := by
  have hl := lt_of_cell h.c0
  have e : ∀ o, w'.cell? ⟨T, o, none⟩ = w.cell? ⟨T, o, none⟩ := fun o => hb.cell (p := ⟨T, o, none⟩) hl
  exact ⟨(e _).trans h.c0, (e _).trans h.c1, (e _).trans h.c2, (e _).trans h.c3, h.z_, fun w2 hb2 => h.pr w2 (bnext hb hb2)⟩
def RwEx (T k : Nat) (w : World) : Prop := ∃ q a n c z er ls, Rw T k w q a n c z er ls
theorem u64s_lits {w : World} {b : Nat} {cs : Array Value} {t : TypeId} {fr : Nat × Nat} (h : w.heap[b]? = some (.cells cs t fr)) (l : List Int) (hc : ∀ i, i < len l → cs[i]? = some (.int .u64 (nth l i))) : U64s w (some ⟨b, 0, none⟩) l := fun i hi => ⟨b, 0, rfl, by rw [block_cell h, Nat.zero_add]; exact hc i hi⟩
theorem at1 {cs : Array Value} {x : Int} (h : cs[0]? = some (.int .u64 x)) : ∀ i, i < len [x] → cs[i]? = some (.int .u64 (nth [x] i)) := by
  intro i hi
  have hi : i < 1 := hi
  obtain rfl : i = 0 := by omega
  exact h
theorem at2 {cs : Array Value} {x y : Int} (h : cs[0]? = some (.int .u64 x)) (h1 : cs[1]? = some (.int .u64 y)) : ∀ i, i < len [x, y] → cs[i]? = some (.int .u64 (nth [x, y] i)) := by
  intro i hi
  have hi : i < 2 := hi
  have : i = 0 ∨ i = 1 := by omega
  rcases this with rfl | rfl
  · exact h
  · exact h1
theorem at8 {cs : Array Value} {x0 x1 x2 x3 x4 x5 x6 x7 : Int} (h0 : cs[0]? = some (.int .u64 x0)) (h1 : cs[1]? = some (.int .u64 x1)) (h2 : cs[2]? = some (.int .u64 x2)) (h3 : cs[3]? = some (.int .u64 x3)) (h4 : cs[4]? = some (.int .u64 x4)) (h5 : cs[5]? = some (.int .u64 x5)) (h6 : cs[6]? = some (.int .u64 x6)) (h7 : cs[7]? = some (.int .u64 x7)) : ∀ i, i < len [x0, x1, x2, x3, x4, x5, x6, x7] → cs[i]? = some (.int .u64 (nth [x0, x1, x2, x3, x4, x5, x6, x7] i)) := by
  intro i hi
  have hi : i < 8 := hi
  have : i = 0 ∨ i = 1 ∨ i = 2 ∨ i = 3 ∨ i = 4 ∨ i = 5 ∨ i = 6 ∨ i = 7 := by omega
  rcases this with rfl | rfl | rfl | rfl | rfl | rfl | rfl | rfl
  · exact h0
  · exact h1
  · exact h2
  · exact h3
  · exact h4
  · exact h5
  · exact h6
  · exact h7
theorem u64_lits {l : List Int} (h : l.all (fun k => decide (0 ≤ k) && decide (k ≤ 1000000)) = true) : ∀ k ∈ l, U64 k := fun k hk => by
  have := List.all_eq_true.1 h k hk
  simp at this
  exact ⟨by omega, by omega⟩
theorem rw_good {els : List ByteArray} {b : Nat} {w : World} (ht : TreeAt els b w) (hn : len els ≤ 65536) {T k : Nat} {ps : List Int} {a : Option Addr} {c z : Nat} (hp : U64s w a ps) (hl : len ps ≤ 100) (hu : ∀ k ∈ ps, U64 k) (hm : MayOk (len els : Nat) ps) (hz : (plcL (len els : Nat) ps).length = z)
    (c0 : w.cell? ⟨T, k * 4, none⟩ = some (.pointer (some ⟨b, 0, none⟩))) (c1 : w.cell? ⟨T, k * 4 + 1, none⟩ = some (.slice a (len ps) c)) (c2 : w.cell? ⟨T, k * 4 + 2, none⟩ = some (.int .i64 (z : Nat))) (c3 : w.cell? ⟨T, k * 4 + 3, none⟩ = some (.int .i64 0)) : RwEx T k w :=
  ⟨_, _, _, _, z, _, _, c0, c1, c2, c3, by rw [dgs_len, hz], fun w' hb => prove_ok els b ps a c w' (ht.below hb) hn (hp.below hb) hl hu hm⟩
theorem rw_bad {els : List ByteArray} {b : Nat} {w : World} (ht : TreeAt els b w) (hn : len els ≤ 65536) {T k : Nat} {ps : List Int} {a : Option Addr} {c : Nat} (hp : U64s w a ps) (hl : len ps ≤ 100) (hm : ¬ MayOk (len els : Nat) ps)
    (c0 : w.cell? ⟨T, k * 4, none⟩ = some (.pointer (some ⟨b, 0, none⟩))) (c1 : w.cell? ⟨T, k * 4 + 1, none⟩ = some (.slice a (len ps) c)) (c2 : w.cell? ⟨T, k * 4 + 2, none⟩ = some (.int .i64 (0 : Nat))) (c3 : w.cell? ⟨T, k * 4 + 3, none⟩ = some (.int .i64 2)) : RwEx T k w :=
  ⟨_, _, _, _, 0, _, _, c0, c1, c2, c3, rfl, fun w' hb => prove_bad els b ps a c w' (ht.below hb) hn (hp.below hb) (by omega) hm⟩
set_option maxRecDepth 100000 in
theorem rows10 {b5 b8 b1 q0 q1 q2 q3 q4 q5 q6 q7 q8 T : Nat} {w : World} (h5 : TreeAt (zE 5) b5 w) (h8 : TreeAt (zE 8) b8 w) (h1 : TreeAt xE b1 w)
    (p0 : w.heap[q0]? = some (.cells #[.int .u64 0] 27)) (p1 : w.heap[q1]? = some (.cells #[.int .u64 0] 27)) (p2 : w.heap[q2]? = some (.cells #[.int .u64 0, .int .u64 1] 27)) (p3 : w.heap[q3]? = some (.cells #[.int .u64 0, .int .u64 4] 27))
    (p4 : w.heap[q4]? = some (.cells #[.int .u64 0, .int .u64 1, .int .u64 2, .int .u64 3, .int .u64 4, .int .u64 5, .int .u64 6, .int .u64 7] 27)) (p5 : w.heap[q5]? = some (.cells #[.int .u64 1, .int .u64 0] 27)) (p6 : w.heap[q6]? = some (.cells #[.int .u64 1, .int .u64 1] 27)) (p7 : w.heap[q7]? = some (.cells #[.int .u64 5] 27)) (p8 : w.heap[q8]? = some (.cells #[.int .u64 0] 27)) {t : TypeId}
    (hT : w.heap[T]? = some (.cells #[.pointer (some ⟨b1, 0, none⟩), .slice (some ⟨q0, 0, none⟩) 1 1, .int .i64 0, .int .i64 0, .pointer (some ⟨b5, 0, none⟩), .slice (some ⟨q1, 0, none⟩) 1 1, .int .i64 3, .int .i64 0, .pointer (some ⟨b5, 0, none⟩), .slice (some ⟨q2, 0, none⟩) 2 2, .int .i64 4, .int .i64 0, .pointer (some ⟨b5, 0, none⟩), .slice (some ⟨q3, 0, none⟩) 2 2, .int .i64 2, .int .i64 0, .pointer (some ⟨b8, 0, none⟩), .slice (some ⟨q4, 0, none⟩) 8 8, .int .i64 0, .int .i64 0, .pointer (some ⟨b5, 0, none⟩), .slice none 0 0, .int .i64 0, .int .i64 2, .pointer (some ⟨b5, 0, none⟩), .slice (some ⟨q5, 0, none⟩) 2 2, .int .i64 0, .int .i64 2, .pointer (some ⟨b5, 0, none⟩), .slice (some ⟨q6, 0, none⟩) 2 2, .int .i64 0, .int .i64 2, .pointer (some ⟨b5, 0, none⟩), .slice (some ⟨q7, 0, none⟩) 1 1, .int .i64 0, .int .i64 2, .pointer none, .slice (some ⟨q8, 0, none⟩) 1 1, .int .i64 0, .int .i64 1] t)) :
    ∀ k, k < 10 → RwEx T k w := by
  have one : ∀ {P : Nat → Prop} {m : Nat}, (∀ i : Fin m, P i.1) → ∀ i, i < m → P i := fun h i hi => h ⟨i, hi⟩
  have r : ∀ o, w.cell? ⟨T, o, none⟩ = _ := block_cell hT
  have z5 : len (zE 5) = 5 := zE_len 5
  have z8 : len (zE 8) = 8 := zE_len 8
  intro k hk
  have hc : k = 0 ∨ k = 1 ∨ k = 2 ∨ k = 3 ∨ k = 4 ∨ k = 5 ∨ k = 6 ∨ k = 7 ∨ k = 8 ∨ k = 9 := by omega
  rcases hc with rfl | rfl | rfl | rfl | rfl | rfl | rfl | rfl | rfl | rfl
  · exact rw_good (ps := [0]) h1 (by decide) (u64s_lits p0 _ (at1 rfl)) (by decide) (u64_lits rfl) (by decide) mk_plc1 (r 0) (r 1) (r 2) (r 3)
  · exact rw_good (ps := [0]) h5 (by rw [z5]; decide) (u64s_lits p1 _ (at1 rfl)) (by decide) (u64_lits rfl) (by rw [z5]; decide) (by rw [z5]; exact mk_plc0) (r 4) (r 5) (r 6) (r 7)
  · exact rw_good (ps := [0, 1]) h5 (by rw [z5]; decide) (u64s_lits p2 _ (at2 rfl rfl)) (by decide) (u64_lits rfl) (by rw [z5]; decide) (by rw [z5]; exact mk_plc01) (r 8) (r 9) (r 10) (r 11)
  · exact rw_good (ps := [0, 4]) h5 (by rw [z5]; decide) (u64s_lits p3 _ (at2 rfl rfl)) (by decide) (u64_lits rfl) (by rw [z5]; decide) (by rw [z5]; exact mk_plc04) (r 12) (r 13) (r 14) (r 15)
  · exact rw_good (ps := [0, 1, 2, 3, 4, 5, 6, 7]) h8 (by rw [z8]; decide) (u64s_lits p4 _ (at8 rfl rfl rfl rfl rfl rfl rfl rfl)) (by decide) (u64_lits rfl) (by rw [z8]; decide) (by rw [z8]; exact mk_plc8) (r 16) (r 17) (r 18) (r 19)
  · exact rw_bad (ps := []) h5 (by rw [z5]; decide) (U64s.nil _ _) (by decide) (by rw [z5]; decide) (r 20) (r 21) (r 22) (r 23)
  · exact rw_bad (ps := [1, 0]) h5 (by rw [z5]; decide) (u64s_lits p5 _ (at2 rfl rfl)) (by decide) (by rw [z5]; decide) (r 24) (r 25) (r 26) (r 27)
  · exact rw_bad (ps := [1, 1]) h5 (by rw [z5]; decide) (u64s_lits p6 _ (at2 rfl rfl)) (by decide) (by rw [z5]; decide) (r 28) (r 29) (r 30) (r 31)
  · exact rw_bad (ps := [5]) h5 (by rw [z5]; decide) (u64s_lits p7 _ (at1 rfl)) (by decide) (by rw [z5]; decide) (r 32) (r 33) (r 34) (r 35)
  · exact ⟨none, _, _, _, 0, 1, [], r 36, r 37, r 38, r 39, rfl, fun w' _ => prove_nil _ w'⟩
set_option maxRecDepth 100000 in
set_option maxHeartbeats 8000000 in
theorem known10_law (w : World) : Calls Try.prog 3 #[] w fun e w' => e = .returned (.bool true) ∧ Below w.heap.size w w' := by
  go_enter Try.func3, Try.ntmps3
  obtain ⟨c5, mk5, hc5⟩ := make_zs 5 5 rfl (by decide)
  obtain ⟨c8, mk8, hc8⟩ := make_zs 8 8 rfl (by decide)
  have HC5 := Lib.hid hc5
  have HC8 := Lib.hid hc8
  clear hc5 hc8
  go_wp2_with fail
  refine (build_any (zE 5) (some ⟨w.heap.size, 0, none⟩) 5 _ (txts_zE (heap_alloc_new _ _) HC5.out) (by rw [zE_len]; decide) (fun i hi => by rw [zE_at]; exact Nat.zero_le _)).mono ?_
  rintro e w1 ⟨b5, rfl, hs5, ht5, hb5⟩
  have HT5 := Lib.hid ht5
  have HB1 : Hid (Below w.heap.size w w1) := Lib.hid (bnext (balloc (Below.refl _ _) _) hb5)
  clear hs5 ht5 hb5
  go_wp2_with fail
  refine (build_any (zE 8) (some ⟨w1.heap.size, 0, none⟩) 8 _ (txts_zE (heap_alloc_new _ _) HC8.out) (by rw [zE_len]; decide) (fun i hi => by rw [zE_at]; exact Nat.zero_le _)).mono ?_
  rintro e w2 ⟨b8, rfl, hs8, ht8, hb8⟩
  have HT8 := Lib.hid ht8
  have HX2 : Hid (Below w1.heap.size w1 w2) := Lib.hid (bnext (balloc (Below.refl _ _) _) hb8)
  have HB2 : Hid (Below w.heap.size w w2) := Lib.hid (bnext HB1.out HX2.out)
  clear hs8 ht8 hb8
  go_wp2_with fail
  refine (build_any xE (some ⟨w2.heap.size, 0, none⟩) 1 _ (txts_cells (heap_alloc_new _ _) xE (fun i hi => by
    have : i = 0 := by unfold xE at hi; rw [len_eq] at hi; simp at hi; exact hi
    subst this; rfl)) (by decide) (fun i hi => by
    have : i = 0 := by unfold xE at hi; rw [len_eq] at hi; simp at hi; exact hi
    subst this; decide)).mono ?_
  rintro e w3 ⟨b1, rfl, hs1, ht1, hb1⟩
  have HT1 := Lib.hid ht1
  have HX3 : Hid (Below w2.heap.size w2 w3) := Lib.hid (bnext (balloc (Below.refl _ _) _) hb1)
  have HB3 : Hid (Below w.heap.size w w3) := Lib.hid (bnext HB2.out HX3.out)
  have HT83 := Lib.hid (HT8.out.below HX3.out)
  have HT53 := Lib.hid (HT5.out.below (bnext HX2.out HX3.out))
  clear hs1 ht1 hb1 HB1 HB2 HX2 HX3 HT8 HT5 mk5 mk8 HC5 HC8
  go_upto_region 7 with fail
  obtain ⟨B, hB⟩ : ∃ B, w3.heap.size = B := ⟨_, rfl⟩
  obtain ⟨V, hV⟩ : ∃ V, ((((((((((w3.alloc (.cells #[.int .u64 0] 27)).alloc (.cells #[.int .u64 0] 27)).alloc (.cells #[.int .u64 0, .int .u64 1] 27)).alloc (.cells #[.int .u64 0, .int .u64 4] 27)).alloc (.cells #[.int .u64 0, .int .u64 1, .int .u64 2, .int .u64 3, .int .u64 4, .int .u64 5, .int .u64 6, .int .u64 7] 27)).alloc (.cells #[.int .u64 1, .int .u64 0] 27)).alloc (.cells #[.int .u64 1, .int .u64 1] 27)).alloc (.cells #[.int .u64 5] 27)).alloc (.cells #[.int .u64 0] 27)).alloc (.cells #[.pointer (some ⟨b1, 0, none⟩), .slice (some ⟨w3.heap.size, 0, none⟩) 1 1, .int .i64 0, .int .i64 0, .pointer (some ⟨b5, 0, none⟩), .slice (some ⟨w3.heap.size + 1, 0, none⟩) 1 1, .int .i64 3, .int .i64 0, .pointer (some ⟨b5, 0, none⟩), .slice (some ⟨w3.heap.size + 1 + 1, 0, none⟩) 2 2, .int .i64 4, .int .i64 0, .pointer (some ⟨b5, 0, none⟩), .slice (some ⟨w3.heap.size + 1 + 1 + 1, 0, none⟩) 2 2, .int .i64 2, .int .i64 0, .pointer (some ⟨b8, 0, none⟩), .slice (some ⟨w3.heap.size + 1 + 1 + 1 + 1, 0, none⟩) 8 8, .int .i64 0, .int .i64 0, .pointer (some ⟨b5, 0, none⟩), .slice none 0 0, .int .i64 0, .int .i64 2, .pointer (some ⟨b5, 0, none⟩), .slice (some ⟨w3.heap.size + 1 + 1 + 1 + 1 + 1, 0, none⟩) 2 2, .int .i64 0, .int .i64 2, .pointer (some ⟨b5, 0, none⟩), .slice (some ⟨w3.heap.size + 1 + 1 + 1 + 1 + 1 + 1, 0, none⟩) 2 2, .int .i64 0, .int .i64 2, .pointer (some ⟨b5, 0, none⟩), .slice (some ⟨w3.heap.size + 1 + 1 + 1 + 1 + 1 + 1 + 1, 0, none⟩) 1 1, .int .i64 0, .int .i64 2, .pointer none, .slice (some ⟨w3.heap.size + 1 + 1 + 1 + 1 + 1 + 1 + 1 + 1, 0, none⟩) 1 1, .int .i64 0, .int .i64 1] 29)) = V := ⟨_, rfl⟩
  have HV : Hid (Below w3.heap.size w3 V) := Lib.hid (by rw [← hV]; (repeat (first | exact Below.refl _ _ | assumption | (refine bdrew ?_) | (refine bdrewN ?_ _) | (refine balloc ?_ _) | (refine bset ?_ (by first | omega | (simp; done) | (simp; omega)) _) | (refine bnext ?_ (by assumption)))))
  have HR : Hid (∀ k, k < 10 → RwEx (w3.heap.size + 1 + 1 + 1 + 1 + 1 + 1 + 1 + 1 + 1) k V) := Lib.hid (rows10 (q0 := w3.heap.size) (q1 := w3.heap.size + 1) (q2 := w3.heap.size + 1 + 1) (q3 := w3.heap.size + 1 + 1 + 1) (q4 := w3.heap.size + 1 + 1 + 1 + 1) (q5 := w3.heap.size + 1 + 1 + 1 + 1 + 1) (q6 := w3.heap.size + 1 + 1 + 1 + 1 + 1 + 1) (q7 := w3.heap.size + 1 + 1 + 1 + 1 + 1 + 1 + 1) (q8 := w3.heap.size + 1 + 1 + 1 + 1 + 1 + 1 + 1 + 1) (HT53.out.below HV.out) (HT83.out.below HV.out) (HT1.out.below HV.out) (by rw [← hV]; exact (block_alloc (block_alloc (block_alloc (block_alloc (block_alloc (block_alloc (block_alloc (block_alloc (block_alloc (alloc_new_at _ rfl) _) _) _) _) _) _) _) _) _)) (by rw [← hV]; exact (block_alloc (block_alloc (block_alloc (block_alloc (block_alloc (block_alloc (block_alloc (block_alloc (alloc_new_at _ (alloc_size _ rfl)) _) _) _) _) _) _) _) _)) (by rw [← hV]; exact (block_alloc (block_alloc (block_alloc (block_alloc (block_alloc (block_alloc (block_alloc (alloc_new_at _ (alloc_size _ (alloc_size _ rfl))) _) _) _) _) _) _) _)) (by rw [← hV]; exact (block_alloc (block_alloc (block_alloc (block_alloc (block_alloc (block_alloc (alloc_new_at _ (alloc_size _ (alloc_size _ (alloc_size _ rfl)))) _) _) _) _) _) _)) (by rw [← hV]; exact (block_alloc (block_alloc (block_alloc (block_alloc (block_alloc (alloc_new_at _ (alloc_size _ (alloc_size _ (alloc_size _ (alloc_size _ rfl))))) _) _) _) _) _)) (by rw [← hV]; exact (block_alloc (block_alloc (block_alloc (block_alloc (alloc_new_at _ (alloc_size _ (alloc_size _ (alloc_size _ (alloc_size _ (alloc_size _ rfl)))))) _) _) _) _)) (by rw [← hV]; exact (block_alloc (block_alloc (block_alloc (alloc_new_at _ (alloc_size _ (alloc_size _ (alloc_size _ (alloc_size _ (alloc_size _ (alloc_size _ rfl))))))) _) _) _)) (by rw [← hV]; exact (block_alloc (block_alloc (alloc_new_at _ (alloc_size _ (alloc_size _ (alloc_size _ (alloc_size _ (alloc_size _ (alloc_size _ (alloc_size _ rfl)))))))) _) _)) (by rw [← hV]; exact (block_alloc (alloc_new_at _ (alloc_size _ (alloc_size _ (alloc_size _ (alloc_size _ (alloc_size _ (alloc_size _ (alloc_size _ (alloc_size _ rfl))))))))) _)) (by rw [← hV]; exact (alloc_new_at _ (alloc_size _ (alloc_size _ (alloc_size _ (alloc_size _ (alloc_size _ (alloc_size _ (alloc_size _ (alloc_size _ (alloc_size _ rfl))))))))))))
  rw [hV, hB]
  rw [hB] at HR
  have HB4 : Hid (Below w.heap.size w V) := Lib.hid (bnext HB3.out HV.out)
  obtain ⟨T, hT⟩ : ∃ T, B + 1 + 1 + 1 + 1 + 1 + 1 + 1 + 1 + 1 = T := ⟨_, rfl⟩
  rw [hT] at HR ⊢
  clear hT hV hB HV HT53 HT83 HT1 HB3
  go_loopw [72] (fun i wr => ∃ k : Nat, k ≤ 10 ∧ i = .int .i64 k ∧ Below V.heap.size V wr) (fun i _ => 10 - (intOf i).toNat)
  case atStart => exact ⟨0, by decide, rfl, Below.refl _ _⟩
  case round =>
    obtain ⟨k, hk, rfl, hd⟩ := hrel
    by_cases hlt : k < 10
    · obtain ⟨q, a, n, c, z, er, ls, hr⟩ := HR.out k hlt
      have HRW := Lib.hid (hr.below hd)
      have b0 : (k : Int) < 10 := by omega
      have c0 := (hr.below hd).c0
      have c1 := (hr.below hd).c1
      have c2 := (hr.below hd).c2
      have c3 := (hr.below hd).c3
      clear hr
      go_wp2_with fail
      refine (HRW.out.pr _ (by (repeat (first | exact Below.refl _ _ | assumption | (refine bdrew ?_) | (refine bdrewN ?_ _) | (refine balloc ?_ _) | (refine bset ?_ (by first | omega | (simp; done) | (simp; omega)) _) | (refine bnext ?_ (by assumption)))))).mono ?_
      rintro e w5 ⟨v5, rfl, ho5, hb5⟩
      obtain ⟨a5, c5, rfl, hp5⟩ := own_txts ho5
      rw [HRW.out.z_]
      have HB5 : Hid (Below wr.heap.size wr w5) := Lib.hid (bnext (by (repeat (first | exact Below.refl _ _ | assumption | (refine bdrew ?_) | (refine bdrewN ?_ _) | (refine balloc ?_ _) | (refine bset ?_ (by first | omega | (simp; done) | (simp; omega)) _) | (refine bnext ?_ (by assumption))))) hb5)
      have x2 : w5.cell? ⟨wr.heap.size, 2, none⟩ = some (.int .i64 (z : Nat)) := (hb5.cell (p := ⟨_, 2, none⟩) (by simp)).trans (block_cell (heap_alloc_new _ _) 2)
      have x3 : w5.cell? ⟨wr.heap.size, 3, none⟩ = some (.int .i64 er) := (hb5.cell (p := ⟨_, 3, none⟩) (by simp)).trans (block_cell (heap_alloc_new _ _) 3)
      clear hb5 ho5 hp5 c0 c1 c2 c3
      go_wp2
      go_roundw
      case rel => exact ⟨k + 1, by omega, by go_num, bnext hd HB5.out⟩
      case measure => simp [intOf]; omega
    · obtain rfl : k = 10 := by omega
      have HB5 : Hid (Below w.heap.size w wr) := Lib.hid (bnext HB4.out hd)
      have hS : Hid (sizeN 65536 [65535] = 16 ∧ sizeE 65536 [65535] = 0) := Lib.hid mk_size16
      have hO : Hid (sizeN 65537 [1] = 0 ∧ sizeE 65537 [1] = 2) := Lib.hid mk_over
      have hZ : Hid (sizeN 0 [0] = 0 ∧ sizeE 0 [0] = 2) := Lib.hid mk_zero
      clear hd hk hlt
      go_wp2_with fail
      refine (msize_ok 65536 [65535] _ 1 _ (u64s_lits (heap_alloc_new _ _) _ (at1 rfl)) (by decide) (u64_lits rfl) (by decide)).mono ?_
      rintro e w6 ⟨rfl, hb6⟩
      rw [hS.out.1, hS.out.2]
      have HB6 : Hid (Below w.heap.size w w6) := Lib.hid (bnext (balloc HB5.out _) hb6)
      clear hb6
      go_wp2_with fail
      refine (msize_bad 65537 [1] _ 1 _ (u64s_lits (heap_alloc_new _ _) _ (at1 rfl)) (by decide) (by decide) (by decide) (by decide)).mono ?_
      rintro e w7 ⟨rfl, hb7⟩
      rw [hO.out.1, hO.out.2]
      have HB7 : Hid (Below w.heap.size w w7) := Lib.hid (bnext (balloc HB6.out _) hb7)
      clear hb7
      go_wp2_with fail
      refine (msize_bad 0 [0] _ 1 _ (u64s_lits (heap_alloc_new _ _) _ (at1 rfl)) (by decide) (by decide) (by decide) (by decide)).mono ?_
      rintro e w8 ⟨rfl, hb8⟩
      rw [hZ.out.1, hZ.out.2]
      have HB8 : Hid (Below w.heap.size w w8) := Lib.hid (bnext (balloc HB7.out _) hb8)
      clear hb8
      go_wp2_with fail
      refine (works10_any _).mono ?_
      rintro e w9 ⟨rfl, hb9⟩
      have HB9 : Hid (Below w.heap.size w w9) := Lib.hid (bnext HB8.out hb9)
      clear hb9
      go_wp2
      go_ret
      exact ⟨rfl, HB9.out⟩
end Go.Proofs.Ytmikkhfklmmkaaa
namespace Go.Proofs.Ytmikkhfklmmkaaa
set_option linter.unusedSimpArgs false
set_option linter.unusedVariables false
open Go.RowKit Go.ChangeShapes Go.WideShapes Go.ChangeAt
theorem own : ownKnob Try.prog.godebug = none := by kernel_rfl
end Go.Proofs.Ytmikkhfklmmkaaa
