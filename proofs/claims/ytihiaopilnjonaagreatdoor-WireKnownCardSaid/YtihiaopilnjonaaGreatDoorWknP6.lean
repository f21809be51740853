/- Parts of the proof, one behind the other. -/
import Derived.Test.YtihiaopilnjonaaGreatDoorWknP5
import Derived.Maps.AppendAt
namespace Go.Proofs.YtihiaopilnjonaaGreatDoor
open Go.RowKit
set_option linter.unusedSimpArgs false
set_option linter.unusedVariables false
set_option linter.constructorNameAsVariable false
theorem full_c (c : UInt8) (w : World) : Calls Tryz.prog 54 #[.string ⟨#[c]⟩] w fun e w' => e = .returned (.string (fullC c)) ∧ Below w.heap.size w w' := by
  go_enter Tryz.func54, Tryz.ntmps54
  go_wp2_with fail
  refine (Tryz.strings_Repeat ⟨#[c]⟩ 32 _ (by decide) (show 1 * 32 ≤ 140737488355328 by decide)).mono ?_
  rintro e w1 ⟨rfl, hb⟩
  go_wp2
  go_ret
  exact ⟨rfl, hb⟩
theorem slot_now (B : Nat) (L : Int) (q : Bool) (idx : Int) (ws ps : List ByteArray) (a1 a2 : Option Addr) (k1 k2 : Nat) (w : World) (h : TE7 B w) (s1 : StrsC (CW w) a1 ws) (s2 : StrsC (CW w) a2 ps) (hL : U64i L) (hi : U64i idx) (hw : len ws ≤ 100000) (hp : len ps ≤ 100000) :
    Calls Tryz.prog 24 #[.agg #[.int .u64 L, .bool q, .int .u64 idx, .slice a1 (len ws) k1, .slice a2 (len ps) k2]] w (LaidIs (slotSpecs L q idx ws ps) w) :=
  wslot2_any w.heap.size L q idx a1 a2 k1 k2 ws ps w h.up s1.at s2.at hi.1 hi.2 hL.1 hL.2 hw hp (fun h => Nat.le_trans (slotSz h) (by decide))
theorem strs_blk {w : World} {b : Nat} {l : List ByteArray} {t : TypeId} {fr : Nat × Nat} (h : w.heap[b]? = some (.cells (l.map Value.string).toArray t fr)) : StrsC (CW w) (some ⟨b, 0, none⟩) l := fun i hi => by
  have hi' : i < l.length := hi
  refine ⟨b, 0, rfl, ?_⟩
  rw [Nat.zero_add]
  exact (block_cell h i).trans (by simp [sth_eq l i hi', hi'])
theorem nums_blk {w : World} {b : Nat} {l : List Int} {t : TypeId} {fr : Nat × Nat} (h : w.heap[b]? = some (.cells (l.map (Value.int .u64)).toArray t fr)) : NmsC (CW w) (some ⟨b, 0, none⟩) l := fun i hi => by
  have hi' : i < l.length := hi
  refine ⟨b, 0, rfl, ?_⟩
  rw [Nat.zero_add]
  exact (block_cell h i).trans (by simp [nth_eq l i hi', hi'])
def rvCells (d : RevD) : List Value := [.int .u64 d.pos, .int .u64 d.L, .bool d.signed, .int .u64 d.idx, .slice none 0 0, .slice none 0 0, .string d.root, .int .u64 d.wt, .int .u64 d.first, .int .u64 d.life, .int .u64 d.keys]
theorem rev_blk {w : World} {b o : Nat} {cs : Array Value} {d : RevD} {t : TypeId} {fr : Nat × Nat} (h : w.heap[b]? = some (.cells cs t fr)) (h1 : d.ws = []) (h2 : d.ps = []) (hc : ∀ j, j < 11 → cs[o + j]? = (rvCells d)[j]?) : RevCl (CW w) b o d := by
  have c : ∀ j, j < 11 → w.cell? ⟨b, o + j, none⟩ = (rvCells d)[j]? := fun j hj => (block_cell h (o + j)).trans (hc j hj)
  exact ⟨c 0 (by decide), c 1 (by decide), c 2 (by decide), c 3 (by decide), ⟨none, 0, by rw [h1]; exact c 4 (by decide), by rw [h1]; exact strsC_nil _ _⟩, ⟨none, 0, by rw [h2]; exact c 5 (by decide), by rw [h2]; exact strsC_nil _ _⟩, c 6 (by decide), c 7 (by decide), c 8 (by decide), c 9 (by decide), c 10 (by decide)⟩
theorem kr1_bd : RvBd kr1 := ⟨⟨by decide, by decide⟩, ⟨by decide, by decide⟩, ⟨by decide, by decide⟩, ⟨by decide, by decide⟩, ⟨by decide, by decide⟩, ⟨by decide, by decide⟩, ⟨by decide, by decide⟩, by decide, by decide, by decide⟩
theorem kr2_bd : RvBd kr2 := ⟨⟨by decide, by decide⟩, ⟨by decide, by decide⟩, ⟨by decide, by decide⟩, ⟨by decide, by decide⟩, ⟨by decide, by decide⟩, ⟨by decide, by decide⟩, ⟨by decide, by decide⟩, by decide, by decide, by decide⟩
theorem kr0_bd : RvBd kr0 := ⟨⟨by decide, by decide⟩, ⟨by decide, by decide⟩, ⟨by decide, by decide⟩, ⟨by decide, by decide⟩, ⟨by decide, by decide⟩, ⟨by decide, by decide⟩, ⟨by decide, by decide⟩, by decide, by decide, by decide⟩
theorem kfit {root : ByteArray} {sg : Int} {rs : List RevD} {cs : List Int} {sp pp : List ByteArray} (hr : root.size = 32) (hg : U64i sg) (h1 : len rs ≤ 100000) (h2 : ∀ r ∈ rs, RvBd r) (h3 : len cs ≤ 100000) (h4 : ∀ n ∈ cs, U64i n) (h5 : len sp ≤ 100000) (h6 : len pp ≤ 100000) : CertFit root sg rs cs sp pp :=
  fit_of ⟨by rw [hr]; decide, hg, h1, fun i hi => by rw [lth_eq _ i hi]; exact h2 _ (List.getElem_mem hi), h3, fun i hi => by rw [nth_eq _ i hi]; exact h4 _ (List.getElem_mem hi), h5, h6⟩
theorem strs_rep {C : CP} {a : Option Addr} {n m : Nat} {x : ByteArray} (h : StrsC C a (List.replicate n x)) (hm : m ≤ n) : StrsC C a (List.replicate m x) := fun i hi => by
  have hi1 : i < m := by simpa [len] using hi
  obtain ⟨b, off, e, hc⟩ := h i (by simp [len]; omega)
  refine ⟨b, off, e, ?_⟩
  rw [sth_eq _ i (by simpa using hi1), List.getElem_replicate]
  rw [sth_eq _ i (by simp; omega), List.getElem_replicate] at hc
  exact hc
theorem own_cap {w : World} {base e size n m c : Nat} {a : Option Addr} {xs : List Value} (h : w.ownsRow base e size (.slice a m c) n xs) : n ≤ c := by
  rcases h.2 with ⟨_, h0⟩ | ⟨g, cap, cur, hv, _, _, hc, _⟩
  · omega
  · cases hv; exact hc
set_option maxRecDepth 100000 in
theorem slice_to7s {n c k : Nat} (b0 : Option Addr) (hk : k ≤ c) (W : World) : (Instr.slice 26 (.slice b0 n c) none (some (.int .i64 (k : Int))) none).run Tryz.prog W = .ok (.slice b0 k c) W := by
  have hsz : (sizeOf (Tryz.prog.elem 26)).run Tryz.prog W = .ok 1 W := by kernel_rfl
  rw [run_slice_h (P := Tryz.prog) W 26 b0 n c Tryz.underlying26 .i64 (k : Int) (by omega) (by omega), hsz]
  simp only [Result.andThen, sliced, Int.toNat_natCast, Nat.sub_zero, Nat.zero_mul]
  have e : (b0.map (·.add 0)) = b0 := by cases b0 <;> simp [Addr.add]
  rw [e]
  split <;> rfl
def zu (n : Nat) : Array Value := madeCells (Value.int .u64 0).cells (n * 1)
theorem make_zu (k : Nat) (hk : k ≤ 641) (W : World) : (Instr.makeSlice 25 (.int .i64 (k : Int)) (.int .i64 (k : Int))).run Tryz.prog W = .ok (.slice (some ⟨W.heap.size, 0, none⟩) k k) (W.alloc (.cells (zu k) 23)) := by
  obtain ⟨i0, hi, hz0, hz1, hz2⟩ := info_parts info_u64
  have hr := run_make (P := Tryz.prog) W 25 23 i0 (.int .u64 0) Tryz.underlying25 hi hz0 .i64 .i64 k k (by omega) (Int.le_refl _) (by rw [hz2]; omega) (by omega)
  rw [hr, hz1]; rfl
theorem nms_zu (k : Nat) (W : World) (b : Nat) {t : TypeId} {fr : Nat × Nat} (h : W.heap[b]? = some (.cells (zu k) t fr)) : NmsC (CW W) (some ⟨b, 0, none⟩) (List.replicate k 0) := fun i hi => by
  have hi' : i < k := by simpa [len] using hi
  refine ⟨b, 0, rfl, ?_⟩
  show W.cell? ⟨b, 0 + i, none⟩ = _
  rw [block_cell h]
  have e : (zu k)[0 + i]? = some (.int .u64 0) := by
    have := toList_madeCells_one (.int .u64 0) (k * 1)
    have h2 : (zu k).toList[0 + i]? = some (.int .u64 0) := by
      show (madeCells #[.int .u64 0] (k * 1)).toList[0 + i]? = _
      rw [this, List.getElem?_replicate]; simp; omega
    simpa using h2
  rw [e]
  unfold nth
  rw [List.getD_eq_getElem?_getD, List.getElem?_replicate, if_pos hi']; rfl
theorem zero_u64 (n : Int) (k : Nat) (h : n ∈ List.replicate k (0 : Int)) : U64i n := by
  rw [(List.mem_replicate.1 h).2]; exact ⟨by decide, by decide⟩
theorem rvs_nil (C : CP) (a : Option Addr) : RvsC C a [] := fun i hi => absurd hi (by simp [len])
theorem nms_nil (C : CP) (a : Option Addr) : NmsC C a [] := fun i hi => absurd hi (by simp [len])
theorem cells_zero7 (f : Flt) (a2 : Option Addr) (c2 : Nat) (a3 : Option Addr) (c3 : Nat) (a4 : Option Addr) (c4 : Nat) (a5 : Option Addr) (c5 : Nat) : cellsCert (recV (Except.error f) cert0) a2 c2 a3 c3 a4 c4 a5 c5 = #[.string ⟨#[]⟩, .int .u64 0, .slice a2 0 c2, .slice a3 0 c3, .slice a4 0 c4, .slice a5 0 c5] := rfl
set_option maxRecDepth 100000 in
set_option maxHeartbeats 8000000 in
theorem known7_law (B : Nat) (w : World) (h : TE7 B w) : Calls Tryz.prog 12 #[] w fun e w' => e = .returned (.bool true) ∧ Below w.heap.size w w' := by
  have HE := Lib.hid h
  clear h
  go_enter Tryz.func12, Tryz.ntmps12
  go_wp2_with fail
  refine (full_c 97 w).mono ?_
  rintro e w1 ⟨rfl, hb⟩
  have HB := Lib.hid hb
  have HE := Lib.hid (HE.out.below hb)
  clear hb
  go_wp2_with fail
  refine (full_c 98 w1).mono ?_
  rintro e w2 ⟨rfl, hb⟩
  have HB := Lib.hid (bnext HB.out hb)
  have HE := Lib.hid (HE.out.below hb)
  clear hb
  go_wp2_with fail
  refine (full_c 99 w2).mono ?_
  rintro e w3 ⟨rfl, hb⟩
  have HB := Lib.hid (bnext HB.out hb)
  have HE := Lib.hid (HE.out.below hb)
  clear hb
  go_upto_region 3 with fail
  obtain ⟨dA, hdA⟩ : ∃ x, (⟨#[196, 32]⟩ : ByteArray) ++ fullC 97 = x := ⟨_, rfl⟩
  obtain ⟨dB, hdB⟩ : ∃ x, (⟨#[196, 32]⟩ : ByteArray) ++ fullC 98 = x := ⟨_, rfl⟩
  obtain ⟨dC, hdC⟩ : ∃ x, (⟨#[196, 32]⟩ : ByteArray) ++ fullC 99 = x := ⟨_, rfl⟩
  rw [hdA, hdB, hdC]
  have HdA : Hid (kd kA = dA) := Lib.hid hdA
  have HdB : Hid (kd kB = dB) := Lib.hid hdB
  have HdC : Hid (kd kC = dC) := Lib.hid hdC
  clear hdA hdB hdC
  obtain ⟨A, hA⟩ : ∃ x, fullC 97 = x := ⟨_, rfl⟩
  obtain ⟨Bb, hBb⟩ : ∃ x, fullC 98 = x := ⟨_, rfl⟩
  obtain ⟨C, hC⟩ : ∃ x, fullC 99 = x := ⟨_, rfl⟩
  rw [hA, hBb, hC]
  have HA : Hid (kA = A) := Lib.hid hA
  have HBb : Hid (kB = Bb) := Lib.hid hBb
  have HC : Hid (kC = C) := Lib.hid hC
  clear hA hBb hC
  go_upto_region 4 with fail
  obtain ⟨ba, hba⟩ : ∃ x, w3.heap.size = x := ⟨_, rfl⟩
  obtain ⟨bb, hbb⟩ : ∃ x, ba + 1 = x := ⟨_, rfl⟩
  obtain ⟨bg, hbg⟩ : ∃ x, bb + 1 = x := ⟨_, rfl⟩
  simp only [hba, hbb, hbg]
  obtain ⟨V, hV⟩ : ∃ V, ((w3.alloc (.cells #[.string A] 9)).alloc (.cells #[.string Bb, .string C] 9)).alloc (.cells #[.int .u64 7, .slice (some ⟨ba, 0, none⟩) 1 1, .slice (some ⟨bb, 0, none⟩) 2 2] 42) = V := ⟨_, rfl⟩
  have hb : Below w3.heap.size w3 V := by rw [← hV]; exact balloc (balloc (balloc (Below.refl _ _) _) _) _
  have HSA : Hid (StrsC (CW V) (some ⟨ba, 0, none⟩) [A]) := Lib.hid (strs_blk (t := 9) (fr := (0, 0)) (by rw [← hV, ← hba]; exact block_alloc (block_alloc (heap_alloc_new _ _) _) _))
  have HSB : Hid (StrsC (CW V) (some ⟨bb, 0, none⟩) [Bb, C]) := Lib.hid (strs_blk (t := 9) (fr := (0, 0)) (by rw [← hV, ← hbb, ← hba]; exact block_alloc (alloc_new_at _ (by simp)) _))
  have HG : Hid (V.heap[bg]? = some (.cells #[.int .u64 7, .slice (some ⟨ba, 0, none⟩) 1 1, .slice (some ⟨bb, 0, none⟩) 2 2] 42 (0, 0))) := Lib.hid (by rw [← hV, ← hbg, ← hbb, ← hba]; exact alloc_new_at _ (by simp))
  have HB := Lib.hid (bnext HB.out hb)
  have HE := Lib.hid (HE.out.below hb)
  rw [hV]
  clear hV hb hba hbb hbg
  have cG : ∀ o, V.cell? ⟨bg, o, none⟩ = _ := block_cell HG.out
  go_wp2_with fail
  refine (slot_now B 1 true 7 [A] [Bb, C] (some ⟨ba, 0, none⟩) (some ⟨bb, 0, none⟩) 1 2 V HE.out HSA.out HSB.out ⟨by decide, by decide⟩ ⟨by decide, by decide⟩ (show 1 ≤ 100000 by decide) (show 2 ≤ 100000 by decide)).mono ?_
  rintro e w4 hh
  obtain ⟨S1, hS1⟩ : ∃ S, layP (slotSpecs 1 true 7 [A] [Bb, C]) = S := ⟨_, rfl⟩
  obtain ⟨rfl, hb⟩ := laid_yes (by rw [← HA.out, ← HBb.out, ← HC.out]; exact kw_mayS1) hS1 hh
  have HS1 : Hid (layP (slotSpecs 1 true 7 [kA] [kB, kC]) = S1) := Lib.hid (by rw [HA.out, HBb.out, HC.out]; exact hS1)
  have HB := Lib.hid (bnext HB.out hb)
  have HE := Lib.hid (HE.out.below hb)
  clear hb hh cG HG HSA HSB hS1
  have zA : dA.size = 34 := by rw [← HdA.out]; rfl
  have zB : dB.size = 34 := by rw [← HdB.out]; rfl
  have zC : dC.size = 34 := by rw [← HdC.out]; rfl
  go_upto_region 6 with fail
  obtain ⟨sg, hsg⟩ : ∃ x, (((((⟨#[161, 103, 131, 161, 105, 7, 161, 112, 146]⟩ : ByteArray) ++ dB) ++ dC) ++ ⟨#[161, 118, 145]⟩) ++ dA) = x := ⟨_, rfl⟩
  rw [hsg]
  have HSG : Hid (ksig = sg) := Lib.hid (by unfold ksig; rw [HdA.out, HdB.out, HdC.out]; exact hsg)
  clear hsg
  go_wp2_with fail
  refine (wmsg2_any B A Bb 3 4 1 2 w4 HE.out.p (by rw [← HA.out, fullC_size]; decide) (by rw [← HBb.out, fullC_size]; decide) ⟨by decide, by decide⟩ ⟨by decide, by decide⟩ ⟨by decide, by decide⟩ ⟨by decide, by decide⟩ (fun h => Nat.le_trans (msgSz h) (by decide))).mono ?_
  rintro e w5 hh
  obtain ⟨SM, hSM⟩ : ∃ S, layP (msgSpecs A Bb 3 4 1 2) = S := ⟨_, rfl⟩
  obtain ⟨rfl, hb⟩ := laid_yes (by rw [← HA.out, ← HBb.out]; exact kw_mayM) hSM hh
  have HSM : Hid (layP (msgSpecs kA kB 3 4 1 2) = SM) := Lib.hid (by rw [HA.out, HBb.out]; exact hSM)
  have HB := Lib.hid (bnext HB.out hb)
  have HE := Lib.hid (HE.out.below hb)
  clear hb hh hSM
  go_wp2_with fail
  refine (wheader2_any B 9 A Bb C w5 HE.out.p ⟨by decide, by decide⟩ (by rw [← HA.out, fullC_size]; decide) (by rw [← HBb.out, fullC_size]; decide) (by rw [← HC.out, fullC_size]; decide) (fun h => Nat.le_trans (headerSz h) (by decide))).mono ?_
  rintro e w6 hh
  obtain ⟨SH, hSH⟩ : ∃ S, layP (headerSpecs 9 A Bb C) = S := ⟨_, rfl⟩
  obtain ⟨rfl, hb⟩ := laid_yes (by rw [← HA.out, ← HBb.out, ← HC.out]; exact kw_mayH) hSH hh
  have HSH : Hid (layP (headerSpecs 9 kA kB kC) = SH) := Lib.hid (by rw [HA.out, HBb.out, HC.out]; exact hSH)
  have HB := Lib.hid (bnext HB.out hb)
  have HE := Lib.hid (HE.out.below hb)
  clear hb hh hSH
  go_upto_region 9 with fail
  obtain ⟨pt, hpt⟩ : ∃ x, ((⟨#[130, 161, 114]⟩ : ByteArray) ++ dA) ++ ⟨#[161, 119, 5]⟩ = x := ⟨_, rfl⟩
  rw [hpt]
  have HPT : Hid (kpart = pt) := Lib.hid (by unfold kpart; rw [HdA.out]; exact hpt)
  clear hpt
  go_wp2_with fail
  obtain ⟨d0, hd0⟩ : ∃ x, w6.heap.size = x := ⟨_, rfl⟩
  obtain ⟨d1, hd1⟩ : ∃ x, d0 + 1 = x := ⟨_, rfl⟩
  obtain ⟨d2, hd2⟩ : ∃ x, d1 + 1 = x := ⟨_, rfl⟩
  obtain ⟨d3, hd3⟩ : ∃ x, d2 + 1 = x := ⟨_, rfl⟩
  simp only [hd0, hd1, hd2, hd3]
  obtain ⟨V, hV⟩ : ∃ V, (((w6.alloc (.cells #[.int .u64 0, .int .u64 1] 23)).alloc (.cells #[.string A] 9)).alloc (.cells #[.string Bb] 9)).alloc (.cells #[.int .u64 0, .int .u64 0, .bool false, .int .u64 0, .slice none 0 0, .slice none 0 0, .string A, .int .u64 5, .int .u64 0, .int .u64 0, .int .u64 0, .int .u64 1, .int .u64 5, .bool false, .int .u64 0, .slice none 0 0, .slice none 0 0, .string A, .int .u64 5, .int .u64 0, .int .u64 0, .int .u64 0] 48) = V := ⟨_, rfl⟩
  have hb : Below w6.heap.size w6 V := by rw [← hV]; exact balloc (balloc (balloc (balloc (Below.refl _ _) _) _) _) _
  have HQ0 : Hid (NmsC (CW V) (some ⟨d0, 0, none⟩) [0, 1]) := Lib.hid (nums_blk (t := 23) (fr := (0, 0)) (by rw [← hV, ← hd0]; exact block_alloc (block_alloc (block_alloc (heap_alloc_new _ _) _) _) _))
  have HQ1 : Hid (StrsC (CW V) (some ⟨d1, 0, none⟩) [A]) := Lib.hid (strs_blk (t := 9) (fr := (0, 0)) (by rw [← hV, ← hd1, ← hd0]; exact block_alloc (block_alloc (alloc_new_at _ (by simp)) _) _))
  have HQ2 : Hid (StrsC (CW V) (some ⟨d2, 0, none⟩) [Bb]) := Lib.hid (strs_blk (t := 9) (fr := (0, 0)) (by rw [← hV, ← hd2, ← hd1, ← hd0]; exact block_alloc (alloc_new_at _ (by simp)) _))
  have HQ3 : Hid (RvsC (CW V) (some ⟨d3, 0, none⟩) [kr1, kr2]) := Lib.hid (by
    have hA' := HA.out
    subst hA'
    have hq : V.heap[d3]? = some (.cells (rvCells kr1 ++ rvCells kr2).toArray 48 (0, 0)) := by rw [← hV, ← hd3, ← hd2, ← hd1, ← hd0]; exact alloc_new_at _ (by simp)
    intro i hi
    refine ⟨d3, 0, rfl, ?_⟩
    match i, hi with
    | 0, _ => exact rev_blk hq rfl rfl (fun j hj => by match j, hj with | 0, _ | 1, _ | 2, _ | 3, _ | 4, _ | 5, _ | 6, _ | 7, _ | 8, _ | 9, _ | 10, _ => rfl)
    | 1, _ => exact rev_blk hq rfl rfl (fun j hj => by match j, hj with | 0, _ | 1, _ | 2, _ | 3, _ | 4, _ | 5, _ | 6, _ | 7, _ | 8, _ | 9, _ | 10, _ => rfl)
    | i + 2, hi => exact absurd hi (by simp [len]))
  have HB := Lib.hid (bnext HB.out hb)
  have HE := Lib.hid (HE.out.below hb)
  rw [hV]
  clear hV hb hd0 hd1 hd2 hd3
  refine (wcert_now B (kfit (root := C) (sg := 6) (rs := [kr1, kr2]) (cs := [0, 1]) (sp := [A]) (pp := [Bb]) (by rw [← HC.out]; rfl) ⟨by decide, by decide⟩ (show 2 ≤ 100000 by decide) (fun r hr => by
      simp only [List.mem_cons, List.not_mem_nil, or_false] at hr
      rcases hr with rfl | rfl
      · exact kr1_bd
      · exact kr2_bd) (show 2 ≤ 100000 by decide) (fun n hn => by
      simp only [List.mem_cons, List.not_mem_nil, or_false] at hn
      rcases hn with rfl | rfl
      · exact ⟨by decide, by decide⟩
      · exact ⟨by decide, by decide⟩) (show 1 ≤ 100000 by decide) (show 1 ≤ 100000 by decide)) (some ⟨d3, 0, none⟩) (some ⟨d0, 0, none⟩) (some ⟨d1, 0, none⟩) (some ⟨d2, 0, none⟩) 2 2 1 1 V HE.out HQ3.out HQ0.out HQ1.out HQ2.out).mono ?_
  rintro e w7 hh
  obtain ⟨hh, hb⟩ := hh.both
  obtain ⟨SK, hSK⟩ : ∃ S, TextOf (certSpecs C 6 [kr1, kr2] [0, 1] [A] [Bb]) = S := ⟨_, rfl⟩
  rw [hSK, codeOf_yes (by rw [← HA.out, ← HBb.out, ← HC.out]; exact kw_mayK)] at hh
  subst hh
  have HSK : Hid (layP (certSpecs kC 6 [kr1, kr2] [0, 1] [kA] [kB]) = SK) := Lib.hid (by rw [← textOf_yes kw_mayK, HA.out, HBb.out, HC.out]; exact hSK)
  have HB := Lib.hid (bnext HB.out hb)
  have HE := Lib.hid (HE.out.below hb)
  clear hb hSK HQ0 HQ1 HQ2 HQ3
  have zP : pt.size = 40 := by rw [← HPT.out]; rfl
  go_upto_region 11 with fail
  obtain ⟨wt, hwt⟩ : ∃ x, ((((((((((((⟨#[134, 161, 80, 145]⟩ : ByteArray) ++ dB) ++ ⟨#[161, 83, 145]⟩) ++ dA) ++ ⟨#[161, 99]⟩) ++ dC) ++ ⟨#[161, 112, 146, 0, 1, 161, 114, 146, 129, 161, 113]⟩) ++ pt) ++ ⟨#[131, 161, 112, 1, 161, 113]⟩) ++ pt) ++ ⟨#[161, 115, 129, 161, 108, 5, 161, 119, 6]⟩)) = x := ⟨_, rfl⟩
  rw [hwt]
  have HWT : Hid (kwant = wt) := Lib.hid (by unfold kwant; rw [HdA.out, HdB.out, HdC.out, HPT.out]; exact hwt)
  clear hwt
  have zS : sg.size = 114 := by rw [← HSG.out]; rfl
  have s1 : (S1.toList == ((((⟨#[131]⟩ : ByteArray) ++ sg) ++ ⟨#[161, 108, 1, 161, 115, 1]⟩)).toList) = true := by rw [← HS1.out, ← HSG.out]; exact kw_sameS1
  have s2 : (SM.toList == (((((⟨#[134, 161, 102, 1, 161, 104]⟩ : ByteArray) ++ dA) ++ ⟨#[161, 108, 2, 161, 110, 3, 161, 118]⟩) ++ dB) ++ ⟨#[161, 119, 4]⟩).toList) = true := by rw [← HSM.out, ← HdA.out, ← HdB.out]; exact kw_sameM
  have s3 : (SH.toList == (((((⟨#[132, 161, 112]⟩ : ByteArray) ++ dA) ++ ⟨#[161, 114, 9, 161, 115]⟩) ++ dC ++ ⟨#[161, 116]⟩) ++ dB).toList) = true := by rw [← HSH.out, ← HdA.out, ← HdB.out, ← HdC.out]; exact kw_sameH
  have s4 : (SK.toList == wt.toList) = true := by rw [← HSK.out, ← HWT.out]; exact kw_sameK
  go_upto_region 14 with fail
  clear s1 s2 s3 s4 zS zP zA zB zC
  obtain ⟨i0, hi, hz0, hz1, hz2⟩ := info_parts info_str
  have HZ := Lib.hid hz0
  go_upto_region 15 with fail
  go_loopg [19, 20, 21] 68 (fun g pv wv i wr => ∃ n : Nat, g + n = 68 ∧ i = .int .i64 n ∧ Hid (Below w7.heap.size w7 wr) ∧ Hid (wr.ownsRow w7.heap.size 9 1 wv n (List.replicate n (.string A))) ∧ Hid (wr.ownsRow w7.heap.size 9 1 pv (min n 17) (List.replicate (min n 17) (.string A))) ∧ Hid (∀ k, pv.ownBlock = some k → wv.ownBlock ≠ some k))
  case atStart => exact ⟨0, rfl, rfl, Below.refl _ _, World.ownsRow_nil _ _ _ _, World.ownsRow_nil _ _ _ _, fun k hk => by cases hk⟩
  case round =>
    obtain ⟨n, hg, rfl, HD, HV, HU, HN⟩ := hrel
    by_cases hlt : n < 68
    · have b0 : (n : Int) < 68 := by omega
      go_wp2_with (at_builtin; refine wpList_append_own_at _ rfl _ _ 26 rfl w7.heap.size 9 i0 (.string ⟨#[]⟩) 1 16 Tryz.underlying26 hi HZ.out hz1 hz2 rfl (by decide) _ _ _ rfl (HV.out.alloc _) ⟨wr.heap.size, 0, none⟩ 1 1 [.string A] rfl rfl (cell_one_new _ _ _) (by simp [Value.oneCell']) (by unfold maxLen; omega) (by omega) (by have := HD.out.size; simp; omega) ?_)
      intro v' x2 hown' hgrow _ hat
      have HD2 : Hid (Below w7.heap.size w7 x2) := Lib.hid (grownBy_below (balloc HD.out _) hgrow (fun k hk => (HV.out.lt k hk).1))
      have HV2 : Hid (x2.ownsRow w7.heap.size 9 1 v' (n + 1) (List.replicate (n + 1) (.string A))) := Lib.hid (by
        rw [List.replicate_succ']; exact hown')
      have HU2 := Lib.hid ((HU.out.alloc (.cells #[.string A] 9)).kept hgrow (by
        cases hp : Value.ownBlock _ with
        | none => exact .inl rfl
        | some k => exact .inr (fun e => HN.out k hp e.symm)))
      have HN2 : Hid (∀ k, Value.ownBlock _ = some k → v'.ownBlock ≠ some k) := Lib.hid (fun k hk e => by
        rcases hat with h | h
        · exact HN.out k hk (h.symm.trans e)
        · rw [h] at e
          have := (HU.out.lt k hk).2
          cases e
          exact Nat.lt_irrefl _ (Nat.lt_of_lt_of_le this (by simp)))
      clear hown' hgrow hat HD HV HU HN
      by_cases hs : n < 17
      · have b1 : (n : Int) < 17 := by omega
        go_wp2_with (at_builtin; refine wpList_append_own_at _ rfl _ _ 26 rfl w7.heap.size 9 i0 (.string ⟨#[]⟩) 1 16 Tryz.underlying26 hi HZ.out hz1 hz2 rfl (by decide) _ _ _ rfl (HU2.out.alloc _) ⟨x2.heap.size, 0, none⟩ 1 1 [.string A] rfl rfl (cell_one_new _ _ _) (by simp [Value.oneCell']) (by unfold maxLen; omega) (by omega) (by have := HD2.out.size; simp; omega) ?_)
        intro u' x3 hown' hgrow _ hat
        have HD3 : Hid (Below w7.heap.size w7 x3) := Lib.hid (grownBy_below (balloc HD2.out _) hgrow (fun k hk => (HU2.out.lt k hk).1))
        have hmn : min (n + 1) 17 = min n 17 + 1 := by omega
        have HU3 : Hid (x3.ownsRow w7.heap.size 9 1 u' (min (n + 1) 17) (List.replicate (min (n + 1) 17) (.string A))) := Lib.hid (by
          rw [hmn, List.replicate_succ']; exact hown')
        have HV3 := Lib.hid ((HV2.out.alloc (.cells #[.string A] 9)).kept hgrow (by
          cases hp : Value.ownBlock v' with
          | none => exact .inl rfl
          | some k => exact .inr (fun e => HN2.out k e.symm hp)))
        have HN3 : Hid (∀ k, u'.ownBlock = some k → v'.ownBlock ≠ some k) := Lib.hid (fun k hk e => by
          rcases hat with h | h
          · exact HN2.out k (h.symm.trans hk) e
          · rw [h] at hk
            have := (HV2.out.lt k e).2
            cases hk
            exact Nat.lt_irrefl _ (Nat.lt_of_lt_of_le this (by simp)))
        clear hown' hgrow hat HD2 HV2 HU2 HN2 hmn
        go_wp2
        go_roundg (68 - (n + 1))
        case rel => exact ⟨n + 1, by omega, by go_num, HD3, HV3, HU3, HN3⟩
        case measure => omega
      · have b1 : ¬ (n : Int) < 17 := by omega
        have hmn : min (n + 1) 17 = min n 17 := by omega
        have HU3 : Hid (x2.ownsRow w7.heap.size 9 1 _ (min (n + 1) 17) (List.replicate (min (n + 1) 17) (.string A))) := Lib.hid (by rw [hmn]; exact HU2.out)
        clear HU2 hmn
        go_wp2
        go_roundg (68 - (n + 1))
        case rel => exact ⟨n + 1, by omega, by go_num, HD2, HV2, HU3, HN2⟩
        case measure => omega
    · obtain rfl : n = 68 := by omega
      have HB := Lib.hid (bnext HB.out HD.out)
      have HE := Lib.hid (HE.out.below HD.out)
      have HV : Hid (wr.ownsRow w7.heap.size 9 1 _ 68 ((List.replicate 68 A).map Value.string)) := Lib.hid (by rw [List.map_replicate]; exact HV.out)
      have HU : Hid (wr.ownsRow w7.heap.size 9 1 _ 17 ((List.replicate 17 A).map Value.string)) := Lib.hid (by rw [List.map_replicate]; exact HU.out)
      obtain ⟨qv, rv, hv, sv, _⟩ := strs_of_own HV.out
      obtain ⟨qu, ru, hu, su, _⟩ := strs_of_own HU.out
      have HSV : Hid (StrsC (CW wr) qv (List.replicate 68 A)) := Lib.hid (sv.imp fun _ _ _ h => h.cw)
      have HSU : Hid (StrsC (CW wr) qu (List.replicate 17 A)) := Lib.hid (su.imp fun _ _ _ h => h.cw)
      subst hv hu
      have hcv : 68 ≤ rv := own_cap HV.out
      have hcu : 17 ≤ ru := own_cap HU.out
      have sl1 : ∀ W, (Instr.slice 26 (.slice qv 68 rv) none (some (.int .i64 67)) none).run Tryz.prog W = .ok (.slice qv 67 rv) W := fun W => slice_to7s (k := 67) qv (by omega) W
      have sl2 : ∀ W, (Instr.slice 26 (.slice qu 17 ru) none (some (.int .i64 16)) none).run Tryz.prog W = .ok (.slice qu 16 ru) W := fun W => slice_to7s (k := 16) qu (by omega) W
      rw [show len (List.replicate 68 A) = 68 from rfl, show len (List.replicate 17 A) = 17 from rfl]
      clear HD HN HV HU sv su hcv hcu HZ hg hlt
      go_wp2_with fail
      refine (slot_now B 0 false 0 (List.replicate 68 A) [] qv none rv 0 wr HE.out HSV.out (strsC_nil _ _) ⟨by decide, by decide⟩ ⟨by decide, by decide⟩ (show 68 ≤ 100000 by decide) (show 0 ≤ 100000 by decide)).mono ?_
      rintro e x1 hh
      obtain ⟨rfl, hb⟩ := laid_no (by rw [← HA.out]; exact kw_mayn) hh
      have HB := Lib.hid (bnext HB.out hb)
      have HE := Lib.hid (HE.out.below hb)
      have HSV := Lib.hid (HSV.out.low hb)
      have HSU := Lib.hid (HSU.out.low hb)
      clear hb hh
      go_wp2_with fail
      refine (slot_now B 0 false 0 [] (List.replicate 17 A) none qu 0 ru x1 HE.out (strsC_nil _ _) HSU.out ⟨by decide, by decide⟩ ⟨by decide, by decide⟩ (show 0 ≤ 100000 by decide) (show 17 ≤ 100000 by decide)).mono ?_
      rintro e x2 hh
      obtain ⟨rfl, hb⟩ := laid_no (by rw [← HA.out]; exact kw_mayo) hh
      have HB := Lib.hid (bnext HB.out hb)
      have HE := Lib.hid (HE.out.below hb)
      have HSV := Lib.hid (HSV.out.low hb)
      have HSU := Lib.hid (HSU.out.low hb)
      clear hb hh
      obtain ⟨SP, hSP⟩ : ∃ S, layP (slotSpecs 0 false 0 (List.replicate 67 A) (List.replicate 16 A)) = S := ⟨_, rfl⟩
      have HPC : Hid (∀ wv, Below x2.heap.size x2 wv → Calls Tryz.prog 24 #[.agg #[.int .u64 0, .bool false, .int .u64 0, .slice qv 67 rv, .slice qu 16 ru]] wv fun e w' => e = .returned (.tuple #[.string SP, .int .i64 0]) ∧ Below wv.heap.size wv w') := Lib.hid (fun wv hb => (slot_now B 0 false 0 (List.replicate 67 A) (List.replicate 16 A) qv qu rv ru wv (HE.out.below hb) (strs_rep (HSV.out.low hb) (by decide)) (strs_rep (HSU.out.low hb) (by decide)) ⟨by decide, by decide⟩ ⟨by decide, by decide⟩ (show 67 ≤ 100000 by decide) (show 16 ≤ 100000 by decide)).mono (fun e w' hh => laid_yes (by rw [← HA.out]; exact kw_mayp) hSP hh))
      clear hSP
      go_upto_region 22 with fail
      obtain ⟨W, hW⟩ : ∃ W, x2 = W := ⟨_, rfl⟩
      rw [hW] at HB HE HPC ⊢
      clear hW HSV HSU
      refine wp_region_all 1000 (none) (phis [fun u _ => u = (.slice qv 68 rv), fun u _ => u = (.slice qv 67 rv), fun u _ => u = (.slice qu 17 ru), fun u _ => u = (.slice qu 16 ru), fun u _ => u = (.agg #[.int .u64 0, .slice qv 67 rv, .slice qu 16 ru]), fun u _ => u = (.agg #[.int .u64 0, .bool false, .int .u64 0, .slice qv 67 rv, .slice qu 16 ru]), fun u _ => u = (.tuple #[.string SP, .int .i64 0]), fun u _ => u = (.tuple #[.string SP, .int .i64 0]), fun u _ => u = (.string SP), fun u _ => u = (.int .i64 0), fun u _ => u = (.string SP), fun u _ => u = (.int .i64 0)]) rfl (by kernel_rfl) (mono_of ⟨mono_eq, mono_eq, mono_eq, mono_eq, mono_eq, mono_eq, mono_eq, mono_eq, mono_eq, mono_eq, mono_eq, mono_eq, trivial⟩) (steps_of 12 ⟨?s0, ?s1, ?s2, ?s3, ?s4, ?s5, ?s6, ?s7, ?s8, ?s9, ?s10, ?s11, trivial⟩) ?_
      case s0 =>
        refine step_val (v := (.slice qv 68 rv)) (fun av wv hE hS hO hD => ?_) (fun _ => rfl)
        have h20 : av.eval (.tmp 20) = (.slice qv 68 rv) := hO.2.2 20 rfl
        have f20 := (ev_form av 20).symm.trans h20
        refine ⟨rfl, ?_⟩
        simp [go_sem, f20, sl1, sl2]
      case s1 =>
        refine step_val (v := (.slice qv 67 rv)) (fun av wv hE hS hO hD => ?_) (fun _ => rfl)
        have d207 : av.eval (.tmp 207) = (.slice qv 68 rv) := hD.1 rfl _ rfl
        have f207 := (ev_form av 207).symm.trans d207
        refine ⟨rfl, ?_⟩
        simp [go_sem, f207, sl1, sl2]
      case s2 =>
        refine step_val (v := (.slice qu 17 ru)) (fun av wv hE hS hO hD => ?_) (fun _ => rfl)
        have h19 : av.eval (.tmp 19) = (.slice qu 17 ru) := hO.2.2 19 rfl
        have f19 := (ev_form av 19).symm.trans h19
        refine ⟨rfl, ?_⟩
        simp [go_sem, f19, sl1, sl2]
      case s3 =>
        refine step_val (v := (.slice qu 16 ru)) (fun av wv hE hS hO hD => ?_) (fun _ => rfl)
        have d209 : av.eval (.tmp 209) = (.slice qu 17 ru) := hD.1 rfl _ rfl
        have f209 := (ev_form av 209).symm.trans d209
        refine ⟨rfl, ?_⟩
        simp [go_sem, f209, sl1, sl2]
      case s4 =>
        refine step_val (v := (.agg #[.int .u64 0, .slice qv 67 rv, .slice qu 16 ru])) (fun av wv hE hS hO hD => ?_) (fun _ => rfl)
        have d208 : av.eval (.tmp 208) = (.slice qv 67 rv) := hD.1 rfl _ rfl
        have f208 := (ev_form av 208).symm.trans d208
        have d210 : av.eval (.tmp 210) = (.slice qu 16 ru) := hD.2.1 rfl _ rfl
        have f210 := (ev_form av 210).symm.trans d210
        refine ⟨rfl, ?_⟩
        simp [go_sem, f208, f210, sl1, sl2]
      case s5 =>
        refine step_val (v := (.agg #[.int .u64 0, .bool false, .int .u64 0, .slice qv 67 rv, .slice qu 16 ru])) (fun av wv hE hS hO hD => ?_) (fun _ => rfl)
        have d211 : av.eval (.tmp 211) = (.agg #[.int .u64 0, .slice qv 67 rv, .slice qu 16 ru]) := hD.1 rfl _ rfl
        have f211 := (ev_form av 211).symm.trans d211
        refine ⟨rfl, ?_⟩
        simp [go_sem, f211, sl1, sl2]
      case s6 =>
        refine step_wp (fun av wv hE hS hO hD => ?_)
        have d212 : av.eval (.tmp 212) = (.agg #[.int .u64 0, .bool false, .int .u64 0, .slice qv 67 rv, .slice qu 16 ru]) := hD.1 rfl _ rfl
        have f212 := (ev_form av 212).symm.trans d212
        refine ⟨rfl, ?_⟩
        refine wp_of_call (v := .tuple #[.string SP, .int .i64 0]) (by simp [go_sem, f212]) (HPC.out wv (of_drew hE)) (fun w2 hb => ⟨_, rfl, es_of_ext hb, rfl⟩)
      case s7 =>
        refine step_val (v := (.tuple #[.string SP, .int .i64 0])) (fun av wv hE hS hO hD => ?_) (fun _ => rfl)
        have d213 : av.eval (.tmp 213) = (.tuple #[.string SP, .int .i64 0]) := hD.1 rfl _ rfl
        have f213 := (ev_form av 213).symm.trans d213
        refine ⟨rfl, ?_⟩
        simp [go_sem, f213, sl1, sl2]
      case s8 =>
        refine step_val (v := (.string SP)) (fun av wv hE hS hO hD => ?_) (fun _ => rfl)
        have d206 : av.eval (.tmp 206) = (.tuple #[.string SP, .int .i64 0]) := hD.1 rfl _ rfl
        have f206 := (ev_form av 206).symm.trans d206
        refine ⟨rfl, ?_⟩
        simp [go_sem, f206, sl1, sl2]
      case s9 =>
        refine step_val (v := (.int .i64 0)) (fun av wv hE hS hO hD => ?_) (fun _ => rfl)
        have d206 : av.eval (.tmp 206) = (.tuple #[.string SP, .int .i64 0]) := hD.1 rfl _ rfl
        have f206 := (ev_form av 206).symm.trans d206
        refine ⟨rfl, ?_⟩
        simp [go_sem, f206, sl1, sl2]
      case s10 =>
        refine step_val (v := (.string SP)) (fun av wv hE hS hO hD => ?_) (fun _ => rfl)
        have d214 : av.eval (.tmp 214) = (.string SP) := hD.1 rfl _ rfl
        have f214 := (ev_form av 214).symm.trans d214
        refine ⟨rfl, ?_⟩
        simp [go_sem, f214, sl1, sl2]
      case s11 =>
        refine step_val (v := (.int .i64 0)) (fun av wv hE hS hO hD => ?_) (fun _ => rfl)
        have d215 : av.eval (.tmp 215) = (.int .i64 0) := hD.1 rfl _ rfl
        have f215 := (ev_form av 215).symm.trans d215
        refine ⟨rfl, ?_⟩
        simp [go_sem, f215, sl1, sl2]
      intro a' w' hE hO hall
      have hA := act_of_outer (ds := [207, 208, 209, 210, 211, 212, 213, 206, 214, 215, 26, 27]) rfl hO (by kernel_rfl)
      have e207 : (fun u _ => u = (.slice qv 68 rv)) (a'.eval (.tmp 207)) w' := hall.1 _ rfl
      have e208 : (fun u _ => u = (.slice qv 67 rv)) (a'.eval (.tmp 208)) w' := hall.2.1 _ rfl
      have e209 : (fun u _ => u = (.slice qu 17 ru)) (a'.eval (.tmp 209)) w' := hall.2.2.1 _ rfl
      have e210 : (fun u _ => u = (.slice qu 16 ru)) (a'.eval (.tmp 210)) w' := hall.2.2.2.1 _ rfl
      have e211 : (fun u _ => u = (.agg #[.int .u64 0, .slice qv 67 rv, .slice qu 16 ru])) (a'.eval (.tmp 211)) w' := hall.2.2.2.2.1 _ rfl
      have e212 : (fun u _ => u = (.agg #[.int .u64 0, .bool false, .int .u64 0, .slice qv 67 rv, .slice qu 16 ru])) (a'.eval (.tmp 212)) w' := hall.2.2.2.2.2.1 _ rfl
      have e213 : (fun u _ => u = (.tuple #[.string SP, .int .i64 0])) (a'.eval (.tmp 213)) w' := hall.2.2.2.2.2.2.1 _ rfl
      have e206 : (fun u _ => u = (.tuple #[.string SP, .int .i64 0])) (a'.eval (.tmp 206)) w' := hall.2.2.2.2.2.2.2.1 _ rfl
      have e214 : (fun u _ => u = (.string SP)) (a'.eval (.tmp 214)) w' := hall.2.2.2.2.2.2.2.2.1 _ rfl
      have e215 : (fun u _ => u = (.int .i64 0)) (a'.eval (.tmp 215)) w' := hall.2.2.2.2.2.2.2.2.2.1 _ rfl
      have e26 : (fun u _ => u = (.string SP)) (a'.eval (.tmp 26)) w' := hall.2.2.2.2.2.2.2.2.2.2.1 _ rfl
      have e27 : (fun u _ => u = (.int .i64 0)) (a'.eval (.tmp 27)) w' := hall.2.2.2.2.2.2.2.2.2.2.2.1 _ rfl
      simp only [List.foldl_cons, List.foldl_nil, Act.put, List.setIfInBounds_toArray, List.set_cons_succ, List.set_cons_zero, e207, e208, e209, e210, e211, e212, e213, e206, e214, e215, e26, e27] at hA
      clear hO hall e207 e208 e209 e210 e211 e212 e213 e206 e214 e215 e26 e27
      subst hA
      clear sl1 sl2
      have HB := Lib.hid (bnext HB.out (of_drew hE))
      have HE := Lib.hid (HE.out.below (of_drew hE))
      clear hE HPC
      go_wp2_with fail
      have hb0 : Below w'.heap.size w' (w'.alloc (.cells #[.string ⟨#[120]⟩] 9)) := balloc (Below.refl _ _) _
      refine (slot_now B 0 false 0 [⟨#[120]⟩] [] (some ⟨w'.heap.size, 0, none⟩) none 1 0 _ (HE.out.below hb0) (strs_blk (t := 9) (fr := (0, 0)) (heap_alloc_new _ _)) (strsC_nil _ _) ⟨by decide, by decide⟩ ⟨by decide, by decide⟩ (show 1 ≤ 100000 by decide) (show 0 ≤ 100000 by decide)).mono ?_
      rintro e x3 hh
      obtain ⟨rfl, hb⟩ := laid_no kw_mayq hh
      have HB := Lib.hid (bnext HB.out (bnext hb0 hb))
      have HE := Lib.hid (HE.out.below (bnext hb0 hb))
      clear hb hh hb0
      have mk1 : ∀ W : World, (Instr.makeSlice 25 (.int .i64 641) (.int .i64 641)).run Tryz.prog W = .ok (.slice (some ⟨W.heap.size, 0, none⟩) 641 641) (W.alloc (.cells (zu 641) 23)) := fun W => make_zu 641 (by omega) W
      have mk2 : ∀ W : World, (Instr.makeSlice 25 (.int .i64 640) (.int .i64 640)).run Tryz.prog W = .ok (.slice (some ⟨W.heap.size, 0, none⟩) 640 640) (W.alloc (.cells (zu 640) 23)) := fun W => make_zu 640 (by omega) W
      go_wp2_with fail
      have hb0 : Below x3.heap.size x3 (x3.alloc (.cells (zu 641) 23)) := balloc (Below.refl _ _) _
      refine (wcert_now B (kfit (root := A) (sg := 0) (rs := []) (cs := List.replicate 641 0) (sp := []) (pp := []) (by rw [← HA.out]; rfl) ⟨by decide, by decide⟩ (show 0 ≤ 100000 by decide) (fun r hr => by cases hr) (by rw [len_eq, List.length_replicate]; decide) (fun n hn => zero_u64 n _ hn) (show 0 ≤ 100000 by decide) (show 0 ≤ 100000 by decide)) none (some ⟨x3.heap.size, 0, none⟩) none none 0 641 0 0 _ (HE.out.below hb0) (rvs_nil _ _) (nms_zu 641 _ _ (heap_alloc_new _ _)) (strsC_nil _ _) (strsC_nil _ _)).mono ?_
      rintro e x4 hh
      obtain ⟨rfl, hb⟩ := laid_no (by rw [← HA.out]; exact kw_mayr) hh
      have HB := Lib.hid (bnext HB.out (bnext hb0 hb))
      have HE := Lib.hid (HE.out.below (bnext hb0 hb))
      clear hb hh hb0
      go_wp2_with fail
      have hb0 : Below x4.heap.size x4 (x4.alloc (.cells (zu 640) 23)) := balloc (Below.refl _ _) _
      refine (wcert_now B (kfit (root := A) (sg := 0) (rs := []) (cs := List.replicate 640 0) (sp := []) (pp := []) (by rw [← HA.out]; rfl) ⟨by decide, by decide⟩ (show 0 ≤ 100000 by decide) (fun r hr => by cases hr) (by rw [len_eq, List.length_replicate]; decide) (fun n hn => zero_u64 n _ hn) (show 0 ≤ 100000 by decide) (show 0 ≤ 100000 by decide)) none (some ⟨x4.heap.size, 0, none⟩) none none 0 640 0 0 _ (HE.out.below hb0) (rvs_nil _ _) (nms_zu 640 _ _ (heap_alloc_new _ _)) (strsC_nil _ _) (strsC_nil _ _)).mono ?_
      rintro e x5 hh
      obtain ⟨ST, hST⟩ : ∃ S, layP (certSpecs A 0 [] (List.replicate 640 0) [] []) = S := ⟨_, rfl⟩
      obtain ⟨rfl, hb⟩ := laid_yes (by rw [← HA.out]; exact kw_mays) hST hh
      have HB := Lib.hid (bnext HB.out (bnext hb0 hb))
      have HE := Lib.hid (HE.out.below (bnext hb0 hb))
      clear hb hh hb0 hST mk1 mk2
      go_wp2_with fail
      have hb0 : Below x5.heap.size x5 (x5.alloc (.cells (rvCells kr0).toArray 48)) := balloc (Below.refl _ _) _
      have hrv : RvsC (CW (x5.alloc (.cells (rvCells kr0).toArray 48))) (some ⟨x5.heap.size, 0, none⟩) [kr0] := fun i hi => by
        refine ⟨x5.heap.size, 0, rfl, ?_⟩
        match i, hi with
        | 0, _ => exact rev_blk (heap_alloc_new _ _) rfl rfl (fun j hj => by match j, hj with | 0, _ | 1, _ | 2, _ | 3, _ | 4, _ | 5, _ | 6, _ | 7, _ | 8, _ | 9, _ | 10, _ => rfl)
        | i + 1, hi => exact absurd hi (by simp [len])
      refine (wcert_now B (kfit (root := A) (sg := 0) (rs := [kr0]) (cs := []) (sp := []) (pp := []) (by rw [← HA.out]; rfl) ⟨by decide, by decide⟩ (show 1 ≤ 100000 by decide) (fun r hr => by
        simp only [List.mem_cons, List.not_mem_nil, or_false] at hr
        subst hr
        exact kr0_bd) (show 0 ≤ 100000 by decide) (fun n hn => by cases hn) (show 0 ≤ 100000 by decide) (show 0 ≤ 100000 by decide)) (some ⟨x5.heap.size, 0, none⟩) none none none 1 0 0 0 _ (HE.out.below hb0) hrv (nms_nil _ _) (strsC_nil _ _) (strsC_nil _ _)).mono ?_
      rintro e x6 hh
      obtain ⟨rfl, hb⟩ := laid_no (by rw [← HA.out]; exact kw_mayt) hh
      have HB := Lib.hid (bnext HB.out (bnext hb0 hb))
      have HE := Lib.hid (HE.out.below (bnext hb0 hb))
      clear hb hh hb0 hrv
      go_wp2_with fail
      refine (wheader2_any B 0 A Bb ⟨#[]⟩ x6 HE.out.p ⟨by decide, by decide⟩ (by rw [← HA.out, fullC_size]; decide) (by rw [← HBb.out, fullC_size]; decide) (by decide) (fun h => Nat.le_trans (headerSz h) (by decide))).mono ?_
      rintro e x7 hh
      obtain ⟨rfl, hb⟩ := laid_no (by rw [← HA.out, ← HBb.out]; exact kw_mayu) hh
      have HB := Lib.hid (bnext HB.out hb)
      have HE := Lib.hid (HE.out.below hb)
      clear hb hh
      go_upto_region 31 with fail
      obtain ⟨sb, hsb⟩ : ∃ sb, x7.heap.size = sb := ⟨_, rfl⟩
      obtain ⟨W, hW⟩ : ∃ W, x7.alloc (.cells #[.string ⟨#[129, 161, 120, 1]⟩, .string ⟨#[130, 161, 108, 5, 161, 108, 5]⟩, .string ⟨#[129, 161, 103, 128]⟩, .string ⟨#[129, 161, 103, 129, 161, 112, 144]⟩, .string ⟨#[129, 161, 103, 129, 161, 112, 145, 196, 1, 120]⟩, .string ⟨#[129, 160, 1]⟩, .string ⟨#[129, 162, 108, 108, 1]⟩] 9) = W := ⟨_, rfl⟩
      have hb : Below x7.heap.size x7 W := by rw [← hW]; exact balloc (Below.refl _ _) _
      have HS : Hid (W.heap[sb]? = some (.cells #[.string ⟨#[129, 161, 120, 1]⟩, .string ⟨#[130, 161, 108, 5, 161, 108, 5]⟩, .string ⟨#[129, 161, 103, 128]⟩, .string ⟨#[129, 161, 103, 129, 161, 112, 144]⟩, .string ⟨#[129, 161, 103, 129, 161, 112, 145, 196, 1, 120]⟩, .string ⟨#[129, 160, 1]⟩, .string ⟨#[129, 162, 108, 108, 1]⟩] 9 (0, 0))) := Lib.hid (by rw [← hW, ← hsb]; exact heap_alloc_new _ _)
      have HB := Lib.hid (bnext HB.out hb)
      have HE := Lib.hid (HE.out.below hb)
      rw [hW, hsb]
      clear hW hsb hb HSG HPT HWT HS1 HSM HSH HSK
      go_upto_region 32 with fail
      go_loopg [39] 7 (fun g i wr => ∃ m : Nat, g + m = 7 ∧ i = .int .i64 m ∧ Hid (Below W.heap.size W wr))
      case atStart => exact ⟨0, rfl, rfl, Below.refl _ _⟩
      case round =>
        obtain ⟨m, hg, rfl, HW⟩ := hrel
        by_cases hlt : m < 7
        · have c0 : wr.cell? ⟨sb, m, none⟩ = some (.string (kf m)) := (block_cell ((HW.out.block sb (lt_of_block HS.out)).trans HS.out) m).trans (kf_at m hlt)
          have i1 : decide (m < 7) = true := by simp; exact hlt
          have i2 : (m : Int) < 7 := by omega
          have HEr := Lib.hid (HE.out.below HW.out)
          have HR := Lib.hid (fun w' (h : TE7 B w') => readSlot_no B (kf m) 5 0 w' h (kf_size m) (kf_rd m))
          generalize kf m = v at c0 HR
          go_wp2_with fail
          refine (HR.out _ HEr.out).mono ?_
          rintro e w8 ⟨fb, rfl, hf, hb⟩
          have HF := Lib.hid hf
          have HB8 := Lib.hid hb
          have HE8 := Lib.hid (HEr.out.below hb)
          clear hb c0 hf
          go_wp2_with fail
          have HE9 := Lib.hid (HE8.out.below (balloc (Below.refl _ _) (.cells #[.int .u64 0, .bool false, .int .u64 0, .slice none 0 0, .slice none 0 0] 44)))
          have HF9 := Lib.hid (HF.out.below (balloc (Below.refl _ _) (.cells #[.int .u64 0, .bool false, .int .u64 0, .slice none 0 0, .slice none 0 0] 44)))
          have HB9 := Lib.hid (balloc (bnext HW.out HB8.out) (.cells #[.int .u64 0, .bool false, .int .u64 0, .slice none 0 0, .slice none 0 0] 44))
          refine (told_fault fb 5 0 _ HE9.out.e HF9.out (by decide) (Nat.lt_of_lt_of_le HE9.out.g HE9.out.s)).mono ?_
          rintro e w9 ⟨rfl, hb⟩
          have HB9 := Lib.hid (bnext HB9.out hb)
          clear hb
          go_wp2
          go_roundg (6 - m)
          case rel => exact ⟨m + 1, by omega, by go_num, HB9⟩
          case measure => omega
        · obtain rfl : m = 7 := by omega
          have HB := Lib.hid (bnext HB.out HW.out)
          have HE := Lib.hid (HE.out.below HW.out)
          clear HW
          go_wp2_with fail
          refine (readSlot_no B ⟨#[129, 161, 103, 129, 161, 112, 220, 0, 17]⟩ 3 0 _ HE.out (by decide) kw_long).mono ?_
          rintro e y1 ⟨f1, rfl, hf, hb⟩
          have hb' := balloc hb (.cells #[.int .u64 0, .bool false, .int .u64 0, .slice none 0 0, .slice none 0 0] 44)
          have HB := Lib.hid (bnext HB.out hb')
          have HE := Lib.hid (HE.out.below hb')
          have HF1 := Lib.hid (hf.below (balloc (Below.refl _ _) (.cells #[.int .u64 0, .bool false, .int .u64 0, .slice none 0 0, .slice none 0 0] 44)))
          clear hb hf hb'
          go_wp2_with fail
          refine (readSlot_no B ⟨#[129, 161, 103, 129, 161, 112, 145, 196, 32]⟩ 4 7 _ HE.out (by decide) kw_short).mono ?_
          rintro e y2 ⟨f2, rfl, hf, hb⟩
          have hb' := balloc hb (.cells #[.int .u64 0, .bool false, .int .u64 0, .slice none 0 0, .slice none 0 0] 44)
          have HB := Lib.hid (bnext HB.out hb')
          have HE := Lib.hid (HE.out.below hb')
          have HF1 := Lib.hid (HF1.out.below hb')
          have HF2 := Lib.hid (hf.below (balloc (Below.refl _ _) (.cells #[.int .u64 0, .bool false, .int .u64 0, .slice none 0 0, .slice none 0 0] 44)))
          clear hb hf hb'
          go_wp2_with fail
          refine (readSlot_no B ⟨#[129, 161, 108, 161, 120]⟩ 5 3 _ HE.out (by decide) kw_other).mono ?_
          rintro e y3 ⟨f3, rfl, hf, hb⟩
          have hb' := balloc hb (.cells #[.int .u64 0, .bool false, .int .u64 0, .slice none 0 0, .slice none 0 0] 44)
          have HB := Lib.hid (bnext HB.out hb')
          have HE := Lib.hid (HE.out.below hb')
          have HF1 := Lib.hid (HF1.out.below hb')
          have HF2 := Lib.hid (HF2.out.below hb')
          have HF3 := Lib.hid (hf.below (balloc (Below.refl _ _) (.cells #[.int .u64 0, .bool false, .int .u64 0, .slice none 0 0, .slice none 0 0] 44)))
          clear hb hf hb'
          go_wp2_with fail
          refine (rqCert_any B ⟨#[129, 161, 80, 220, 255, 255]⟩ _ HE.out (by decide)).mono ?_
          rintro e y4 ⟨ev, q2, z2, q3, z3, q4, z4, q5, z5, rfl, hev, htl, _, _, _, _, hb⟩
          rw [kw_huge] at hev htl
          rw [kw_huge, cells_zero7]
          obtain ⟨fb, rfl⟩ := hev
          have HTL := Lib.hid (htl (show (3 : Int) ≠ 0 by decide))
          obtain ⟨X, hX⟩ : ∃ X, y4.alloc (.cells #[.string ⟨#[]⟩, .int .u64 0, .slice q2 0 z2, .slice q3 0 z3, .slice q4 0 z4, .slice q5 0 z5] 28) = X := ⟨_, rfl⟩
          have hb4 : Below y4.heap.size y4 X := by rw [← hX]; exact balloc (Below.refl _ _) _
          have HB := Lib.hid (bnext HB.out (bnext hb hb4))
          have HE := Lib.hid (HE.out.below (bnext hb hb4))
          have HF1 := Lib.hid (HF1.out.below (bnext hb hb4))
          have HF2 := Lib.hid (HF2.out.below (bnext hb hb4))
          have HF3 := Lib.hid (HF3.out.below (bnext hb hb4))
          have HX := Lib.hid hb4
          clear hb htl hb4
          go_upto_region 41 with fail
          try rw [hX]
          clear hX
          go_wp2_with fail
          refine (works7_any B X HE.out).mono ?_
          rintro e t0 ⟨rfl, hb⟩
          have HB := Lib.hid (bnext HB.out hb)
          have HE := Lib.hid (HE.out.below hb)
          have HF1 := Lib.hid (HF1.out.below hb)
          have HF2 := Lib.hid (HF2.out.below hb)
          have HF3 := Lib.hid (HF3.out.below hb)
          have HX := Lib.hid (bnext HX.out hb)
          clear hb
          go_wp2_with fail
          refine (told_fault f1 3 0 _ HE.out.e HF1.out (by decide) (Nat.lt_of_lt_of_le HE.out.g HE.out.s)).mono ?_
          rintro e t1 ⟨rfl, hb⟩
          have HB := Lib.hid (bnext HB.out hb)
          have HE := Lib.hid (HE.out.below hb)
          have HX := Lib.hid (bnext HX.out hb)
          have HF2 := Lib.hid (HF2.out.below hb)
          have HF3 := Lib.hid (HF3.out.below hb)
          clear hb
          go_wp2_with fail
          refine (told_fault f2 4 7 _ HE.out.e HF2.out (by decide) (Nat.lt_of_lt_of_le HE.out.g HE.out.s)).mono ?_
          rintro e t2 ⟨rfl, hb⟩
          have HB := Lib.hid (bnext HB.out hb)
          have HE := Lib.hid (HE.out.below hb)
          have HX := Lib.hid (bnext HX.out hb)
          have HF3 := Lib.hid (HF3.out.below hb)
          clear hb
          go_wp2_with fail
          refine (told_fault f3 5 3 _ HE.out.e HF3.out (by decide) (Nat.lt_of_lt_of_le HE.out.g HE.out.s)).mono ?_
          rintro e t3 ⟨rfl, hb⟩
          have HB := Lib.hid (bnext HB.out hb)
          have HE := Lib.hid (HE.out.below hb)
          have HX := Lib.hid (bnext HX.out hb)
          clear hb
          go_wp2_with fail
          refine (HTL.out t3 HX.out HE.out).mono ?_
          rintro e t4 ⟨rfl, hb⟩
          have HB := Lib.hid (bnext HB.out hb)
          clear hb
          go_wp2
          go_ret
          exact ⟨rfl, HB.out⟩
end Go.Proofs.YtihiaopilnjonaaGreatDoor
