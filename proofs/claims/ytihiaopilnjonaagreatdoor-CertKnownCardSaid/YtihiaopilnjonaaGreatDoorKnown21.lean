/- The statement CertKnown: the law. -/
import Derived.Test.YtihiaopilnjonaaGreatDoorKn21P
namespace Go.Proofs.YtihiaopilnjonaaGreatDoor
open Go.RowKit
set_option linter.unusedSimpArgs false
set_option linter.unusedVariables false

set_option maxRecDepth 100000 in
set_option maxHeartbeats 8000000 in
theorem known21_law (B : Nat) (w : World) (ht : PTab B w) :
    Calls Tryz.prog 4 #[] w fun e w' => e = .returned (.bool true) ∧ Below w.heap.size w w' := by
  have HT := Lib.hid ht
  clear ht
  go_enter Tryz.func4, Tryz.ntmps4
  go_wp2_with fail
  obtain ⟨V1, hV1⟩ : ∃ V1, w.alloc (.cells #[.int .u64 4] 23) = V1 := ⟨_, rfl⟩
  obtain ⟨ob, hob⟩ : ∃ ob, w.heap.size = ob := ⟨_, rfl⟩
  have ONE : Hid (U64s V1 (some ⟨ob, 0, none⟩) [4]) := Lib.hid (by rw [← hV1, ← hob]; exact alloc_u64s w _ _ [4] rfl)
  have BV1 : Hid (Below w.heap.size w V1) := Lib.hid (by rw [← hV1]; (repeat (first | exact Below.refl _ _ | assumption | (refine bdrew ?_) | (refine bdrewN ?_ _) | (refine balloc ?_ _) | (refine bset ?_ (by first | omega | (simp; done) | (simp; omega)) _) | (refine bnext ?_ (by assumption)))))
  have HSZ : Hid (V1.heap.size = ob + 1) := Lib.hid (by rw [← hV1, ← hob]; simp)
  rw [hV1]
  simp only [hob]
  clear hV1
  refine (of_any (some ⟨ob + 1, 0, none⟩) 6 lA21 _ (by decide) (by rw [← HSZ.out]; exact alloc_u64s V1 _ _ lA21 rfl)).mono ?_
  rintro e w1 ⟨v, rfl, hv, hb⟩
  obtain ⟨a1, k1, rfl, ho, hk⟩ := own_ones (l := ofL lA21 2) hv
  have B1 := Lib.hid (bnext (balloc (Below.refl _ _) _) hb)
  have O1 := Lib.hid ho
  clear hv hb ho
  go_wp2_with fail
  refine (made_any a1 k1 (ofL lA21 2) none 0 [] 0 w1 (by decide) (by decide) (Nat.le_refl _) O1.out (fun i hi => by simp [len] at hi) (fun i => ⟨(ofL_ok _ _ (nth_all lA21 _ (by decide) (by decide)) i).root0, (ofL_ok _ _ (nth_all lA21 _ (by decide) (by decide)) i).root1⟩)).mono ?_
  rintro e w2 ⟨c, rfl, h1, h2, h3, h4, h5, h6, hb⟩
  have hco := certOk_made h1 h2 h3 h4 h5 h6 (by decide) (ofL_ok _ _ (nth_all lA21 _ (by decide) (by decide)))
  have htx : ∀ i, i < len c.revs → RevTx B w2 (rnth c.revs i) [] [] := fun i hi => by rw [h1] at hi ⊢; exact made_tx B w2 (ofL_ok _ _ (nth_all lA21 _ (by decide) (by decide))) i hi
  have HC1 := Lib.hid h1
  have HTX := Lib.hid htx
  have HCO := Lib.hid hco
  have HN : Hid (len c.revs = 2) := Lib.hid (by rw [HC1.out]; kernel_rfl)
  have B2 := Lib.hid (bnext B1.out hb)
  clear h1 h2 h3 h4 h5 h6 hb htx hco
  go_wp2_with fail
  obtain ⟨W, hW⟩ : ∃ W, w2.alloc (.cells #[.string c.root, .int .u64 c.signed, .slice c.ra (len c.revs) c.rc, .slice c.ca (len c.coins) c.cc, .slice c.sa c.sn c.sc, .slice c.pa c.pn c.pc] 28) = W := ⟨_, rfl⟩
  obtain ⟨cb, hcb⟩ : ∃ cb, w2.heap.size = cb := ⟨_, rfl⟩
  have HBLK : Hid (W.heap[cb]? = some (.cells c.cells 28 (0, 0))) := Lib.hid (by rw [← hW, ← hcb]; exact heap_alloc_new _ _)
  have BW : Hid (Below V1.heap.size V1 W) := Lib.hid (by rw [← hW]; exact balloc B2.out _)
  have W2 : Below w2.heap.size w2 W := by rw [← hW]; exact balloc (Below.refl _ _) _
  have HTW := Lib.hid ((HT.out.keep BV1.out HT.out.size).keep BW.out (Nat.le_trans HT.out.size BV1.out.size))
  have HCW := Lib.hid (HCO.out.below W2)
  have htx2 : ∀ V, Below W.heap.size W V → ∀ i, i < len c.revs → RevTx B V (rnth c.revs i) [] [] := fun V hV i hi => by
    have h := HTX.out i hi
    exact ⟨h.wn, h.pn, (h.s1.below W2).below hV, (h.s2.below W2).below hV, h.h1, h.h2, h.L, h.idx, h.wt, h.first, h.life, h.keys, h.root⟩
  have HTX2 := Lib.hid htx2
  rw [hW]
  try simp only [hcb]
  have e0 : (oth (slotOuts c.revs (fun _ => []) (fun _ => [])) 1).2 = 0 := by rw [HC1.out]; kernel_rfl
  have e1 : (oth (partOuts c.revs) 1).2 = 0 := by rw [HC1.out]; kernel_rfl
  obtain ⟨sx, hsx⟩ : ∃ sx, (oth (slotOuts c.revs (fun _ => []) (fun _ => [])) 1).1 = sx := ⟨_, rfl⟩
  obtain ⟨px, hpx⟩ : ∃ px, (oth (partOuts c.revs) 1).1 = px := ⟨_, rfl⟩
  have TS : Hid (∀ V, Below W.heap.size W V → Calls Tryz.prog 24 #[(rnth c.revs 1).slotV] V fun e w'' => e = .returned (.tuple #[.string sx, .int .i64 0]) ∧ Below V.heap.size V w'') := Lib.hid (fun V hV => by
    have h := tells_slot B c.revs (fun _ => []) (fun _ => []) V (HTW.out.keep hV HTW.out.size) (HTX2.out V hV) 1 (by rw [slotOuts_len, HN.out]; decide) V (Below.refl _ _)
    rw [hsx, e0] at h; exact h)
  have TP : Hid (∀ V, Below W.heap.size W V → Calls Tryz.prog 25 #[(rnth c.revs 1).partV] V fun e w'' => e = .returned (.tuple #[.string px, .int .i64 0]) ∧ Below V.heap.size V w'') := Lib.hid (fun V hV => by
    have h := tells_part B c.revs (fun _ => []) (fun _ => []) V (HTW.out.keep hV HTW.out.size) (HTX2.out V hV) 1 (by rw [partOuts_len, HN.out]; decide) V (Below.refl _ _)
    rw [hpx, e1] at h; exact h)
  have SX : Hid (sth (eachO (slotOuts c.revs (fun _ => []) (fun _ => []))).1 1 = sx) := Lib.hid (by rw [← hsx, HC1.out]; exact slots21)
  have PX : Hid (sth (eachO (partOuts c.revs)).1 1 = px) := Lib.hid (by rw [← hpx, HC1.out]; exact parts21)
  clear hW hcb htx2 e0 e1 hsx hpx W2
  refine (cslots_any c (slotOuts c.revs (fun _ => []) (fun _ => [])) W (by have := HN.out; omega) (slotOuts_len _ _ _) HCW.out.revs (tells_slot B c.revs _ _ W HTW.out (HTX2.out W (Below.refl _ _)))).mono ?_
  intro e w3 h
  obtain ⟨xa, xc, he, hT, hb⟩ := eachIs_txs h
  rw [show len (eachO (slotOuts c.revs (fun _ => []) (fun _ => []))).1 = 2 by rw [HC1.out]; exact slots2n, show (eachO (slotOuts c.revs (fun _ => []) (fun _ => []))).2 = 0 by rw [HC1.out]; exact slots2] at he
  subst he
  have TX := Lib.hid hT
  have BX := Lib.hid hb
  have HBLK3 := Lib.hid ((hb.block _ (lt_of_block HBLK.out)).trans HBLK.out)
  have c0 : World.cell? w3 ⟨cb, 0, none⟩ = some (.string c.root) := block_cell HBLK3.out 0
  have c1 : World.cell? w3 ⟨cb, 1, none⟩ = some (.int .u64 c.signed) := block_cell HBLK3.out 1
  have c2 : World.cell? w3 ⟨cb, 2, none⟩ = some (.slice c.ra (len c.revs) c.rc) := block_cell HBLK3.out 2
  have c3 : World.cell? w3 ⟨cb, 3, none⟩ = some (.slice c.ca (len c.coins) c.cc) := block_cell HBLK3.out 3
  have c4 : World.cell? w3 ⟨cb, 4, none⟩ = some (.slice c.sa c.sn c.sc) := block_cell HBLK3.out 4
  have c5 : World.cell? w3 ⟨cb, 5, none⟩ = some (.slice c.pa c.pn c.pc) := block_cell HBLK3.out 5
  clear h hT hb
  go_wp2_with fail
  refine (cparts_any c (partOuts c.revs) w3 (by have := HN.out; omega) (partOuts_len _) (HCW.out.revs.below BX.out) (tells_part B c.revs (fun _ => []) (fun _ => []) w3 (HTW.out.keep BX.out HTW.out.size) (HTX2.out w3 BX.out))).mono ?_
  intro e w4 h
  obtain ⟨ya, yc, he, hT, hb⟩ := eachIs_txs h
  rw [show len (eachO (partOuts c.revs)).1 = 2 by rw [HC1.out]; exact parts2n, show (eachO (partOuts c.revs)).2 = 0 by rw [HC1.out]; exact parts2] at he
  subst he
  have TY := Lib.hid hT
  have BY := Lib.hid (bnext BX.out hb)
  have TX := Lib.hid (TX.out.below hb)
  have HBLK4 := Lib.hid ((hb.block _ (lt_of_block HBLK3.out)).trans HBLK3.out)
  clear h hT hb c0 c1 c2 c3 c4 c5
  have c0 : World.cell? w4 ⟨cb, 0, none⟩ = some (.string c.root) := block_cell HBLK4.out 0
  have c1 : World.cell? w4 ⟨cb, 1, none⟩ = some (.int .u64 c.signed) := block_cell HBLK4.out 1
  have c2 : World.cell? w4 ⟨cb, 2, none⟩ = some (.slice c.ra (len c.revs) c.rc) := block_cell HBLK4.out 2
  have c3 : World.cell? w4 ⟨cb, 3, none⟩ = some (.slice c.ca (len c.coins) c.cc) := block_cell HBLK4.out 3
  have c4 : World.cell? w4 ⟨cb, 4, none⟩ = some (.slice c.sa c.sn c.sc) := block_cell HBLK4.out 4
  have c5 : World.cell? w4 ⟨cb, 5, none⟩ = some (.slice c.pa c.pn c.pc) := block_cell HBLK4.out 5
  rw [HN.out] at c2
  obtain ⟨b, off, hra, ⟨d0, d1, d2, d3, d4, d5, d6, d7, d8, d9, d10⟩⟩ := (HCW.out.revs.below BY.out) 1 (by rw [HN.out]; decide)
  have hrc := HCW.out.rcap
  rw [hra] at c2
  go_wp2_with fail
  refine (TS.out _ BY.out).mono ?_
  rintro e w5 ⟨rfl, hb⟩
  have BZ := Lib.hid (bnext BY.out hb)
  have TX := Lib.hid (TX.out.below hb)
  have TY := Lib.hid (TY.out.below hb)
  have HBLK5 := Lib.hid ((hb.block _ (lt_of_block HBLK4.out)).trans HBLK4.out)
  clear hb c0 c1 c2 c3 c4 c5 d0 d1 d2 d3 d4 d5 d6 d7 d8 d9 d10 hra
  have c0 : World.cell? w5 ⟨cb, 0, none⟩ = some (.string c.root) := block_cell HBLK5.out 0
  have c1 : World.cell? w5 ⟨cb, 1, none⟩ = some (.int .u64 c.signed) := block_cell HBLK5.out 1
  have c2 : World.cell? w5 ⟨cb, 2, none⟩ = some (.slice c.ra (len c.revs) c.rc) := block_cell HBLK5.out 2
  have c3 : World.cell? w5 ⟨cb, 3, none⟩ = some (.slice c.ca (len c.coins) c.cc) := block_cell HBLK5.out 3
  have c4 : World.cell? w5 ⟨cb, 4, none⟩ = some (.slice c.sa c.sn c.sc) := block_cell HBLK5.out 4
  have c5 : World.cell? w5 ⟨cb, 5, none⟩ = some (.slice c.pa c.pn c.pc) := block_cell HBLK5.out 5
  rw [HN.out] at c2
  obtain ⟨b, off, hra, ⟨d0, d1, d2, d3, d4, d5, d6, d7, d8, d9, d10⟩⟩ := (HCW.out.revs.below BZ.out) 1 (by rw [HN.out]; decide)
  rw [hra] at c2
  go_wp2_with fail
  refine (TP.out _ BZ.out).mono ?_
  rintro e w6 ⟨rfl, hb⟩
  have B6 := Lib.hid (bnext BZ.out hb)
  have TX := Lib.hid (TX.out.below hb)
  have TY := Lib.hid (TY.out.below hb)
  have HBLK6 := Lib.hid ((hb.block _ (lt_of_block HBLK5.out)).trans HBLK5.out)
  clear hb c0 c1 c2 c3 c4 c5 d0 d1 d2 d3 d4 d5 d6 d7 d8 d9 d10 hra
  go_wp2_with fail
  refine (made_any2 (some ⟨w6.heap.size, 0, none⟩) 1 [badO] none 0 [] 0 (w6.alloc (.cells #[.int .u64 1, .int .u64 0, .int .u64 1, .int .u8 31] 51)) (by decide) (by decide) (Nat.le_refl _) (fun i hi => by
    obtain rfl := i0_of hi
    have h := block_cell (heap_alloc_new w6 (.cells #[.int .u64 1, .int .u64 0, .int .u64 1, .int .u8 31] 51))
    exact ⟨_, 0, rfl, h 0, h 1, h 2, h 3⟩) (fun i hi => by simp [len] at hi) (fun i => ⟨(badO_ok i).root0, (badO_ok i).root1⟩)).mono ?_
  rintro e w7 ⟨q, ⟨rfl, h1, h2, h3, h4, h5, h6, hb⟩, hrow⟩
  have hco := certOk_made h1 h2 h3 h4 h5 h6 (by decide) badO_ok
  have hn1 : len q.revs = 1 := by rw [h1]; kernel_rfl
  have htx : ∀ i, i < len q.revs → RevTx B w7 (rnth q.revs i) [] [] := fun i hi => by rw [h1] at hi ⊢; exact made_tx B w7 badO_ok i hi
  obtain ⟨rb, ro, hqra, -⟩ := h4 0 (by rw [hn1]; decide)
  obtain ⟨hrb, cur, hcur⟩ := hrow rb ro hqra
  have HQ1 := Lib.hid h1
  have HQX := Lib.hid htx
  have HQO := Lib.hid hco
  have HQN := Lib.hid hn1
  have HQA := Lib.hid hqra
  have HCU := Lib.hid hcur
  have HRB : Hid (w6.heap.size ≤ rb) := Lib.hid (by have : w6.heap.size ≤ (w6.alloc (.cells #[.int .u64 1, .int .u64 0, .int .u64 1, .int .u8 31] 51)).heap.size := by simp
                                                    omega)
  have B7 := Lib.hid (bnext (balloc (Below.refl _ _) _) hb)
  clear h1 h2 h3 h4 h5 h6 hb htx hco hn1 hqra hrb hcur hrow
  go_wp2_with fail
  obtain ⟨X, hX⟩ : ∃ X, w7.alloc (.cells #[.string q.root, .int .u64 q.signed, .slice q.ra (len q.revs) q.rc, .slice q.ca (len q.coins) q.cc, .slice q.sa q.sn q.sc, .slice q.pa q.pn q.pc] 28) = X := ⟨_, rfl⟩
  obtain ⟨qb, hqb⟩ : ∃ qb, w7.heap.size = qb := ⟨_, rfl⟩
  have QB : Hid (X.heap[qb]? = some (.cells q.cells 28 (0, 0))) := Lib.hid (by rw [← hX, ← hqb]; exact heap_alloc_new _ _)
  have HRQ : Hid (rb ≠ qb) := Lib.hid (by have := lt_of_block HCU.out; omega)
  have X7 : Below w7.heap.size w7 X := by rw [← hX]; exact balloc (Below.refl _ _) _
  have B8 : Hid (Below w6.heap.size w6 X) := Lib.hid (bnext B7.out X7)
  have HCU2 := Lib.hid ((X7.block _ (lt_of_block HCU.out)).trans HCU.out)
  have HQO2 := Lib.hid (HQO.out.below X7)
  have HTX6 := Lib.hid (HTW.out.keep (bnext B6.out B8.out) HTW.out.size)
  have HQX2 : Hid (∀ i, i < len q.revs → RevTx B X (rnth q.revs i) [] []) := Lib.hid (fun i hi => by
    have h := HQX.out i hi
    exact ⟨h.wn, h.pn, h.s1.below X7, h.s2.below X7, h.h1, h.h2, h.L, h.idx, h.wt, h.first, h.life, h.keys, h.root⟩)
  rw [hX]
  try simp only [hqb]
  clear hX hqb X7
  refine (cparts_any q (partOuts q.revs) X (by have := HQN.out; omega) (partOuts_len _) HQO2.out.revs (tells_part B q.revs (fun _ => []) (fun _ => []) X HTX6.out HQX2.out)).mono ?_
  intro e w8 h
  obtain ⟨za, zc, he, -, hb⟩ := eachIs_txs h
  rw [show eachO (partOuts q.revs) = ([], 2) by rw [HQ1.out]; exact badparts] at he
  subst he
  have B9 := Lib.hid (bnext B8.out hb)
  have QB8 := Lib.hid ((hb.block _ (lt_of_block QB.out)).trans QB.out)
  have HCU8 := Lib.hid ((hb.block _ (lt_of_block HCU2.out)).trans HCU2.out)
  have RQ8 := Lib.hid (HQO2.out.revs.below hb)
  have RX8 : Hid (RevTx B w8 (rnth q.revs 0) [] []) := Lib.hid (by
    have h := HQX2.out 0 (by rw [HQN.out]; decide)
    exact ⟨h.wn, h.pn, h.s1.below hb, h.s2.below hb, h.h1, h.h2, h.L, h.idx, h.wt, h.first, h.life, h.keys, h.root⟩)
  clear h hb
  have q2 : w8.cell? ⟨qb, 2, none⟩ = some (.slice q.ra (len q.revs) q.rc) := block_cell QB8.out 2
  rw [HQN.out, HQA.out] at q2
  have lr := lt_of_block HCU8.out
  have hrc1 : 1 ≤ q.rc := by have := HQO2.out.rcap; rw [HQN.out] at this; exact this
  obtain ⟨b, off, hra, ⟨d0, d1, d2, d3, d4, d5, d6, d7, d8, d9, d10⟩⟩ := RQ8.out 0 (by rw [HQN.out]; decide)
  rw [HQA.out] at hra
  cases hra
  simp only [Nat.zero_mul, Nat.add_zero] at d0 d1 d2 d3 d4 d5 d6 d7 d8 d9 d10
  have hfz : ∀ o, w8.frozen? ⟨rb, o, none⟩ = false := block_free HCU8.out

  go_upto_region 13 with fail
  obtain ⟨nb, hnb⟩ : ∃ nb, w8.heap.size = nb := ⟨_, rfl⟩
  obtain ⟨Y, hY⟩ : ∃ Y, (w8.setCell ⟨rb, ro + 1 + 2 + 1, none⟩ (.slice (some ⟨nb, 0, none⟩) 1 1)).alloc (.cells #[.string ⟨#[120]⟩] 9) = Y := ⟨_, rfl⟩
  have hrn : rb ≠ nb := by omega
  have hqn : qb < w8.heap.size := lt_of_block QB8.out
  have YQ : Hid (Y.heap[qb]? = some (.cells q.cells 28 (0, 0))) := Lib.hid (by
    rw [← hY]; exact block_alloc (block_setCell_ne QB8.out (by exact fun e => HRQ.out e.symm) _) _)
  have YN : Hid (Y.heap[nb]? = some (.cells #[.string ⟨#[120]⟩] 9 (0, 0))) := Lib.hid (by
    rw [← hY]; exact alloc_new_at _ (by simp [hnb]))
  have BYY : Hid (Below w6.heap.size w6 Y) := Lib.hid (by
    rw [← hY]; exact balloc (B9.out.setCell HRB.out _) _)
  have e8 : ∀ o, Y.cell? ⟨rb, o, none⟩ = (w8.setCell ⟨rb, ro + 1 + 2 + 1, none⟩ (.slice (some ⟨nb, 0, none⟩) 1 1)).cell? ⟨rb, o, none⟩ := fun o => by
    rw [← hY]; exact World.cell?_of_block (Below.heap_alloc _ _ _ (by simpa using lr))
  have eo : ∀ o, o ≠ ro + 1 + 2 + 1 → Y.cell? ⟨rb, o, none⟩ = w8.cell? ⟨rb, o, none⟩ := fun o ho => by
    rw [e8, World.cell?_setCell_other _ _ _ _ (by intro e; have := congrArg Addr.off e; simp at this; omega)]
  have es : Y.cell? ⟨rb, ro + 4, none⟩ = some (.slice (some ⟨nb, 0, none⟩) 1 1) := by
    rw [e8]; exact World.cell?_setCell_same _ ⟨rb, ro + 1 + 2 + 1, none⟩ _ d4
  have hr0 : rnth q.revs 0 = revOf badO := by rw [HQ1.out]; rfl
  rw [hr0] at d0 d1 d2 d3 d4 d5 d6 d7 d8 d9 d10
  have YR : Hid (Revs Y (some ⟨rb, ro, none⟩) [badR nb]) := Lib.hid (fun i hi => by
    obtain rfl := i0_of hi
    refine ⟨rb, ro, rfl, ?_⟩
    rw [Nat.zero_mul, Nat.add_zero]
    exact ⟨(eo _ (by omega)).trans d0, (eo _ (by omega)).trans d1, (eo _ (by omega)).trans d2, (eo _ (by omega)).trans d3, es, (eo _ (by omega)).trans d5, (eo _ (by omega)).trans d6, (eo _ (by omega)).trans d7, (eo _ (by omega)).trans d8, (eo _ (by omega)).trans d9, (eo _ (by omega)).trans d10⟩)
  simp only [hnb]
  rw [hY]
  have HT9 := Lib.hid (HTW.out.keep (bnext B6.out BYY.out) HTW.out.size)
  have YT : Hid (RevTx B Y (badR nb) [⟨#[120]⟩] []) := Lib.hid (by
    have z : U64i 0 := ⟨by decide, by decide⟩
    exact ⟨rfl, rfl, fun i hi => ⟨nb, 0, rfl, (by obtain rfl := i0_of hi; exact cellAt_new YN.out (by decide) rfl)⟩, fun i hi => by simp [len] at hi, ⟨by decide, fun i hi => by obtain rfl := i0_of hi; decide⟩, ⟨by decide, fun i hi => by simp [len] at hi⟩, z, z, (show U64i (1 : Int) from ⟨by decide, by decide⟩), z, z, z, (show (Array.replicate ((31 : Int) % 34).toNat (0 : UInt8)).size < 65536 by rw [Array.size_replicate]; decide)⟩)
  clear hY e8 eo es d0 d1 d2 d3 d4 d5 d6 d7 d8 d9 d10 hfz lr q2 hr0 hnb hqn hrn
  have q0 : Y.cell? ⟨qb, 0, none⟩ = some (.string q.root) := block_cell YQ.out 0
  have q1 : Y.cell? ⟨qb, 1, none⟩ = some (.int .u64 q.signed) := block_cell YQ.out 1
  have q2 : Y.cell? ⟨qb, 2, none⟩ = some (.slice q.ra (len q.revs) q.rc) := block_cell YQ.out 2
  have q3 : Y.cell? ⟨qb, 3, none⟩ = some (.slice q.ca (len q.coins) q.cc) := block_cell YQ.out 3
  have q4 : Y.cell? ⟨qb, 4, none⟩ = some (.slice q.sa q.sn q.sc) := block_cell YQ.out 4
  have q5 : Y.cell? ⟨qb, 5, none⟩ = some (.slice q.pa q.pn q.pc) := block_cell YQ.out 5
  rw [HQN.out, HQA.out] at q2
  go_wp2_with fail
  refine (cslots_any ⟨q.root, q.signed, some ⟨rb, ro, none⟩, q.rc, q.ca, q.cc, q.sa, q.sn, q.sc, q.pa, q.pn, q.pc, [badR nb], q.coins⟩ (slotOuts [badR nb] (fun _ => [⟨#[120]⟩]) (fun _ => [])) Y (show (1 : Nat) ≤ 1099511627776 by decide) (slotOuts_len _ _ _) YR.out (tells_slot B [badR nb] _ _ Y HT9.out (fun i hi => by obtain rfl := i0_of hi; exact YT.out))).mono ?_
  intro e w9 h
  obtain ⟨ua, uc, he, -, hb⟩ := eachIs_txs h
  rw [badslots] at he
  subst he
  have B10 := Lib.hid (bnext BYY.out hb)
  clear h hb q0 q1 q2 q3 q4 q5
  go_wp2_with fail
  refine (works_any w9).mono ?_
  rintro e w10 ⟨rfl, hb⟩
  have B11 := Lib.hid (bnext B10.out hb)
  have B611 := Lib.hid (bnext B6.out B11.out)
  clear hb
  obtain ⟨xb, xo, rfl, x1⟩ := (TX.out.below B11.out) 1 (by rw [show len (eachO (slotOuts c.revs (fun _ => []) (fun _ => []))).1 = 2 by rw [HC1.out]; exact slots2n]; decide)
  obtain ⟨yb, yo, rfl, y1⟩ := (TY.out.below B11.out) 1 (by rw [show len (eachO (partOuts c.revs)).1 = 2 by rw [HC1.out]; exact parts2n]; decide)
  rw [SX.out] at x1
  rw [PX.out] at y1
  have HBK := Lib.hid ((B11.out.block _ (lt_of_block HBLK6.out)).trans HBLK6.out)
  have c0 : World.cell? w10 ⟨cb, 0, none⟩ = some (.string c.root) := block_cell HBK.out 0
  have c1 : World.cell? w10 ⟨cb, 1, none⟩ = some (.int .u64 c.signed) := block_cell HBK.out 1
  have c2 : World.cell? w10 ⟨cb, 2, none⟩ = some (.slice c.ra (len c.revs) c.rc) := block_cell HBK.out 2
  have c3 : World.cell? w10 ⟨cb, 3, none⟩ = some (.slice c.ca (len c.coins) c.cc) := block_cell HBK.out 3
  have c4 : World.cell? w10 ⟨cb, 4, none⟩ = some (.slice c.sa c.sn c.sc) := block_cell HBK.out 4
  have c5 : World.cell? w10 ⟨cb, 5, none⟩ = some (.slice c.pa c.pn c.pc) := block_cell HBK.out 5
  have sx1 : (sx.toList == sx.toList) = true := by simp
  have px1 : (px.toList == px.toList) = true := by simp
  go_wp2_with fail
  refine (positions_any c w10 (by have := HN.out; omega) (HCW.out.revs.below B611.out)).mono ?_
  rintro e w11 ⟨v, rfl, hv, hb⟩
  rw [HC1.out, pos2, show len (List.map revOf (List.take 30 (ofL lA21 2))) = 2 by kernel_rfl] at hv
  obtain ⟨pa, pc, rfl, hp⟩ := own_u64s hv
  have HP := Lib.hid hp
  have X0 := Lib.hid (bnext B611.out hb)
  clear hv hb hp c0 c1 c2 c3 c4 c5 x1 y1 sx1 px1
  go_wp2_with fail
  refine (nums21_any pa _ pc 2 [4, 9] _ (HP.out.below (balloc (Below.refl _ _) _)) (alloc_u64s w11 _ _ [4, 9] rfl) (by decide)).mono ?_
  rintro e v0 ⟨rfl, hb⟩
  have Z0 := Lib.hid (bnext (balloc X0.out _) hb)
  clear hb
  go_wp2_with fail
  refine (of_any _ 3 lP21 _ (by decide) (alloc_u64s v0 _ _ lP21 rfl)).mono ?_
  rintro e u0 ⟨v, rfl, hv, hb⟩
  obtain ⟨oa0, oc0, rfl, ho, hc⟩ := own_ones (l := ofL lP21 1) hv
  have U0 := Lib.hid (bnext (balloc Z0.out _) hb)
  have O0 := Lib.hid ho
  clear hv hb ho
  go_wp2_with fail
  refine (shape_call oa0 oc0 (ofL lP21 1) (some ⟨ob, 0, none⟩) 1 [4] 18446744073709551615 1 _ (by decide) (by decide) (by decide) O0.out (((ONE.out.below BW.out)).below U0.out) (by decide) (ofL_ok _ _ (nth_all lP21 _ (by decide) (by decide)))).mono ?_
  rintro e v1 ⟨he, hb⟩
  rw [sh0] at he
  subst he
  have Z1 := Lib.hid (bnext (U0.out) hb)
  clear hb O0 U0 Z0
  go_wp2_with fail
  refine (of_any _ 3 lQ21 _ (by decide) (alloc_u64s v1 _ _ lQ21 rfl)).mono ?_
  rintro e u1 ⟨v, rfl, hv, hb⟩
  obtain ⟨oa1, oc1, rfl, ho, hc⟩ := own_ones (l := ofL lQ21 1) hv
  have U1 := Lib.hid (bnext (balloc Z1.out _) hb)
  have O1 := Lib.hid ho
  clear hv hb ho
  go_wp2_with fail
  refine (shape_call oa1 oc1 (ofL lQ21 1) (some ⟨ob, 0, none⟩) 1 [4] 18446744073709551615 1 _ (by decide) (by decide) (by decide) O1.out (((ONE.out.below BW.out)).below U1.out) (by decide) (ofL_ok _ _ (nth_all lQ21 _ (by decide) (by decide)))).mono ?_
  rintro e v2 ⟨he, hb⟩
  rw [sh1] at he
  subst he
  have Z2 := Lib.hid (bnext (U1.out) hb)
  clear hb O1 U1 Z1
  go_wp2_with fail
  refine (of_any _ 3 lR21 _ (by decide) (alloc_u64s v2 _ _ lR21 rfl)).mono ?_
  rintro e u2 ⟨v, rfl, hv, hb⟩
  obtain ⟨oa2, oc2, rfl, ho, hc⟩ := own_ones (l := ofL lR21 1) hv
  have U2 := Lib.hid (bnext (balloc Z2.out _) hb)
  have O2 := Lib.hid ho
  clear hv hb ho
  go_wp2_with fail
  refine (shape_call oa2 oc2 (ofL lR21 1) (some ⟨ob, 0, none⟩) 1 [4] 18446744073709551615 1 _ (by decide) (by decide) (by decide) O2.out (((ONE.out.below BW.out)).below U2.out) (by decide) (ofL_ok _ _ (nth_all lR21 _ (by decide) (by decide)))).mono ?_
  rintro e v3 ⟨he, hb⟩
  rw [sh2] at he
  subst he
  have Z3 := Lib.hid (bnext (U2.out) hb)
  clear hb O2 U2 Z2
  go_wp2_with fail
  refine (of_any _ 3 lS21 _ (by decide) (alloc_u64s v3 _ _ lS21 rfl)).mono ?_
  rintro e u3 ⟨v, rfl, hv, hb⟩
  obtain ⟨oa3, oc3, rfl, ho, hc⟩ := own_ones (l := ofL lS21 1) hv
  have U3 := Lib.hid (bnext (balloc Z3.out _) hb)
  have O3 := Lib.hid ho
  clear hv hb ho
  go_wp2_with fail
  refine (shape_call oa3 oc3 (ofL lS21 1) (some ⟨ob, 0, none⟩) 1 [4] 18446744073709551615 1 _ (by decide) (by decide) (by decide) O3.out (((ONE.out.below BW.out)).below U3.out) (by decide) (ofL_ok _ _ (nth_all lS21 _ (by decide) (by decide)))).mono ?_
  rintro e v4 ⟨he, hb⟩
  rw [sh3] at he
  subst he
  have Z4 := Lib.hid (bnext (U3.out) hb)
  clear hb O3 U3 Z3
  go_wp2_with fail
  refine (of_any _ 3 lU21 _ (by decide) (alloc_u64s v4 _ _ lU21 rfl)).mono ?_
  rintro e u4 ⟨v, rfl, hv, hb⟩
  obtain ⟨oa4, oc4, rfl, ho, hc⟩ := own_ones (l := ofL lU21 1) hv
  have U4 := Lib.hid (bnext (balloc Z4.out _) hb)
  have O4 := Lib.hid ho
  clear hv hb ho
  go_wp2_with fail
  refine (shape_call oa4 oc4 (ofL lU21 1) (some ⟨ob, 0, none⟩) 1 [4] 0 1 _ (by decide) (by decide) (by decide) O4.out (((ONE.out.below BW.out)).below U4.out) (by decide) (ofL_ok _ _ (nth_all lU21 _ (by decide) (by decide)))).mono ?_
  rintro e v5 ⟨he, hb⟩
  rw [sh4] at he
  subst he
  have Z5 := Lib.hid (bnext (U4.out) hb)
  clear hb O4 U4 Z4
  go_wp2_with fail
  refine (of_any _ 3 lU21 _ (by decide) (alloc_u64s v5 _ _ lU21 rfl)).mono ?_
  rintro e u5 ⟨v, rfl, hv, hb⟩
  obtain ⟨oa5, oc5, rfl, ho, hc⟩ := own_ones (l := ofL lU21 1) hv
  have U5 := Lib.hid (bnext (balloc Z5.out _) hb)
  have O5 := Lib.hid ho
  clear hv hb ho
  go_wp2_with fail
  refine (shape_call oa5 oc5 (ofL lU21 1) (some ⟨ob, 0, none⟩) 1 [4] 1 0 _ (by decide) (by decide) (by decide) O5.out (((ONE.out.below BW.out)).below U5.out) (by decide) (ofL_ok _ _ (nth_all lU21 _ (by decide) (by decide)))).mono ?_
  rintro e v6 ⟨he, hb⟩
  rw [sh5] at he
  subst he
  have Z6 := Lib.hid (bnext (U5.out) hb)
  clear hb O5 U5 Z5
  go_wp2_with fail
  refine (of_any _ 3 lU21 _ (by decide) (alloc_u64s v6 _ _ lU21 rfl)).mono ?_
  rintro e u6 ⟨v, rfl, hv, hb⟩
  obtain ⟨oa6, oc6, rfl, ho, hc⟩ := own_ones (l := ofL lU21 1) hv
  have U6 := Lib.hid (bnext (balloc Z6.out _) hb)
  have O6 := Lib.hid ho
  clear hv hb ho
  go_wp2_with fail
  refine (shape_call oa6 oc6 (ofL lU21 1) (some ⟨ob, 0, none⟩) 1 [4] 1 (-1) _ (by decide) (by decide) (by decide) O6.out (((ONE.out.below BW.out)).below U6.out) (by decide) (ofL_ok _ _ (nth_all lU21 _ (by decide) (by decide)))).mono ?_
  rintro e v7 ⟨he, hb⟩
  rw [sh6] at he
  subst he
  have Z7 := Lib.hid (bnext (U6.out) hb)
  clear hb O6 U6 Z6
  go_wp2_with fail
  refine (shape_call none 0 [] (some ⟨ob, 0, none⟩) 1 [4] 1 1 _ (by decide) (by decide) (by decide) (fun i hi => by simp [len] at hi) (((ONE.out.below BW.out)).below Z7.out) (by decide) (fun _ => One.zero_ok)).mono ?_
  rintro e v8 ⟨he, hb⟩
  rw [sh7] at he
  subst he
  have Z8 := Lib.hid (bnext (Z7.out) hb)
  clear hb Z7
  go_wp2_with fail
  refine (of_any _ 3 lU21 _ (by decide) (alloc_u64s v8 _ _ lU21 rfl)).mono ?_
  rintro e u8 ⟨v, rfl, hv, hb⟩
  obtain ⟨oa8, oc8, rfl, ho, hc⟩ := own_ones (l := ofL lU21 1) hv
  have U8 := Lib.hid (bnext (balloc Z8.out _) hb)
  have O8 := Lib.hid ho
  clear hv hb ho
  go_wp2_with fail
  refine (shape_call oa8 oc8 (ofL lU21 1) none 0 [] 1 1 _ (by decide) (by decide) (by decide) O8.out (U64s.nil _ _) (by decide) (ofL_ok _ _ (nth_all lU21 _ (by decide) (by decide)))).mono ?_
  rintro e v9 ⟨he, hb⟩
  rw [sh8] at he
  subst he
  have Z9 := Lib.hid (bnext (U8.out) hb)
  clear hb O8 U8 Z8
  go_wp2_with fail
  refine (of_any _ 6 lV21 _ (by decide) (alloc_u64s v9 _ _ lV21 rfl)).mono ?_
  rintro e u9 ⟨v, rfl, hv, hb⟩
  obtain ⟨oa9, oc9, rfl, ho, hc⟩ := own_ones (l := ofL lV21 2) hv
  have U9 := Lib.hid (bnext (balloc Z9.out _) hb)
  have O9 := Lib.hid ho
  clear hv hb ho
  go_wp2_with fail
  refine (shape_call oa9 oc9 (ofL lV21 2) (some ⟨ob, 0, none⟩) 1 [4] 9 9 _ (by decide) (by decide) (by decide) O9.out (((ONE.out.below BW.out)).below U9.out) (by decide) (ofL_ok _ _ (nth_all lV21 _ (by decide) (by decide)))).mono ?_
  rintro e v10 ⟨he, hb⟩
  rw [sh9] at he
  subst he
  have Z10 := Lib.hid (bnext (U9.out) hb)
  clear hb O9 U9 Z9
  go_wp2_with fail
  refine (of_any _ 6 lW21 _ (by decide) (alloc_u64s v10 _ _ lW21 rfl)).mono ?_
  rintro e u10 ⟨v, rfl, hv, hb⟩
  obtain ⟨oa10, oc10, rfl, ho, hc⟩ := own_ones (l := ofL lW21 2) hv
  have U10 := Lib.hid (bnext (balloc Z10.out _) hb)
  have O10 := Lib.hid ho
  clear hv hb ho
  go_wp2_with fail
  refine (shape_call oa10 oc10 (ofL lW21 2) _ 2 [5, 4] 9 9 _ (by decide) (by decide) (by decide) (O10.out.below (balloc (Below.refl _ _) _)) (alloc_u64s u10 _ _ [5, 4] rfl) (by decide) (ofL_ok _ _ (nth_all lW21 _ (by decide) (by decide)))).mono ?_
  rintro e v11 ⟨he, hb⟩
  rw [sh10] at he
  subst he
  have Z11 := Lib.hid (bnext (balloc U10.out _) hb)
  clear hb O10 U10 Z10
  go_wp2_with fail
  refine (shape_call none 0 [] none 0 [] 0 (-1) _ (by decide) (by decide) (by decide) (fun i hi => by simp [len] at hi) (U64s.nil _ _) (by decide) (fun _ => One.zero_ok)).mono ?_
  rintro e v12 ⟨he, hb⟩
  rw [sh11] at he
  subst he
  have Z12 := Lib.hid (bnext (Z11.out) hb)
  clear hb Z11
  go_wp2_with fail
  go_ret
  exact ⟨rfl, bnext BV1.out (bnext BW.out Z12.out)⟩
end Go.Proofs.YtihiaopilnjonaaGreatDoor
