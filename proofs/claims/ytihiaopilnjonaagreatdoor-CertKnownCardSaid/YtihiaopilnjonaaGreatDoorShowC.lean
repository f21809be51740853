/- The statement CertShows. -/
import Derived.Test.YtihiaopilnjonaaGreatDoorShowB
namespace Go.Proofs.YtihiaopilnjonaaGreatDoor
open Go.RowKit
set_option linter.unusedSimpArgs false
set_option linter.unusedVariables false

def outOf (fs : List FSpec) : ByteArray × Int := if allMay fs then (layP fs, 0) else (⟨#[]⟩, 2)
theorem laidIs_out {fs : List FSpec} {w : World} {e : Ending} {w' : World} (h : LaidIs fs w e w') : e = .returned (.tuple #[.string (outOf fs).1, .int .i64 (outOf fs).2]) ∧ Below w.heap.size w w' := by
  refine ⟨?_, h.2⟩
  rw [h.1]
  unfold outOf
  cases allMay fs <;> rfl
/-- A reveal whose lists read as these. -/
structure RevTx (B : Nat) (w : World) (r : Rev) (ws ps : List ByteArray) : Prop where
  wn : r.wn = len ws
  pn : r.pn = len ps
  s1 : Strs B w r.wa ws
  s2 : Strs B w r.pa ps
  h1 : Short ws
  h2 : Short ps
  L : U64i r.L
  idx : U64i r.idx
  wt : U64i r.wt
  first : U64i r.first
  life : U64i r.life
  keys : U64i r.keys
  root : r.root.size < 65536
theorem catK3 (k1 k2 k3 v1 v2 v3 : ByteArray) : (catK [(k1, v1), (k2, v2), (k3, v3)]).size ≤ k1.size + k2.size + k3.size + v1.size + v2.size + v3.size + 27 := by
  have a1 : (catK [(k1, v1), (k2, v2), (k3, v3)]).size ≤ _ := catK_le ([] ++ [(k1, v1)] ++ [(k2, v2)]) k3 v3
  have a2 := catK_le ([] ++ [(k1, v1)]) k2 v2
  have a3 := catK_le [] k1 v1
  have e0 : (catK []).size = 0 := rfl
  omega
theorem layP_slot (L : Int) (q : Bool) (idx : Int) {ws ps : List ByteArray} (h1 : Short ws) (h2 : Short ps) : (layP (slotSpecs L q idx ws ps)).size ≤ 10000000000 := by
  rw [slot_same L q idx ws ps (by have := h1.1; omega) (by have := h2.1; omega)]
  have h0 := rlayP_len (slotPs L q idx ws ps)
  have a1 := catK3 ⟨#[103]⟩ ⟨#[108]⟩ ⟨#[115]⟩ (smallR (rlayP (sigPs idx ws ps))) (numR L) (if q then numP 1 else ⟨#[]⟩)
  rw [show catK [(⟨#[103]⟩, smallR (rlayP (sigPs idx ws ps))), (⟨#[108]⟩, numR L), (⟨#[115]⟩, if q then numP 1 else ⟨#[]⟩)] = catK (slotPs L q idx ws ps) from rfl] at a1
  have a4 := numR_len L
  have a5 : (smallR (rlayP (sigPs idx ws ps))).size ≤ 9000000000 := smallR_len (sigPs_len idx h1 h2)
  have a6 : (if q then numP 1 else (⟨#[]⟩ : ByteArray)).size ≤ 9 := by
    cases q
    · decide
    · exact laidP_len 0 1 ByteArray.empty
  have e0 : (catK []).size = 0 := rfl
  have e1 : (⟨#[103]⟩ : ByteArray).size = 1 := rfl
  have e2 : (⟨#[108]⟩ : ByteArray).size = 1 := rfl
  have e3 : (⟨#[115]⟩ : ByteArray).size = 1 := rfl
  omega
theorem layP_part (root : ByteArray) (weight first life keys : Int) (hr : root.size < 65536) : (layP (partSpecs root weight first life keys)).size ≤ 100000 := by
  rw [part_same root weight first life keys hr]
  have h0 := rlayP_len (partPs root weight first life keys)
  have a1 : (catK (partPs root weight first life keys)).size ≤ _ := catK_le ([] ++ [(⟨#[102]⟩, numR first)] ++ [(⟨#[107]⟩, numR keys)] ++ [(⟨#[108]⟩, numR life)] ++ [(⟨#[114]⟩, binP root)]) ⟨#[119]⟩ (numR weight)
  have a2 := catK_le ([] ++ [(⟨#[102]⟩, numR first)] ++ [(⟨#[107]⟩, numR keys)] ++ [(⟨#[108]⟩, numR life)]) ⟨#[114]⟩ (binP root)
  have a3 := catK_le ([] ++ [(⟨#[102]⟩, numR first)] ++ [(⟨#[107]⟩, numR keys)]) ⟨#[108]⟩ (numR life)
  have a4 := catK_le ([] ++ [(⟨#[102]⟩, numR first)]) ⟨#[107]⟩ (numR keys)
  have a5 := catK_le [] ⟨#[102]⟩ (numR first)
  have b1 := numR_len weight
  have b2 := numR_len life
  have b3 := numR_len keys
  have b4 := numR_len first
  have b5 := binP_len root
  have e0 : (catK []).size = 0 := rfl
  have e1 : (⟨#[102]⟩ : ByteArray).size = 1 := rfl
  have e2 : (⟨#[107]⟩ : ByteArray).size = 1 := rfl
  have e3 : (⟨#[108]⟩ : ByteArray).size = 1 := rfl
  have e4 : (⟨#[114]⟩ : ByteArray).size = 1 := rfl
  have e5 : (⟨#[119]⟩ : ByteArray).size = 1 := rfl
  omega
abbrev slotO (r : Rev) (ws ps : List ByteArray) : ByteArray × Int := outOf (slotSpecs r.L r.signed r.idx ws ps)
abbrev partO (r : Rev) : ByteArray × Int := outOf (partSpecs r.root r.wt r.first r.life r.keys)
def slotOuts (l : List Rev) (ws ps : Nat → List ByteArray) : Outs := (List.range (len l)).map fun i => slotO (rnth l i) (ws i) (ps i)
def partOuts (l : List Rev) : Outs := (List.range (len l)).map fun i => partO (rnth l i)
theorem slotOuts_len (l : List Rev) (ws ps : Nat → List ByteArray) : len (slotOuts l ws ps) = len l := by simp [slotOuts, len]
theorem partOuts_len (l : List Rev) : len (partOuts l) = len l := by simp [partOuts, len]
theorem slotOuts_at (l : List Rev) (ws ps : Nat → List ByteArray) (i : Nat) (h : i < len l) : oth (slotOuts l ws ps) i = slotO (rnth l i) (ws i) (ps i) := by
  rw [oth_eq _ i (by rw [← len_eq, slotOuts_len]; exact h)]; simp [slotOuts]
theorem partOuts_at (l : List Rev) (i : Nat) (h : i < len l) : oth (partOuts l) i = partO (rnth l i) := by
  rw [oth_eq _ i (by rw [← len_eq, partOuts_len]; exact h)]; simp [partOuts]
theorem tells_slot (B : Nat) (l : List Rev) (ws ps : Nat → List ByteArray) (w : World) (ht : PTab B w) (hx : ∀ i, i < len l → RevTx B w (rnth l i) (ws i) (ps i)) : Tells 24 (fun i => #[(rnth l i).slotV]) (slotOuts l ws ps) w := fun i hi w' hb => by
  rw [slotOuts_len] at hi
  rw [slotOuts_at l ws ps i hi]
  have h := hx i hi
  have hc := wslot_any B (rnth l i).L (rnth l i).signed (rnth l i).idx (rnth l i).wa (rnth l i).pa (rnth l i).wc (rnth l i).pc (ws i) (ps i) w' (ht.keep hb ht.size) (h.s1.below hb) (h.s2.below hb) h.idx.1 h.idx.2 h.L.1 h.L.2 (by have := h.h1.1; omega) (by have := h.h2.1; omega) (by have := layP_slot (rnth l i).L (rnth l i).signed (rnth l i).idx h.h1 h.h2; omega)
  rw [← h.wn, ← h.pn] at hc
  exact hc.mono fun e w2 hh => laidIs_out hh
theorem tells_refslot (B : Nat) (l : List Rev) (ws ps : Nat → List ByteArray) (w : World) (hx : ∀ i, i < len l → RevTx B w (rnth l i) (ws i) (ps i)) : Tells 34 (fun i => #[(rnth l i).slotV]) (slotOuts l ws ps) w := fun i hi w' hb => by
  rw [slotOuts_len] at hi
  rw [slotOuts_at l ws ps i hi]
  have h := hx i hi
  have hc := rslot_any B (rnth l i).L (rnth l i).signed (rnth l i).idx (rnth l i).wa (rnth l i).pa (rnth l i).wc (rnth l i).pc (ws i) (ps i) w' h.idx h.L (h.s1.below hb) (h.s2.below hb) (by have := h.h1.1; omega) (by have := h.h2.1; omega) (fun i hi => by have := h.h1.2 i hi; omega) (fun i hi => by have := h.h2.2 i hi; omega)
  rw [← h.wn, ← h.pn] at hc
  exact hc.mono fun e w2 hh => laidIs_out hh
theorem tells_part (B : Nat) (l : List Rev) (ws ps : Nat → List ByteArray) (w : World) (ht : PTab B w) (hx : ∀ i, i < len l → RevTx B w (rnth l i) (ws i) (ps i)) : Tells 25 (fun i => #[(rnth l i).partV]) (partOuts l) w := fun i hi w' hb => by
  rw [partOuts_len] at hi
  rw [partOuts_at l i hi]
  have h := hx i hi
  exact (wpart_any B (rnth l i).root (rnth l i).wt (rnth l i).first (rnth l i).life (rnth l i).keys w' (ht.keep hb ht.size) (by have := h.root; omega) h.wt h.first h.life h.keys (by have := layP_part (rnth l i).root (rnth l i).wt (rnth l i).first (rnth l i).life (rnth l i).keys h.root; omega)).mono fun e w2 hh => laidIs_out hh
theorem tells_refpart (B : Nat) (l : List Rev) (ws ps : Nat → List ByteArray) (w : World) (hx : ∀ i, i < len l → RevTx B w (rnth l i) (ws i) (ps i)) : Tells 27 (fun i => #[(rnth l i).partV]) (partOuts l) w := fun i hi w' hb => by
  rw [partOuts_len] at hi
  rw [partOuts_at l i hi]
  have h := hx i hi
  exact (rpart_any (rnth l i).root (rnth l i).wt (rnth l i).first (rnth l i).life (rnth l i).keys w' (by have := h.root; omega) h.wt h.first h.life h.keys).mono fun e w2 hh => laidIs_out hh
/-- The lists of the reveals that are made are empty. -/
theorem made_tx (B : Nat) (w : World) {l : List One} (hok : ∀ i, (onth l i).Ok) (i : Nat) (hi : i < len ((l.take 30).map revOf)) : RevTx B w (rnth ((l.take 30).map revOf) i) [] [] := by
  have h' : i < ((l.take 30).map revOf).length := hi
  have e : rnth ((l.take 30).map revOf) i = revOf (onth l i) := by
    rw [rnth_eq _ i h']
    have hil : i < l.length := by simp at h'; omega
    rw [List.getElem_map, List.getElem_take, onth_eq l i hil]
  rw [e]
  have o := hok i
  have z : U64i 0 := ⟨by decide, by decide⟩
  have n : ∀ a, Strs B w a [] := fun a i hi => by simp [len] at hi
  have s : Short [] := ⟨by decide, fun i hi => by simp [len] at hi⟩
  exact ⟨rfl, rfl, n _, n _, s, s, ⟨o.L0, by have := o.L1; show (onth l i).L ≤ _; omega⟩, z, ⟨o.wt0, by have := o.wt1; show (onth l i).wt ≤ _; omega⟩, z, z, z, by
    show (Array.replicate ((onth l i).root % 34).toNat (0 : UInt8)).size < _
    rw [Array.size_replicate]; have := o.root0; omega⟩
theorem eachIs_txs {outs : Outs} {w : World} {e : Ending} {w' : World} (h : EachIs outs w e w') : ∃ a k, e = .returned (.tuple #[.slice a (len (eachO outs).1) k, .int .i64 (eachO outs).2]) ∧ Txs w' a (eachO outs).1 ∧ Below w.heap.size w w' := by
  obtain ⟨v, rfl, hv, hb⟩ := h
  obtain ⟨a, k, rfl, ht⟩ := own_txs hv
  exact ⟨a, k, rfl, ht, hb⟩
theorem eachO_len : ∀ l : Outs, len (eachO l).1 ≤ len l
  | [] => Nat.le_refl _
  | x :: r => by
    have ih := eachO_len r
    rw [eachO]
    split
    · split
      · show (eachO r).1.length + 1 ≤ r.length + 1
        have : (eachO r).1.length ≤ r.length := ih
        omega
      · exact Nat.zero_le _
    · exact Nat.zero_le _
set_option maxRecDepth 100000 in
set_option maxHeartbeats 4000000 in
theorem shows_law (B : Nat) (a : Option Addr) (cap : Nat) (l : List One) (w : World) (hlen : len l ≤ 9223372036854775807) (hc : Ones w a l) (hok : ∀ i, (onth l i).Ok) (ht : PTab B w) :
    Calls Tryz.prog 3 #[.slice a (len l) cap] w fun e w' => e = .returned (.bool true) ∧ Below w.heap.size w w' := by
  have HC := Lib.hid hc
  have HOK := Lib.hid hok
  have HT := Lib.hid ht
  clear hc hok ht
  go_enter Tryz.func3, Tryz.ntmps3
  go_wp2_with fail
  refine (made_any a cap l none 0 [] 0 _ hlen (by decide) (Nat.le_refl _) HC.out (fun i hi => by simp [len] at hi) (fun i => ⟨(HOK.out i).root0, (HOK.out i).root1⟩)).mono ?_
  rintro e w1 ⟨c, rfl, h1, h2, h3, h4, h5, h6, hb⟩
  have hco := certOk_made h1 h2 h3 h4 h5 h6 (by decide) HOK.out
  have hn : len c.revs ≤ 30 := by rw [h1]; simp [len]; omega
  have htx : ∀ i, i < len c.revs → RevTx B w1 (rnth c.revs i) [] [] := fun i hi => by rw [h1] at hi ⊢; exact made_tx B w1 HOK.out i hi
  have HB := Lib.hid hb
  have HTX := Lib.hid htx
  have HCO := Lib.hid hco
  have HT1 := Lib.hid (HT.out.keep hb HT.out.size)
  clear h1 h2 h3 h4 h5 h6 hb htx hco
  obtain ⟨s, hs⟩ : ∃ s, slotOuts c.revs (fun _ => []) (fun _ => []) = s := ⟨_, rfl⟩
  obtain ⟨p, hp⟩ : ∃ p, partOuts c.revs = p := ⟨_, rfl⟩
  have hsl : len s = len c.revs := by rw [← hs]; exact slotOuts_len _ _ _
  have hpl : len p = len c.revs := by rw [← hp]; exact partOuts_len _
  have HSL := Lib.hid hsl
  have HPL := Lib.hid hpl
  have htx2 : ∀ V, Below w1.heap.size w1 V → ∀ i, i < len c.revs → RevTx B V (rnth c.revs i) [] [] := fun V hV i hi => by
    have h := HTX.out i hi
    exact ⟨h.wn, h.pn, h.s1.below hV, h.s2.below hV, h.h1, h.h2, h.L, h.idx, h.wt, h.first, h.life, h.keys, h.root⟩
  have TA : Hid (∀ V, Below w1.heap.size w1 V → Calls Tryz.prog 14 #[c.val] V (EachIs s V)) := Lib.hid (fun V hV => cslots_any c s V (by omega) HSL.out (HCO.out.revs.below hV) (by rw [← hs]; exact tells_slot B c.revs _ _ V (HT1.out.keep hV HT1.out.size) (htx2 V hV)))
  have TB : Hid (∀ V, Below w1.heap.size w1 V → Calls Tryz.prog 15 #[c.val] V (EachIs s V)) := Lib.hid (fun V hV => refslots_any c s V (by omega) HSL.out (HCO.out.revs.below hV) (by rw [← hs]; exact tells_refslot B c.revs _ _ V (htx2 V hV)))
  have TC : Hid (∀ V, Below w1.heap.size w1 V → Calls Tryz.prog 16 #[c.val] V (EachIs p V)) := Lib.hid (fun V hV => cparts_any c p V (by omega) HPL.out (HCO.out.revs.below hV) (by rw [← hp]; exact tells_part B c.revs (fun _ => []) (fun _ => []) V (HT1.out.keep hV HT1.out.size) (htx2 V hV)))
  have TD : Hid (∀ V, Below w1.heap.size w1 V → Calls Tryz.prog 17 #[c.val] V (EachIs p V)) := Lib.hid (fun V hV => refparts_any c p V (by omega) HPL.out (HCO.out.revs.below hV) (by rw [← hp]; exact tells_refpart B c.revs (fun _ => []) (fun _ => []) V (htx2 V hV)))
  obtain ⟨PO, hPO⟩ : ∃ PO, posOf c.revs = PO := ⟨_, rfl⟩
  have hPOl : len PO ≤ 30 := by rw [← hPO, len_posOf]; exact hn
  have HPN : Hid (len PO ≤ 9223372036854775807) := Lib.hid (by omega)
  have own_po : ∀ (V V' : World) (e : Ending), (∃ v, e = .returned v ∧ V'.ownsRow V.heap.size 23 1 v (len c.revs) ((posOf c.revs).map (Value.int .u64)) ∧ Below V.heap.size V V') → ∃ v, e = .returned v ∧ (∃ a k, v = .slice a (len PO) k ∧ U64s V' a PO) ∧ Below V.heap.size V V' := fun V V' e ⟨v, h1, h2, h3⟩ => by
    rw [hPO] at h2
    obtain ⟨a, k, h4, h5⟩ := own_u64s h2
    exact ⟨v, h1, ⟨a, k, h4, h5⟩, h3⟩
  have PA : Hid (∀ V, Below w1.heap.size w1 V → Calls Tryz.prog 19 #[c.val] V (fun e V' => ∃ v, e = .returned v ∧ (∃ a k, v = .slice a (len PO) k ∧ U64s V' a PO) ∧ Below V.heap.size V V')) := Lib.hid (fun V hV => (positions_any c V (by omega) (HCO.out.revs.below hV)).mono (fun e V' h => own_po V V' e h))
  have PB : Hid (∀ V, Below w1.heap.size w1 V → Calls Tryz.prog 20 #[c.val] V (fun e V' => ∃ v, e = .returned v ∧ (∃ a k, v = .slice a (len PO) k ∧ U64s V' a PO) ∧ Below V.heap.size V V')) := Lib.hid (fun V hV => (refPositions_any c V (by omega) (HCO.out.revs.below hV)).mono (fun e V' h => own_po V V' e h))
  obtain ⟨SL, hSL⟩ : ∃ SL, (eachO s).1 = SL := ⟨_, rfl⟩
  obtain ⟨PL, hPL⟩ : ∃ PL, (eachO p).1 = PL := ⟨_, rfl⟩
  obtain ⟨sk, hsk⟩ : ∃ sk, (eachO s).2 = sk := ⟨_, rfl⟩
  obtain ⟨pk, hpk⟩ : ∃ pk, (eachO p).2 = pk := ⟨_, rfl⟩
  have HSN : Hid (len SL ≤ 9223372036854775807) := Lib.hid (by rw [← hSL]; have := eachO_len s; omega)
  have HPLN : Hid (len PL ≤ 9223372036854775807) := Lib.hid (by rw [← hPL]; have := eachO_len p; omega)
  have ES : Hid (∀ V e V', EachIs s V e V' → ∃ a k, e = .returned (.tuple #[.slice a (len SL) k, .int .i64 sk]) ∧ Txs V' a SL ∧ Below V.heap.size V V') := Lib.hid (fun V e V' h => by have := eachIs_txs h; rw [hSL, hsk] at this; exact this)
  have EP : Hid (∀ V e V', EachIs p V e V' → ∃ a k, e = .returned (.tuple #[.slice a (len PL) k, .int .i64 pk]) ∧ Txs V' a PL ∧ Below V.heap.size V V') := Lib.hid (fun V e V' h => by have := eachIs_txs h; rw [hPL, hpk] at this; exact this)
  clear hs hp hsl hpl htx2 hPO hPOl own_po hSL hPL hsk hpk hn
  go_wp2_with fail
  have hWB : Below w1.heap.size w1 (w1.alloc (.cells c.cells 28)) := balloc (Below.refl _ _) _
  have HBLK : Hid ((w1.alloc (.cells c.cells 28)).heap[w1.heap.size]? = some (.cells c.cells 28 (0, 0))) := Lib.hid (heap_alloc_new _ _)
  have HWB := Lib.hid hWB
  clear hWB
  refine (TA.out _ HWB.out).mono ?_
  rintro e W2 h
  obtain ⟨xa, xc, rfl, h1, h2⟩ := ES.out _ _ _ h
  have HX := Lib.hid h1
  have HST := Lib.hid h2
  have HBLK := Lib.hid ((h2.block _ (lt_of_block HBLK.out)).trans HBLK.out)
  have HWB := Lib.hid (bnext HWB.out h2)
  have c0 : World.cell? W2 ⟨w1.heap.size, 0, none⟩ = some (.string c.root) := block_cell HBLK.out 0
  have c1 : World.cell? W2 ⟨w1.heap.size, 1, none⟩ = some (.int .u64 c.signed) := block_cell HBLK.out 1
  have c2 : World.cell? W2 ⟨w1.heap.size, 2, none⟩ = some (.slice c.ra (len c.revs) c.rc) := block_cell HBLK.out 2
  have c3 : World.cell? W2 ⟨w1.heap.size, 3, none⟩ = some (.slice c.ca (len c.coins) c.cc) := block_cell HBLK.out 3
  have c4 : World.cell? W2 ⟨w1.heap.size, 4, none⟩ = some (.slice c.sa c.sn c.sc) := block_cell HBLK.out 4
  have c5 : World.cell? W2 ⟨w1.heap.size, 5, none⟩ = some (.slice c.pa c.pn c.pc) := block_cell HBLK.out 5
  clear h h1 h2
  go_wp2_with fail
  refine (TB.out _ HWB.out).mono ?_
  rintro e W3 h
  obtain ⟨ya, yc, rfl, h1, h2⟩ := ES.out _ _ _ h
  have HY := Lib.hid h1
  have HST := Lib.hid h2
  have HBLK := Lib.hid ((h2.block _ (lt_of_block HBLK.out)).trans HBLK.out)
  have HWB := Lib.hid (bnext HWB.out h2)
  have c0 : World.cell? W3 ⟨w1.heap.size, 0, none⟩ = some (.string c.root) := block_cell HBLK.out 0
  have c1 : World.cell? W3 ⟨w1.heap.size, 1, none⟩ = some (.int .u64 c.signed) := block_cell HBLK.out 1
  have c2 : World.cell? W3 ⟨w1.heap.size, 2, none⟩ = some (.slice c.ra (len c.revs) c.rc) := block_cell HBLK.out 2
  have c3 : World.cell? W3 ⟨w1.heap.size, 3, none⟩ = some (.slice c.ca (len c.coins) c.cc) := block_cell HBLK.out 3
  have c4 : World.cell? W3 ⟨w1.heap.size, 4, none⟩ = some (.slice c.sa c.sn c.sc) := block_cell HBLK.out 4
  have c5 : World.cell? W3 ⟨w1.heap.size, 5, none⟩ = some (.slice c.pa c.pn c.pc) := block_cell HBLK.out 5
  clear h h1 h2
  go_wp2_with fail
  have HX := Lib.hid (HX.out.below HST.out)
  refine (TC.out _ HWB.out).mono ?_
  rintro e W4 h
  obtain ⟨za, zc, rfl, h1, h2⟩ := EP.out _ _ _ h
  have HZ := Lib.hid h1
  have HST := Lib.hid h2
  have HBLK := Lib.hid ((h2.block _ (lt_of_block HBLK.out)).trans HBLK.out)
  have HWB := Lib.hid (bnext HWB.out h2)
  have c0 : World.cell? W4 ⟨w1.heap.size, 0, none⟩ = some (.string c.root) := block_cell HBLK.out 0
  have c1 : World.cell? W4 ⟨w1.heap.size, 1, none⟩ = some (.int .u64 c.signed) := block_cell HBLK.out 1
  have c2 : World.cell? W4 ⟨w1.heap.size, 2, none⟩ = some (.slice c.ra (len c.revs) c.rc) := block_cell HBLK.out 2
  have c3 : World.cell? W4 ⟨w1.heap.size, 3, none⟩ = some (.slice c.ca (len c.coins) c.cc) := block_cell HBLK.out 3
  have c4 : World.cell? W4 ⟨w1.heap.size, 4, none⟩ = some (.slice c.sa c.sn c.sc) := block_cell HBLK.out 4
  have c5 : World.cell? W4 ⟨w1.heap.size, 5, none⟩ = some (.slice c.pa c.pn c.pc) := block_cell HBLK.out 5
  clear h h1 h2
  go_wp2_with fail
  have HX := Lib.hid (HX.out.below HST.out)
  have HY := Lib.hid (HY.out.below HST.out)
  refine (TD.out _ HWB.out).mono ?_
  rintro e W5 h
  obtain ⟨qa, qc, rfl, h1, h2⟩ := EP.out _ _ _ h
  have HQ := Lib.hid h1
  have HST := Lib.hid h2
  have HBLK := Lib.hid ((h2.block _ (lt_of_block HBLK.out)).trans HBLK.out)
  have HWB := Lib.hid (bnext HWB.out h2)
  have c0 : World.cell? W5 ⟨w1.heap.size, 0, none⟩ = some (.string c.root) := block_cell HBLK.out 0
  have c1 : World.cell? W5 ⟨w1.heap.size, 1, none⟩ = some (.int .u64 c.signed) := block_cell HBLK.out 1
  have c2 : World.cell? W5 ⟨w1.heap.size, 2, none⟩ = some (.slice c.ra (len c.revs) c.rc) := block_cell HBLK.out 2
  have c3 : World.cell? W5 ⟨w1.heap.size, 3, none⟩ = some (.slice c.ca (len c.coins) c.cc) := block_cell HBLK.out 3
  have c4 : World.cell? W5 ⟨w1.heap.size, 4, none⟩ = some (.slice c.sa c.sn c.sc) := block_cell HBLK.out 4
  have c5 : World.cell? W5 ⟨w1.heap.size, 5, none⟩ = some (.slice c.pa c.pn c.pc) := block_cell HBLK.out 5
  clear h h1 h2
  go_wp2_with fail
  have HX := Lib.hid (HX.out.below HST.out)
  have HY := Lib.hid (HY.out.below HST.out)
  have HZ := Lib.hid (HZ.out.below HST.out)
  go_upto_region 6 with fail
  have HPO : Hid (∀ V, Below W5.heap.size W5 V → Calls Tryz.prog 19 #[c.val] V (fun e V' => ∃ v, e = .returned v ∧ (∃ a k, v = .slice a (len PO) k ∧ U64s V' a PO) ∧ Below V.heap.size V V')) := Lib.hid (fun V hV => PA.out V (bnext HWB.out hV))
  have HPR : Hid (∀ V, Below W5.heap.size W5 V → Calls Tryz.prog 20 #[c.val] V (fun e V' => ∃ v, e = .returned v ∧ (∃ a k, v = .slice a (len PO) k ∧ U64s V' a PO) ∧ Below V.heap.size V V')) := Lib.hid (fun V hV => PB.out V (bnext HWB.out hV))
  clear PA PB
  --REGION sextant/sextantlaw21.CertShows 6 shows6
  refine wp_region_all 1000 (none) (phis [fun u _ => u = (c.val), fun u w' => ∃ a k, u = .slice a (len PO) k ∧ U64s w' a PO, fun u _ => u = (c.val), fun u w' => ∃ a k, u = .slice a (len PO) k ∧ U64s w' a PO, fun u _ => u = (.bool true), fun u _ => u = (.bool true), fun u _ => u = (.slice xa (len SL) xc), fun u _ => u = (.slice ya (len SL) yc), fun u _ => u = (.bool true), fun u _ => u = (.bool true), fun u _ => u = (.bool true), fun u _ => u = (.int .i64 sk), fun u _ => u = (.int .i64 sk), fun u _ => u = (.bool true), fun u _ => u = (.bool true), fun u _ => u = (.bool true), fun u _ => u = (.slice za (len PL) zc), fun u _ => u = (.slice qa (len PL) qc), fun u _ => u = (.bool true), fun u _ => u = (.bool true), fun u _ => u = (.bool true), fun u _ => u = (.int .i64 pk), fun u _ => u = (.int .i64 pk), fun u _ => u = (.bool true), fun u _ => u = (.bool true), fun u _ => u = (.bool true), fun u _ => u = (.bool true), fun u _ => u = (.bool true), fun u _ => u = (.bool true)]) rfl (by kernel_rfl) (mono_of ⟨mono_eq, ?m1, mono_eq, ?m3, mono_eq, mono_eq, mono_eq, mono_eq, mono_eq, mono_eq, mono_eq, mono_eq, mono_eq, mono_eq, mono_eq, mono_eq, mono_eq, mono_eq, mono_eq, mono_eq, mono_eq, mono_eq, mono_eq, mono_eq, mono_eq, mono_eq, mono_eq, mono_eq, mono_eq, trivial⟩) (steps_of 29 ⟨?s0, ?s1, ?s2, ?s3, ?s4, ?s5, ?s6, ?s7, ?s8, ?s9, ?s10, ?s11, ?s12, ?s13, ?s14, ?s15, ?s16, ?s17, ?s18, ?s19, ?s20, ?s21, ?s22, ?s23, ?s24, ?s25, ?s26, ?s27, ?s28, trivial⟩) ?_
  case m1 =>
    exact ⟨fun u w1 w2 h ⟨a, k, h1, h2⟩ => ⟨a, k, h1, h2.below h⟩, fun _ u w1 w2 h ⟨a, k, h1, h2⟩ => ⟨a, k, h1, h2.below (extB_none h)⟩⟩
  case m3 =>
    exact ⟨fun u w1 w2 h ⟨a, k, h1, h2⟩ => ⟨a, k, h1, h2.below h⟩, fun _ u w1 w2 h ⟨a, k, h1, h2⟩ => ⟨a, k, h1, h2.below (extB_none h)⟩⟩
  case s0 =>
    refine step_val (v := (c.val)) (fun av wv hE hS hO hD => ?_) (fun _ => rfl)
    have h3 : av.eval (.tmp 3) = (.pointer (some ⟨w1.heap.size, 0, none⟩)) := hO.2.2 3 rfl
    have f3 := (ev_form av 3).symm.trans h3
    have c0 := extB_cell hE (by simp) c0
    have c1 := extB_cell hE (by simp) c1
    have c2 := extB_cell hE (by simp) c2
    have c3 := extB_cell hE (by simp) c3
    have c4 := extB_cell hE (by simp) c4
    have c5 := extB_cell hE (by simp) c5
    refine ⟨rfl, ?_⟩
    simp [go_sem, f3, c0, c1, c2, c3, c4, c5]
  case s1 =>
    refine step_wp (fun av wv hE hS hO hD => ?_)
    have d34 : av.eval (.tmp 34) = (c.val) := hD.1 rfl _ rfl
    have f34 := (ev_form av 34).symm.trans d34
    refine ⟨rfl, ?_⟩
    refine wp_of_callP (f := 19) (args := #[c.val]) (R := fun u w2 => (∃ a k, u = .slice a (len PO) k ∧ U64s w2 a PO) ∧ Below wv.heap.size wv w2) (by simp [go_sem, f34]) ((HPO.out wv (of_drew hE)).mono (fun e w2 h => h)) (fun u w2 h => ⟨u, rfl, es_of_ext h.2, h.1⟩)
  case s2 =>
    refine step_val (v := (c.val)) (fun av wv hE hS hO hD => ?_) (fun _ => rfl)
    have h3 : av.eval (.tmp 3) = (.pointer (some ⟨w1.heap.size, 0, none⟩)) := hO.2.2 3 rfl
    have f3 := (ev_form av 3).symm.trans h3
    have c0 := extB_cell hE (by simp) c0
    have c1 := extB_cell hE (by simp) c1
    have c2 := extB_cell hE (by simp) c2
    have c3 := extB_cell hE (by simp) c3
    have c4 := extB_cell hE (by simp) c4
    have c5 := extB_cell hE (by simp) c5
    refine ⟨rfl, ?_⟩
    simp [go_sem, f3, c0, c1, c2, c3, c4, c5]
  case s3 =>
    refine step_wp (fun av wv hE hS hO hD => ?_)
    have d36 : av.eval (.tmp 36) = (c.val) := hD.1 rfl _ rfl
    have f36 := (ev_form av 36).symm.trans d36
    refine ⟨rfl, ?_⟩
    refine wp_of_callP (f := 20) (args := #[c.val]) (R := fun u w2 => (∃ a k, u = .slice a (len PO) k ∧ U64s w2 a PO) ∧ Below wv.heap.size wv w2) (by simp [go_sem, f36]) ((HPR.out wv (of_drew hE)).mono (fun e w2 h => h)) (fun u w2 h => ⟨u, rfl, es_of_ext h.2, h.1⟩)
  case s4 =>
    refine step_wp (fun av wv hE hS hO hD => ?_)
    have d35 : (fun u w' => ∃ a k, u = .slice a (len PO) k ∧ U64s w' a PO) (av.eval (.tmp 35)) wv := hD.1 rfl _ rfl
    have d37 : (fun u w' => ∃ a k, u = .slice a (len PO) k ∧ U64s w' a PO) (av.eval (.tmp 37)) wv := hD.2.1 rfl _ rfl
    refine ⟨rfl, ?_⟩
    obtain ⟨a35, k35, hu35, hv35⟩ := d35
    obtain ⟨a37, k37, hu37, hv37⟩ := d37
    have f35 := (ev_form av 35).symm.trans hu35
    have f37 := (ev_form av 37).symm.trans hu37
    refine wp_of_call (v := (.bool true)) (by simp [go_sem, f35, f37]) (nums21_any a35 a37 k35 k37 PO wv hv35 hv37 HPN.out) (fun w2 hb => ⟨_, rfl, es_of_ext hb, rfl⟩)
  case s5 =>
    refine step_val (v := (.bool true)) (fun av wv hE hS hO hD => ?_) (fun _ => rfl)
    have d38 : av.eval (.tmp 38) = (.bool true) := hD.1 rfl _ rfl
    have f38 := (ev_form av 38).symm.trans d38
    refine ⟨rfl, ?_⟩
    simp [go_sem, f38]
  case s6 =>
    refine step_val (v := (.slice xa (len SL) xc)) (fun av wv hE hS hO hD => ?_) (fun _ => rfl)
    have h4 : av.eval (.tmp 4) = (.slice xa (len SL) xc) := hO.2.2 4 rfl
    have f4 := (ev_form av 4).symm.trans h4
    have d39 : av.eval (.tmp 39) = (.bool true) := hD.1 rfl _ rfl
    have f39 := (ev_form av 39).symm.trans d39
    refine ⟨(wanted_of (d := 39) (b := true) (want := true) rfl rfl rfl d39), ?_⟩
    simp [go_sem, f4, f39]
  case s7 =>
    refine step_val (v := (.slice ya (len SL) yc)) (fun av wv hE hS hO hD => ?_) (fun _ => rfl)
    have h6 : av.eval (.tmp 6) = (.slice ya (len SL) yc) := hO.2.2 6 rfl
    have f6 := (ev_form av 6).symm.trans h6
    have d39 : av.eval (.tmp 39) = (.bool true) := hD.1 rfl _ rfl
    have f39 := (ev_form av 39).symm.trans d39
    refine ⟨(wanted_of (d := 39) (b := true) (want := true) rfl rfl rfl d39), ?_⟩
    simp [go_sem, f6, f39]
  case s8 =>
    refine step_wp (fun av wv hE hS hO hD => ?_)
    have d40 : av.eval (.tmp 40) = (.slice xa (len SL) xc) := hD.1 rfl _ rfl
    have f40 := (ev_form av 40).symm.trans d40
    have d41 : av.eval (.tmp 41) = (.slice ya (len SL) yc) := hD.2.1 rfl _ rfl
    have f41 := (ev_form av 41).symm.trans d41
    have d39 : av.eval (.tmp 39) = (.bool true) := hD.2.2.1 rfl _ rfl
    have f39 := (ev_form av 39).symm.trans d39
    refine ⟨(wanted_of (d := 39) (b := true) (want := true) rfl rfl rfl d39), ?_⟩
    refine wp_of_call (v := (.bool true)) (by simp [go_sem, f40, f41, f39]) (texts21_any xa ya xc yc SL wv (HX.out.below (of_drew hE)) (HY.out.below (of_drew hE)) HSN.out) (fun w2 hb => ⟨_, rfl, es_of_ext hb, rfl⟩)
  case s9 =>
    refine step_val (v := (.bool true)) (fun av wv hE hS hO hD => ?_) (fun _ => rfl)
    have d39 : av.eval (.tmp 39) = (.bool true) := hD.1 rfl _ rfl
    have f39 := (ev_form av 39).symm.trans d39
    have d42 : av.eval (.tmp 42) = (.bool true) := hD.2.1 rfl _ rfl
    have f42 := (ev_form av 42).symm.trans d42
    refine ⟨rfl, ?_⟩
    simp [go_sem, f39, f42]
  case s10 =>
    refine step_val (v := (.bool true)) (fun av wv hE hS hO hD => ?_) (fun _ => rfl)
    have d43 : av.eval (.tmp 43) = (.bool true) := hD.1 rfl _ rfl
    have f43 := (ev_form av 43).symm.trans d43
    refine ⟨rfl, ?_⟩
    simp [go_sem, f43]
  case s11 =>
    refine step_val (v := (.int .i64 sk)) (fun av wv hE hS hO hD => ?_) (fun _ => rfl)
    have h5 : av.eval (.tmp 5) = (.int .i64 sk) := hO.2.2 5 rfl
    have f5 := (ev_form av 5).symm.trans h5
    have d44 : av.eval (.tmp 44) = (.bool true) := hD.1 rfl _ rfl
    have f44 := (ev_form av 44).symm.trans d44
    refine ⟨(wanted_of (d := 44) (b := true) (want := true) rfl rfl rfl d44), ?_⟩
    simp [go_sem, f5, f44]
  case s12 =>
    refine step_val (v := (.int .i64 sk)) (fun av wv hE hS hO hD => ?_) (fun _ => rfl)
    have h7 : av.eval (.tmp 7) = (.int .i64 sk) := hO.2.2 7 rfl
    have f7 := (ev_form av 7).symm.trans h7
    have d44 : av.eval (.tmp 44) = (.bool true) := hD.1 rfl _ rfl
    have f44 := (ev_form av 44).symm.trans d44
    refine ⟨(wanted_of (d := 44) (b := true) (want := true) rfl rfl rfl d44), ?_⟩
    simp [go_sem, f7, f44]
  case s13 =>
    refine step_val (v := (.bool true)) (fun av wv hE hS hO hD => ?_) (fun _ => rfl)
    have d45 : av.eval (.tmp 45) = (.int .i64 sk) := hD.1 rfl _ rfl
    have f45 := (ev_form av 45).symm.trans d45
    have d46 : av.eval (.tmp 46) = (.int .i64 sk) := hD.2.1 rfl _ rfl
    have f46 := (ev_form av 46).symm.trans d46
    have d44 : av.eval (.tmp 44) = (.bool true) := hD.2.2.1 rfl _ rfl
    have f44 := (ev_form av 44).symm.trans d44
    refine ⟨(wanted_of (d := 44) (b := true) (want := true) rfl rfl rfl d44), ?_⟩
    simp [go_sem, f45, f46, f44]
  case s14 =>
    refine step_val (v := (.bool true)) (fun av wv hE hS hO hD => ?_) (fun _ => rfl)
    have d44 : av.eval (.tmp 44) = (.bool true) := hD.1 rfl _ rfl
    have f44 := (ev_form av 44).symm.trans d44
    have d47 : av.eval (.tmp 47) = (.bool true) := hD.2.1 rfl _ rfl
    have f47 := (ev_form av 47).symm.trans d47
    refine ⟨rfl, ?_⟩
    simp [go_sem, f44, f47]
  case s15 =>
    refine step_val (v := (.bool true)) (fun av wv hE hS hO hD => ?_) (fun _ => rfl)
    have d48 : av.eval (.tmp 48) = (.bool true) := hD.1 rfl _ rfl
    have f48 := (ev_form av 48).symm.trans d48
    refine ⟨rfl, ?_⟩
    simp [go_sem, f48]
  case s16 =>
    refine step_val (v := (.slice za (len PL) zc)) (fun av wv hE hS hO hD => ?_) (fun _ => rfl)
    have h8 : av.eval (.tmp 8) = (.slice za (len PL) zc) := hO.2.2 8 rfl
    have f8 := (ev_form av 8).symm.trans h8
    have d49 : av.eval (.tmp 49) = (.bool true) := hD.1 rfl _ rfl
    have f49 := (ev_form av 49).symm.trans d49
    refine ⟨(wanted_of (d := 49) (b := true) (want := true) rfl rfl rfl d49), ?_⟩
    simp [go_sem, f8, f49]
  case s17 =>
    refine step_val (v := (.slice qa (len PL) qc)) (fun av wv hE hS hO hD => ?_) (fun _ => rfl)
    have h10 : av.eval (.tmp 10) = (.slice qa (len PL) qc) := hO.2.2 10 rfl
    have f10 := (ev_form av 10).symm.trans h10
    have d49 : av.eval (.tmp 49) = (.bool true) := hD.1 rfl _ rfl
    have f49 := (ev_form av 49).symm.trans d49
    refine ⟨(wanted_of (d := 49) (b := true) (want := true) rfl rfl rfl d49), ?_⟩
    simp [go_sem, f10, f49]
  case s18 =>
    refine step_wp (fun av wv hE hS hO hD => ?_)
    have d50 : av.eval (.tmp 50) = (.slice za (len PL) zc) := hD.1 rfl _ rfl
    have f50 := (ev_form av 50).symm.trans d50
    have d51 : av.eval (.tmp 51) = (.slice qa (len PL) qc) := hD.2.1 rfl _ rfl
    have f51 := (ev_form av 51).symm.trans d51
    have d49 : av.eval (.tmp 49) = (.bool true) := hD.2.2.1 rfl _ rfl
    have f49 := (ev_form av 49).symm.trans d49
    refine ⟨(wanted_of (d := 49) (b := true) (want := true) rfl rfl rfl d49), ?_⟩
    refine wp_of_call (v := (.bool true)) (by simp [go_sem, f50, f51, f49]) (texts21_any za qa zc qc PL wv (HZ.out.below (of_drew hE)) (HQ.out.below (of_drew hE)) HPLN.out) (fun w2 hb => ⟨_, rfl, es_of_ext hb, rfl⟩)
  case s19 =>
    refine step_val (v := (.bool true)) (fun av wv hE hS hO hD => ?_) (fun _ => rfl)
    have d49 : av.eval (.tmp 49) = (.bool true) := hD.1 rfl _ rfl
    have f49 := (ev_form av 49).symm.trans d49
    have d52 : av.eval (.tmp 52) = (.bool true) := hD.2.1 rfl _ rfl
    have f52 := (ev_form av 52).symm.trans d52
    refine ⟨rfl, ?_⟩
    simp [go_sem, f49, f52]
  case s20 =>
    refine step_val (v := (.bool true)) (fun av wv hE hS hO hD => ?_) (fun _ => rfl)
    have d53 : av.eval (.tmp 53) = (.bool true) := hD.1 rfl _ rfl
    have f53 := (ev_form av 53).symm.trans d53
    refine ⟨rfl, ?_⟩
    simp [go_sem, f53]
  case s21 =>
    refine step_val (v := (.int .i64 pk)) (fun av wv hE hS hO hD => ?_) (fun _ => rfl)
    have h9 : av.eval (.tmp 9) = (.int .i64 pk) := hO.2.2 9 rfl
    have f9 := (ev_form av 9).symm.trans h9
    have d54 : av.eval (.tmp 54) = (.bool true) := hD.1 rfl _ rfl
    have f54 := (ev_form av 54).symm.trans d54
    refine ⟨(wanted_of (d := 54) (b := true) (want := true) rfl rfl rfl d54), ?_⟩
    simp [go_sem, f9, f54]
  case s22 =>
    refine step_val (v := (.int .i64 pk)) (fun av wv hE hS hO hD => ?_) (fun _ => rfl)
    have h11 : av.eval (.tmp 11) = (.int .i64 pk) := hO.2.2 11 rfl
    have f11 := (ev_form av 11).symm.trans h11
    have d54 : av.eval (.tmp 54) = (.bool true) := hD.1 rfl _ rfl
    have f54 := (ev_form av 54).symm.trans d54
    refine ⟨(wanted_of (d := 54) (b := true) (want := true) rfl rfl rfl d54), ?_⟩
    simp [go_sem, f11, f54]
  case s23 =>
    refine step_val (v := (.bool true)) (fun av wv hE hS hO hD => ?_) (fun _ => rfl)
    have d55 : av.eval (.tmp 55) = (.int .i64 pk) := hD.1 rfl _ rfl
    have f55 := (ev_form av 55).symm.trans d55
    have d56 : av.eval (.tmp 56) = (.int .i64 pk) := hD.2.1 rfl _ rfl
    have f56 := (ev_form av 56).symm.trans d56
    have d54 : av.eval (.tmp 54) = (.bool true) := hD.2.2.1 rfl _ rfl
    have f54 := (ev_form av 54).symm.trans d54
    refine ⟨(wanted_of (d := 54) (b := true) (want := true) rfl rfl rfl d54), ?_⟩
    simp [go_sem, f55, f56, f54]
  case s24 =>
    refine step_val (v := (.bool true)) (fun av wv hE hS hO hD => ?_) (fun _ => rfl)
    have d54 : av.eval (.tmp 54) = (.bool true) := hD.1 rfl _ rfl
    have f54 := (ev_form av 54).symm.trans d54
    have d57 : av.eval (.tmp 57) = (.bool true) := hD.2.1 rfl _ rfl
    have f57 := (ev_form av 57).symm.trans d57
    refine ⟨rfl, ?_⟩
    simp [go_sem, f54, f57]
  case s25 =>
    refine step_val (v := (.bool true)) (fun av wv hE hS hO hD => ?_) (fun _ => rfl)
    have d58 : av.eval (.tmp 58) = (.bool true) := hD.1 rfl _ rfl
    have f58 := (ev_form av 58).symm.trans d58
    refine ⟨rfl, ?_⟩
    simp [go_sem, f58]
  case s26 =>
    refine step_wp (fun av wv hE hS hO hD => ?_)
    have d59 : av.eval (.tmp 59) = (.bool true) := hD.1 rfl _ rfl
    have f59 := (ev_form av 59).symm.trans d59
    refine ⟨(wanted_of (d := 59) (b := true) (want := true) rfl rfl rfl d59), ?_⟩
    refine wp_of_call (v := (.bool true)) (by simp [go_sem, f59]) (works_any wv) (fun w2 hb => ⟨_, rfl, es_of_ext hb, rfl⟩)
  case s27 =>
    refine step_val (v := (.bool true)) (fun av wv hE hS hO hD => ?_) (fun _ => rfl)
    have d59 : av.eval (.tmp 59) = (.bool true) := hD.1 rfl _ rfl
    have f59 := (ev_form av 59).symm.trans d59
    have d60 : av.eval (.tmp 60) = (.bool true) := hD.2.1 rfl _ rfl
    have f60 := (ev_form av 60).symm.trans d60
    refine ⟨rfl, ?_⟩
    simp [go_sem, f59, f60]
  case s28 =>
    refine step_val (v := (.bool true)) (fun av wv hE hS hO hD => ?_) (fun _ => rfl)
    have d61 : av.eval (.tmp 61) = (.bool true) := hD.1 rfl _ rfl
    have f61 := (ev_form av 61).symm.trans d61
    refine ⟨rfl, ?_⟩
    simp [go_sem, f61]
  intro a' w' hE hO hall
  have hA := act_of_outer (ds := [34, 35, 36, 37, 38, 39, 40, 41, 42, 43, 44, 45, 46, 47, 48, 49, 50, 51, 52, 53, 54, 55, 56, 57, 58, 59, 60, 61, 2]) rfl hO (by kernel_rfl)
  have e34 : (fun u _ => u = (c.val)) (a'.eval (.tmp 34)) w' := hall.1 _ rfl
  have e35 : (fun u w' => ∃ a k, u = .slice a (len PO) k ∧ U64s w' a PO) (a'.eval (.tmp 35)) w' := hall.2.1 _ rfl
  have e36 : (fun u _ => u = (c.val)) (a'.eval (.tmp 36)) w' := hall.2.2.1 _ rfl
  have e37 : (fun u w' => ∃ a k, u = .slice a (len PO) k ∧ U64s w' a PO) (a'.eval (.tmp 37)) w' := hall.2.2.2.1 _ rfl
  have e38 : (fun u _ => u = (.bool true)) (a'.eval (.tmp 38)) w' := hall.2.2.2.2.1 _ rfl
  have e39 : (fun u _ => u = (.bool true)) (a'.eval (.tmp 39)) w' := hall.2.2.2.2.2.1 _ rfl
  have e40 : (fun u _ => u = (.slice xa (len SL) xc)) (a'.eval (.tmp 40)) w' := hall.2.2.2.2.2.2.1 _ rfl
  have e41 : (fun u _ => u = (.slice ya (len SL) yc)) (a'.eval (.tmp 41)) w' := hall.2.2.2.2.2.2.2.1 _ rfl
  have e42 : (fun u _ => u = (.bool true)) (a'.eval (.tmp 42)) w' := hall.2.2.2.2.2.2.2.2.1 _ rfl
  have e43 : (fun u _ => u = (.bool true)) (a'.eval (.tmp 43)) w' := hall.2.2.2.2.2.2.2.2.2.1 _ rfl
  have e44 : (fun u _ => u = (.bool true)) (a'.eval (.tmp 44)) w' := hall.2.2.2.2.2.2.2.2.2.2.1 _ rfl
  have e45 : (fun u _ => u = (.int .i64 sk)) (a'.eval (.tmp 45)) w' := hall.2.2.2.2.2.2.2.2.2.2.2.1 _ rfl
  have e46 : (fun u _ => u = (.int .i64 sk)) (a'.eval (.tmp 46)) w' := hall.2.2.2.2.2.2.2.2.2.2.2.2.1 _ rfl
  have e47 : (fun u _ => u = (.bool true)) (a'.eval (.tmp 47)) w' := hall.2.2.2.2.2.2.2.2.2.2.2.2.2.1 _ rfl
  have e48 : (fun u _ => u = (.bool true)) (a'.eval (.tmp 48)) w' := hall.2.2.2.2.2.2.2.2.2.2.2.2.2.2.1 _ rfl
  have e49 : (fun u _ => u = (.bool true)) (a'.eval (.tmp 49)) w' := hall.2.2.2.2.2.2.2.2.2.2.2.2.2.2.2.1 _ rfl
  have e50 : (fun u _ => u = (.slice za (len PL) zc)) (a'.eval (.tmp 50)) w' := hall.2.2.2.2.2.2.2.2.2.2.2.2.2.2.2.2.1 _ rfl
  have e51 : (fun u _ => u = (.slice qa (len PL) qc)) (a'.eval (.tmp 51)) w' := hall.2.2.2.2.2.2.2.2.2.2.2.2.2.2.2.2.2.1 _ rfl
  have e52 : (fun u _ => u = (.bool true)) (a'.eval (.tmp 52)) w' := hall.2.2.2.2.2.2.2.2.2.2.2.2.2.2.2.2.2.2.1 _ rfl
  have e53 : (fun u _ => u = (.bool true)) (a'.eval (.tmp 53)) w' := hall.2.2.2.2.2.2.2.2.2.2.2.2.2.2.2.2.2.2.2.1 _ rfl
  have e54 : (fun u _ => u = (.bool true)) (a'.eval (.tmp 54)) w' := hall.2.2.2.2.2.2.2.2.2.2.2.2.2.2.2.2.2.2.2.2.1 _ rfl
  have e55 : (fun u _ => u = (.int .i64 pk)) (a'.eval (.tmp 55)) w' := hall.2.2.2.2.2.2.2.2.2.2.2.2.2.2.2.2.2.2.2.2.2.1 _ rfl
  have e56 : (fun u _ => u = (.int .i64 pk)) (a'.eval (.tmp 56)) w' := hall.2.2.2.2.2.2.2.2.2.2.2.2.2.2.2.2.2.2.2.2.2.2.1 _ rfl
  have e57 : (fun u _ => u = (.bool true)) (a'.eval (.tmp 57)) w' := hall.2.2.2.2.2.2.2.2.2.2.2.2.2.2.2.2.2.2.2.2.2.2.2.1 _ rfl
  have e58 : (fun u _ => u = (.bool true)) (a'.eval (.tmp 58)) w' := hall.2.2.2.2.2.2.2.2.2.2.2.2.2.2.2.2.2.2.2.2.2.2.2.2.1 _ rfl
  have e59 : (fun u _ => u = (.bool true)) (a'.eval (.tmp 59)) w' := hall.2.2.2.2.2.2.2.2.2.2.2.2.2.2.2.2.2.2.2.2.2.2.2.2.2.1 _ rfl
  have e60 : (fun u _ => u = (.bool true)) (a'.eval (.tmp 60)) w' := hall.2.2.2.2.2.2.2.2.2.2.2.2.2.2.2.2.2.2.2.2.2.2.2.2.2.2.1 _ rfl
  have e61 : (fun u _ => u = (.bool true)) (a'.eval (.tmp 61)) w' := hall.2.2.2.2.2.2.2.2.2.2.2.2.2.2.2.2.2.2.2.2.2.2.2.2.2.2.2.1 _ rfl
  have e2 : (fun u _ => u = (.bool true)) (a'.eval (.tmp 2)) w' := hall.2.2.2.2.2.2.2.2.2.2.2.2.2.2.2.2.2.2.2.2.2.2.2.2.2.2.2.2.1 _ rfl
  obtain ⟨v35, hv35⟩ : ∃ v, a'.eval (.tmp 35) = v := ⟨_, rfl⟩
  rw [hv35] at e35
  obtain ⟨v37, hv37⟩ : ∃ v, a'.eval (.tmp 37) = v := ⟨_, rfl⟩
  rw [hv37] at e37
  simp only [List.foldl_cons, List.foldl_nil, Act.put, List.setIfInBounds_toArray, List.set_cons_succ, List.set_cons_zero, e34, hv35, e36, hv37, e38, e39, e40, e41, e42, e43, e44, e45, e46, e47, e48, e49, e50, e51, e52, e53, e54, e55, e56, e57, e58, e59, e60, e61, e2] at hA
  clear hO hall e34 hv35 e36 hv37 e38 e39 e40 e41 e42 e43 e44 e45 e46 e47 e48 e49 e50 e51 e52 e53 e54 e55 e56 e57 e58 e59 e60 e61 e2
  subst hA
  --ENDREGION
  go_wp2
  go_ret
  exact ⟨rfl, bnext HB.out (bnext HWB.out (of_drew hE))⟩
end Go.Proofs.YtihiaopilnjonaaGreatDoor
