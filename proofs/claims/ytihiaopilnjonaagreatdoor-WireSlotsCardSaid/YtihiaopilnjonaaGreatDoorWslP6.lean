/- Parts of the proof, one behind the other. -/
import Derived.Test.YtihiaopilnjonaaGreatDoorWslP5
namespace Go.Proofs.YtihiaopilnjonaaGreatDoor
open Go.RowKit
set_option linter.unusedSimpArgs false
set_option linter.unusedVariables false
theorem HoldsD.any {rb tb r t : Nat} {w : World} {v : Value} {d : DV} (h : HoldsD rb tb w v d) (hr : r ≤ tb) (ht : t ≤ tb) : HoldsD r t w v d := by
  have ko : ∀ {a : Option Addr}, Off rb tb a → Off r t a := fun h b off e => ⟨by have := (h b off e).2; omega, by have := (h b off e).2; omega⟩
  cases d with
  | num n => exact h
  | flag q => exact h
  | str s => exact h
  | strs l => obtain ⟨a, c, h1, h2, h3, h4⟩ := h; exact ⟨a, c, h1, h2, ko h3, h4⟩
  | nums l => obtain ⟨a, c, h1, h2, h3, h4⟩ := h; exact ⟨a, c, h1, h2, ko h3, h4⟩
  | revs l =>
    obtain ⟨a, c, h1, h2, h3, rs, h4, h5, h6⟩ := h
    exact ⟨a, c, h1, h2, ko h3, rs, h4, h5, fun i hi => by
      have h := h6 i hi
      exact ⟨h.pos, h.L, h.signed, h.idx, h.wn, h.ws, ko h.wo, h.pn, h.ps, ko h.po, h.root, h.wt, h.first, h.life, h.keys⟩⟩
def HoldsN (n : Nat) (w : World) (v : Value) (d : DV) : Prop := ∀ r t, r < n → t < n → HoldsD r t w v d
abbrev cellsSig (x : Rcd) (a1 : Option Addr) (c1 : Nat) (a2 : Option Addr) (c2 : Nat) : Array Value := #[.int .u64 (x 0).n, .slice a1 (len (x 1).l) c1, .slice a2 (len (x 2).l) c2]
theorem sig_of_rec {rb tb : Nat} {w : World} {x : Rcd} (h : RecAt rb tb 42 3 w x) (hk : Kd sig0 x) : ∃ (a1 : Option Addr) (c1 : Nat) (a2 : Option Addr) (c2 : Nat), w.heap[tb]? = some (.cells (cellsSig x a1 c1 a2 c2) 42 (0, 0)) ∧ HoldsD rb tb w (.slice a1 (len (x 1).l) c1) (x 1) ∧ HoldsD rb tb w (.slice a2 (len (x 2).l) c2) (x 2) := by
  obtain ⟨cs, h1, h2, h3⟩ := h
  obtain ⟨m0, e0⟩ := hk.num (show kindD (sig0 0) = _ from rfl)
  obtain ⟨u0, g0, d0⟩ := h3 0 (by decide)
  rw [e0] at d0
  simp only [HoldsD] at d0
  subst d0
  obtain ⟨m1, e1⟩ := hk.strs (show kindD (sig0 1) = _ from rfl)
  obtain ⟨u1, g1, d1⟩ := h3 1 (by decide)
  have D1 := d1
  rw [e1] at d1
  obtain ⟨a1, c1, q1, -⟩ := d1
  subst q1
  obtain ⟨m2, e2⟩ := hk.strs (show kindD (sig0 2) = _ from rfl)
  obtain ⟨u2, g2, d2⟩ := h3 2 (by decide)
  have D2 := d2
  rw [e2] at d2
  obtain ⟨a2, c2, q2, -⟩ := d2
  subst q2
  refine ⟨a1, c1, a2, c2, ?_, ?_, ?_⟩
  · rw [h1]; congr 2; apply Array.ext_getElem?; intro i
    match i with
    | 0 => rw [g0]; simp [e0, DV.n]
    | 1 => rw [g1]; simp [e1, DV.l]
    | 2 => rw [g2]; simp [e2, DV.l]
    | i + 3 => rw [Array.getElem?_eq_none (by omega)]; simp
  · have := D1; rw [e1] at this ⊢; exact this
  · have := D2; rw [e2] at this ⊢; exact this
theorem bd_n {s : ByteArray} {d : DV} (h : DBd s d) : U64i d.n := by cases d <;> first | exact h | exact (show U64i 0 from ⟨by decide, by decide⟩)
theorem bd_short {s : ByteArray} {d : DV} (h : DBd s d) (hs : s.size < 65536) : Short d.l := by
  cases d <;> first | exact ⟨Nat.zero_le _, fun i hi => absurd hi (by simp [len, DV.l])⟩ | skip
  next l =>
    refine ⟨Nat.le_trans h.1 (by decide), fun i hi => ?_⟩
    have hi' : i < l.length := hi
    show (sth l i).size < 65536
    rw [sth_eq l i hi']
    have := h.2 _ (List.getElem_mem hi')
    omega
theorem putW3 (x y : Rcd) : putW 2 3 x y = upd (upd (upd x 2 (y 0)) 3 (y 1)) 4 (y 2) := funext fun i => by
  by_cases h4 : i = 4
  · subst h4; rw [upd_at]; exact putW_in (o := 2) (k := 3) (i := 2) (by decide)
  · rw [upd_ne h4]
    by_cases h3 : i = 3
    · subst h3; rw [upd_at]; exact putW_in (o := 2) (k := 3) (i := 1) (by decide)
    · rw [upd_ne h3]
      by_cases h2 : i = 2
      · subst h2; rw [upd_at]; exact putW_in (o := 2) (k := 3) (i := 0) (by decide)
      · rw [upd_ne h2]; exact putW_out (by omega)
theorem lt_rec {rb tb n : Nat} {T : TypeId} {w : World} {x : Rcd} (h : RecAt rb tb T n w x) : tb < w.heap.size := by obtain ⟨cs, h1, _⟩ := h; exact lt_of_block h1
def sigR (y : Rcd) (σ : Cst) (cb rb : Nat) (s : ByteArray) (w : World) (e : Ending) (w' : World) : Prop := ∃ a1 c1 a2 c2, e = .returned (.agg (cellsSig y a1 c1 a2 c2)) ∧ Kd sig0 y ∧ HoldsN w.heap.size w' (.slice a1 (len (y 1).l) c1) (y 1) ∧ HoldsN w.heap.size w' (.slice a2 (len (y 2).l) c2) (y 2) ∧ CurIs w' cb rb s σ ∧ Chg rb cb w w'
def slotR (y : Rcd) (σ : Cst) (cb rb : Nat) (s : ByteArray) (w : World) (e : Ending) (w' : World) : Prop := ∃ a1 c1 a2 c2, e = .returned (.agg (cellsSlot y a1 c1 a2 c2)) ∧ Kd slot0 y ∧ HoldsN w.heap.size w' (.slice a1 (len (y 3).l) c1) (y 3) ∧ HoldsN w.heap.size w' (.slice a2 (len (y 4).l) c2) (y 4) ∧ CurIs w' cb rb s σ ∧ Chg rb cb w w'
set_option maxRecDepth 100000 in
set_option maxHeartbeats 8000000 in
theorem csig_any (cb rb : Nat) (s : ByteArray) (σ : Cst) (w : World) (h : CurIs w cb rb s σ) :
    Calls Tryz.prog 141 #[.pointer (some ⟨cb, 0, none⟩)] w (sigR (sigS s σ).1 (sigS s σ).2 cb rb s w) := by
  have hcs := h.clt
  have hrs := h.rlt
  have h1 := fun (w' : World) (hb : Below w.heap.size w w') => cpairs_any cb rb s σ w' (h.below hb)
  have hbd := pairsS_bd (s := s) (σ := σ)
  unfold sigS objS
  generalize pairsS s σ = z at h1 hbd ⊢
  obtain ⟨k0, σ1⟩ := z
  obtain ⟨N, rfl⟩ : ∃ k : Nat, k0 = k := ⟨k0.toNat, by have := hbd.1; simp only at this ⊢; omega⟩
  have hN : N ≤ 10240 := by have := hbd.2; simp only at this; omega
  have H := Lib.hid h1
  clear h1 h hbd
  simp only [Int.toNat_natCast]
  go_enter Tryz.func141, Tryz.ntmps141
  go_upto_region 2 with fail
  obtain ⟨b0, hb0⟩ : ∃ b0, w.heap.size = b0 := ⟨_, rfl⟩
  obtain ⟨V, hV⟩ : ∃ V, (w.alloc (.cells #[.int .u64 0, .slice none 0 0, .slice none 0 0] 42)).alloc (.cells #[.int .u64 0, .slice none 0 0, .slice none 0 0] 42) = V := ⟨_, rfl⟩
  have HV : Hid (Below w.heap.size w V) := Lib.hid (by rw [← hV]; exact balloc (balloc (Below.refl _ _) _) _)
  have V0 : Hid (V.heap[b0]? = some (.cells #[.int .u64 0, .slice none 0 0, .slice none 0 0] 42 (0, 0))) := Lib.hid (by rw [← hV, ← hb0]; exact block_alloc (heap_alloc_new _ _) _)
  have V1 : Hid (V.heap[b0 + 1]? = some (.cells #[.int .u64 0, .slice none 0 0, .slice none 0 0] 42 (0, 0))) := Lib.hid (by rw [← hV]; exact alloc_new_at _ (by simp [hb0]))
  have REC : Hid (RecAt rb (b0 + 1) 42 3 V sig0) := Lib.hid (rec_zero V1.out rfl (fun i hi => by
    match i, hi with
    | 0, _ => exact ⟨_, rfl, rfl⟩
    | 1, _ => exact ⟨_, rfl, rfl, rfl⟩
    | 2, _ => exact ⟨_, rfl, rfl, rfl⟩))
  have HB0 := Lib.hid hb0
  have hcb : cb < b0 := by omega
  have hrb : rb < b0 := by omega
  try rw [hV]
  try simp only [hb0]
  clear hV hb0
  go_wp2_with fail
  refine (H.out V HV.out).mono ?_
  rintro e w1 ⟨rfl, hc, hg⟩
  have HC1 := Lib.hid hc
  have HG1 : Hid (Chg rb cb w w1) := Lib.hid ((Chg.of_below HV.out).trans hg)
  have RES1 : Hid (w1.heap[b0]? = some (.cells #[.int .u64 0, .slice none 0 0, .slice none 0 0] 42 (0, 0))) := Lib.hid ((hg.block _ (lt_of_block V0.out) (by omega) (by omega)).trans V0.out)
  have REC1 : Hid (RecAt rb (b0 + 1) 42 3 w1 sig0) := Lib.hid (REC.out.cur hg (by omega) (by omega))
  clear hc hg H V0 V1 REC
  go_wp2
  go_loopg [5, 6] N (fun gg lv i wr => ∃ (m : Nat) (τ : Cst) (x : Rcd) (last : ByteArray), gg + m = N ∧ i = .int .u64 m ∧ lv = .string last ∧ Hid (rLoop s ⟨#[105, 112, 118]⟩ (sigQs s) N ⟨#[]⟩ sig0 σ1 = rLoop s ⟨#[105, 112, 118]⟩ (sigQs s) gg last x τ) ∧ Hid (CurIs wr cb rb s τ) ∧ Hid (Chg rb cb w wr) ∧ Hid (RecAt rb (b0 + 1) 42 3 wr x) ∧ Hid (Kd sig0 x) ∧ Hid (wr.heap[b0]? = some (.cells #[.int .u64 0, .slice none 0 0, .slice none 0 0] 42 (0, 0))))
  case atStart => exact ⟨0, σ1, sig0, ⟨#[]⟩, rfl, rfl, rfl, rfl, HC1.out, HG1.out, REC1.out, fun i => rfl, RES1.out⟩
  case round =>
    clear HC1 HG1 RES1 REC1
    obtain ⟨m, τ, x, last, hm, rfl, rfl, HD, HC, HG, REC, HK, RES⟩ := hrel
    by_cases hlt : m < N
    · obtain ⟨g', rfl⟩ : ∃ g', gk = g' + 1 := ⟨gk - 1, by omega⟩
      have i1 : (m : Int) < N := by omega
      have HB := Lib.hid (bad_any cb rb s τ _ HC.out)
      go_wp2_with fail
      refine HB.out.mono ?_
      rintro e w3 ⟨rfl, rfl⟩
      cases τ with
      | error f =>
        simp only [isBad]
        have HE : Hid (rLoop s ⟨#[105, 112, 118]⟩ (sigQs s) N ⟨#[]⟩ sig0 σ1 = (x, .error f)) := Lib.hid (by rw [HD.out, rLoop_bad])
        clear HB HD
        obtain ⟨a1, c1, a2, c2, hth, hl1, hl2⟩ := sig_of_rec REC.out HK.out
        have k0 : w3.cell? ⟨b0 + 1, 0, none⟩ = some (.int .u64 (x 0).n) := block_cell hth 0
        have k1 : w3.cell? ⟨b0 + 1, 1, none⟩ = some (.slice a1 (len (x 1).l) c1) := block_cell hth 1
        have k2 : w3.cell? ⟨b0 + 1, 2, none⟩ = some (.slice a2 (len (x 2).l) c2) := block_cell hth 2
        have g0 : ∀ o, w3.cell? ⟨b0, o, none⟩ = _ := block_cell RES.out
        have g1 : ∀ o, w3.frozen? ⟨b0, o, none⟩ = false := block_free RES.out
        have g2 : b0 < w3.heap.size := lt_of_block RES.out
        clear hth
        have HL1 := Lib.hid hl1
        have HL2 := Lib.hid hl2
        clear hl1 hl2
        go_wp2
        have hb := (block_setCell (block_setCell (block_setCell RES.out (o := 0) (.int .u64 (x 0).n)) (o := 1) (.slice a1 (len (x 1).l) c1)) (o := 2) (.slice a2 (len (x 2).l) c2))
        have d : ∀ o, _ = _ := block_cell hb
        refine bodyPost_ret (v := .agg (cellsSig x a1 c1 a2 c2)) ?_ rfl ?_
        · simp [results, Tryz.results141, go_sem, d]
        · rw [HE.out]
          have hk2 : ∀ b, b0 + 1 < b → ((((w3.setCell ⟨b0, 0, none⟩ (.int .u64 (x 0).n)).setCell ⟨b0, 1, none⟩ (.slice a1 (len (x 1).l) c1)).setCell ⟨b0, 2, none⟩ (.slice a2 (len (x 2).l) c2))).heap[b]? = w3.heap[b]? := fun b hb => by repeat rw [Below.heap_setCell _ _ _ _ (show b ≠ b0 by omega)]
          exact ⟨_, _, _, _, rfl, HK.out, fun r t hr ht => ((HL1.out).keep2 (fun b _ h9 _ => hk2 b h9)).any (by have := HB0.out; omega) (by have := HB0.out; omega), fun r t hr ht => ((HL2.out).keep2 (fun b _ h9 _ => hk2 b h9)).any (by have := HB0.out; omega) (by have := HB0.out; omega), (CurIs.setOff (CurIs.setOff (CurIs.setOff HC.out hcb hrb _) hcb hrb _) hcb hrb _), (Chg.setNew (Chg.setNew (Chg.setNew HG.out (show w.heap.size ≤ b0 by have := HB0.out; omega) _) (show w.heap.size ≤ b0 by have := HB0.out; omega) _) (show w.heap.size ≤ b0 by have := HB0.out; omega) _)⟩
      | ok a =>
        simp only [isBad]
        have HKY := Lib.hid (ckey_any cb rb s ⟨#[105, 112, 118]⟩ last (.ok a) w3 HC.out (by decide))
        have HE : Hid (rLoop s ⟨#[105, 112, 118]⟩ (sigQs s) N ⟨#[]⟩ sig0 σ1 = rLoop s ⟨#[105, 112, 118]⟩ (sigQs s) g' (keyS s ⟨#[105, 112, 118]⟩ last (.ok a)).1 (sw (sigQs s) (keyS s ⟨#[105, 112, 118]⟩ last (.ok a)).1 x (keyS s ⟨#[105, 112, 118]⟩ last (.ok a)).2).1 (sw (sigQs s) (keyS s ⟨#[105, 112, 118]⟩ last (.ok a)).1 x (keyS s ⟨#[105, 112, 118]⟩ last (.ok a)).2).2) := Lib.hid HD.out
        clear HB HD
        go_wp2_with fail
        refine HKY.out.mono ?_
        rintro e w4 ⟨rfl, hc, hg⟩
        have HC4 := Lib.hid hc
        have HG4 : Hid (Chg rb cb w w4) := Lib.hid (HG.out.trans hg)
        have REC4 := Lib.hid (REC.out.cur hg (by omega) (by omega))
        have RES4 : Hid (w4.heap[b0]? = some (.cells #[.int .u64 0, .slice none 0 0, .slice none 0 0] 42 (0, 0))) := Lib.hid ((hg.block _ (lt_of_block RES.out) (by omega) (by omega)).trans RES.out)
        clear hc hg HKY HC HG REC RES
        obtain ⟨key, hkey⟩ : ∃ key, (keyS s ⟨#[105, 112, 118]⟩ last (.ok a)).1 = key := ⟨_, rfl⟩
        obtain ⟨τ1, hτ1⟩ : ∃ τ1, (keyS s ⟨#[105, 112, 118]⟩ last (.ok a)).2 = τ1 := ⟨_, rfl⟩
        have HE : Hid (rLoop s ⟨#[105, 112, 118]⟩ (sigQs s) N ⟨#[]⟩ sig0 σ1 = rLoop s ⟨#[105, 112, 118]⟩ (sigQs s) g' key (sw (sigQs s) key x τ1).1 (sw (sigQs s) key x τ1).2) := Lib.hid (by have := HE.out; rw [hkey, hτ1] at this; exact this)
        have HC4 : Hid (CurIs w4 cb rb s τ1) := Lib.hid (by rw [← hτ1]; exact HC4.out)
        rw [hkey]
        clear hkey hτ1
        cases hq0 : (key.toList == [105]) with
        | true =>
          have es : sw (sigQs s) key x τ1 = (upd x 0 (.num (numS s τ1).1), (numS s τ1).2) := by unfold sigQs; simp only [sw, hq0, if_true, Bool.false_eq_true, if_false]; rfl
          have HE2 : Hid (rLoop s ⟨#[105, 112, 118]⟩ (sigQs s) N ⟨#[]⟩ sig0 σ1 = rLoop s ⟨#[105, 112, 118]⟩ (sigQs s) g' key (upd x 0 (.num (numS s τ1).1)) (numS s τ1).2) := Lib.hid (by rw [HE.out, es])
          have HNM := Lib.hid (cnum_any cb rb s τ1 w4 HC4.out)
          clear es HE
          go_wp2_with fail
          refine HNM.out.mono ?_
          rintro e w5 ⟨rfl, hc, hg⟩
          have HC5 := Lib.hid hc
          have HG5 := Lib.hid (HG4.out.trans hg)
          have hrec := REC4.out.cur hg (by omega) (by omega)
          have REC5 := Lib.hid hrec
          have RES5 : Hid (w5.heap[b0]? = some (.cells #[.int .u64 0, .slice none 0 0, .slice none 0 0] 42 (0, 0))) := Lib.hid ((hg.block _ (lt_of_block RES4.out) (by omega) (by omega)).trans RES4.out)
          obtain ⟨u, hu, -⟩ := hrec.get (show 0 < 3 by decide)
          have hfz := hrec.free 0
          clear hc hg hrec
          go_wp2
          go_roundg g'
          case rel => exact ⟨m + 1, _, _, key, by omega, by go_num, rfl, HE2.out, HC5.out.setOff (by omega) (by omega) _, HG5.out.setNew (show w.heap.size ≤ b0 + 1 by have := HB0.out; omega) _, REC5.out.set (show 0 < 3 by decide) rfl, HK.out.upd rfl, Lib.hid (block_setCell_ne RES5.out (show b0 ≠ b0 + 1 by omega) _)⟩
          case measure => omega
        | false =>
          cases hq1 : (key.toList == [112]) with
          | true =>
            have es : sw (sigQs s) key x τ1 = (upd x 2 (.strs (digsS s 16 τ1).1), (digsS s 16 τ1).2) := by unfold sigQs; simp only [sw, hq0, hq1, if_true, Bool.false_eq_true, if_false]; rfl
            have HE2 : Hid (rLoop s ⟨#[105, 112, 118]⟩ (sigQs s) N ⟨#[]⟩ sig0 σ1 = rLoop s ⟨#[105, 112, 118]⟩ (sigQs s) g' key (upd x 2 (.strs (digsS s 16 τ1).1)) (digsS s 16 τ1).2) := Lib.hid (by rw [HE.out, es])
            have HNM := Lib.hid (cdigs_any cb rb s 16 τ1 w4 HC4.out)
            clear es HE
            go_wp2_with fail
            refine HNM.out.mono ?_
            rintro e w5 ⟨v, rfl, hh, hc, hg⟩
            have hv := hh rb (b0 + 1) (Nat.lt_trans (Nat.lt_trans hrb (Nat.lt_succ_self b0)) (lt_rec REC4.out)) (lt_rec REC4.out)
            have HV := Lib.hid hv
            obtain ⟨av, cv, rfl, -⟩ := hv
            have HC5 := Lib.hid hc
            have HG5 := Lib.hid (HG4.out.trans hg)
            have hrec := REC4.out.cur hg (by omega) (by omega)
            have REC5 := Lib.hid hrec
            have RES5 : Hid (w5.heap[b0]? = some (.cells #[.int .u64 0, .slice none 0 0, .slice none 0 0] 42 (0, 0))) := Lib.hid ((hg.block _ (lt_of_block RES4.out) (by omega) (by omega)).trans RES4.out)
            obtain ⟨u, hu, -⟩ := hrec.get (show 2 < 3 by decide)
            have hfz := hrec.free 2
            clear hc hg hrec hh
            go_wp2
            go_roundg g'
            case rel => exact ⟨m + 1, _, _, key, by omega, by go_num, rfl, HE2.out, HC5.out.setOff (by omega) (by omega) _, HG5.out.setNew (show w.heap.size ≤ b0 + 1 by have := HB0.out; omega) _, REC5.out.set (show 2 < 3 by decide) HV.out, HK.out.upd rfl, Lib.hid (block_setCell_ne RES5.out (show b0 ≠ b0 + 1 by omega) _)⟩
            case measure => omega
          | false =>
            cases hq2 : (key.toList == [118]) with
            | true =>
              have es : sw (sigQs s) key x τ1 = (upd x 1 (.strs (digsS s 67 τ1).1), (digsS s 67 τ1).2) := by unfold sigQs; simp only [sw, hq0, hq1, hq2, if_true, Bool.false_eq_true, if_false]; rfl
              have HE2 : Hid (rLoop s ⟨#[105, 112, 118]⟩ (sigQs s) N ⟨#[]⟩ sig0 σ1 = rLoop s ⟨#[105, 112, 118]⟩ (sigQs s) g' key (upd x 1 (.strs (digsS s 67 τ1).1)) (digsS s 67 τ1).2) := Lib.hid (by rw [HE.out, es])
              have HNM := Lib.hid (cdigs_any cb rb s 67 τ1 w4 HC4.out)
              clear es HE
              go_wp2_with fail
              refine HNM.out.mono ?_
              rintro e w5 ⟨v, rfl, hh, hc, hg⟩
              have hv := hh rb (b0 + 1) (Nat.lt_trans (Nat.lt_trans hrb (Nat.lt_succ_self b0)) (lt_rec REC4.out)) (lt_rec REC4.out)
              have HV := Lib.hid hv
              obtain ⟨av, cv, rfl, -⟩ := hv
              have HC5 := Lib.hid hc
              have HG5 := Lib.hid (HG4.out.trans hg)
              have hrec := REC4.out.cur hg (by omega) (by omega)
              have REC5 := Lib.hid hrec
              have RES5 : Hid (w5.heap[b0]? = some (.cells #[.int .u64 0, .slice none 0 0, .slice none 0 0] 42 (0, 0))) := Lib.hid ((hg.block _ (lt_of_block RES4.out) (by omega) (by omega)).trans RES4.out)
              obtain ⟨u, hu, -⟩ := hrec.get (show 1 < 3 by decide)
              have hfz := hrec.free 1
              clear hc hg hrec hh
              go_wp2
              go_roundg g'
              case rel => exact ⟨m + 1, _, _, key, by omega, by go_num, rfl, HE2.out, HC5.out.setOff (by omega) (by omega) _, HG5.out.setNew (show w.heap.size ≤ b0 + 1 by have := HB0.out; omega) _, REC5.out.set (show 1 < 3 by decide) HV.out, HK.out.upd rfl, Lib.hid (block_setCell_ne RES5.out (show b0 ≠ b0 + 1 by omega) _)⟩
              case measure => omega
            | false =>
              have es : sw (sigQs s) key x τ1 = (x, τ1) := by unfold sigQs; simp only [sw, hq0, hq1, hq2, Bool.false_eq_true, if_false]
              have HE2 : Hid (rLoop s ⟨#[105, 112, 118]⟩ (sigQs s) N ⟨#[]⟩ sig0 σ1 = rLoop s ⟨#[105, 112, 118]⟩ (sigQs s) g' key x τ1) := Lib.hid (by rw [HE.out, es])
              clear es HE
              go_wp2
              go_roundg g'
              case rel => exact ⟨m + 1, _, _, key, by omega, by go_num, rfl, HE2.out, HC4.out, HG4.out, REC4.out, HK.out, RES4.out⟩
              case measure => omega
    · obtain rfl : m = N := by omega
      have i1 : ¬ ((m : Nat) : Int) < m := by omega
      obtain rfl : gk = 0 := by omega
      obtain ⟨w3, hw3⟩ : ∃ w3, w3 = wr := ⟨_, rfl⟩
      subst hw3
      have HE : Hid (rLoop s ⟨#[105, 112, 118]⟩ (sigQs s) m ⟨#[]⟩ sig0 σ1 = (x, τ)) := Lib.hid HD.out
      clear HD
      obtain ⟨a1, c1, a2, c2, hth, hl1, hl2⟩ := sig_of_rec REC.out HK.out
      have k0 : w3.cell? ⟨b0 + 1, 0, none⟩ = some (.int .u64 (x 0).n) := block_cell hth 0
      have k1 : w3.cell? ⟨b0 + 1, 1, none⟩ = some (.slice a1 (len (x 1).l) c1) := block_cell hth 1
      have k2 : w3.cell? ⟨b0 + 1, 2, none⟩ = some (.slice a2 (len (x 2).l) c2) := block_cell hth 2
      have g0 : ∀ o, w3.cell? ⟨b0, o, none⟩ = _ := block_cell RES.out
      have g1 : ∀ o, w3.frozen? ⟨b0, o, none⟩ = false := block_free RES.out
      have g2 : b0 < w3.heap.size := lt_of_block RES.out
      clear hth
      have HL1 := Lib.hid hl1
      have HL2 := Lib.hid hl2
      clear hl1 hl2
      go_wp2
      have hb := (block_setCell (block_setCell (block_setCell RES.out (o := 0) (.int .u64 (x 0).n)) (o := 1) (.slice a1 (len (x 1).l) c1)) (o := 2) (.slice a2 (len (x 2).l) c2))
      have d : ∀ o, _ = _ := block_cell hb
      refine bodyPost_ret (v := .agg (cellsSig x a1 c1 a2 c2)) ?_ rfl ?_
      · simp [results, Tryz.results141, go_sem, d]
      · rw [HE.out]
        have hk2 : ∀ b, b0 + 1 < b → ((((w3.setCell ⟨b0, 0, none⟩ (.int .u64 (x 0).n)).setCell ⟨b0, 1, none⟩ (.slice a1 (len (x 1).l) c1)).setCell ⟨b0, 2, none⟩ (.slice a2 (len (x 2).l) c2))).heap[b]? = w3.heap[b]? := fun b hb => by repeat rw [Below.heap_setCell _ _ _ _ (show b ≠ b0 by omega)]
        exact ⟨_, _, _, _, rfl, HK.out, fun r t hr ht => ((HL1.out).keep2 (fun b _ h9 _ => hk2 b h9)).any (by have := HB0.out; omega) (by have := HB0.out; omega), fun r t hr ht => ((HL2.out).keep2 (fun b _ h9 _ => hk2 b h9)).any (by have := HB0.out; omega) (by have := HB0.out; omega), (CurIs.setOff (CurIs.setOff (CurIs.setOff HC.out hcb hrb _) hcb hrb _) hcb hrb _), (Chg.setNew (Chg.setNew (Chg.setNew HG.out (show w.heap.size ≤ b0 by have := HB0.out; omega) _) (show w.heap.size ≤ b0 by have := HB0.out; omega) _) (show w.heap.size ≤ b0 by have := HB0.out; omega) _)⟩
set_option maxRecDepth 100000 in
set_option maxHeartbeats 8000000 in
theorem cslot_any (cb rb : Nat) (s : ByteArray) (σ : Cst) (w : World) (h : CurIs w cb rb s σ) (hs : s.size < 65536) :
    Calls Tryz.prog 78 #[.pointer (some ⟨cb, 0, none⟩)] w (slotR (slotS s σ).1 (slotS s σ).2 cb rb s w) := by
  have hcs := h.clt
  have hrs := h.rlt
  have h1 := fun (w' : World) (hb : Below w.heap.size w w') => cpairs_any cb rb s σ w' (h.below hb)
  have hbd := pairsS_bd (s := s) (σ := σ)
  unfold slotS objS
  generalize pairsS s σ = z at h1 hbd ⊢
  obtain ⟨k0, σ1⟩ := z
  obtain ⟨N, rfl⟩ : ∃ k : Nat, k0 = k := ⟨k0.toNat, by have := hbd.1; simp only at this ⊢; omega⟩
  have hN : N ≤ 10240 := by have := hbd.2; simp only at this; omega
  have H := Lib.hid h1
  have HSZ := Lib.hid hs
  clear h1 h hbd
  simp only [Int.toNat_natCast]
  go_enter Tryz.func78, Tryz.ntmps78
  go_upto_region 2 with fail
  obtain ⟨b0, hb0⟩ : ∃ b0, w.heap.size = b0 := ⟨_, rfl⟩
  obtain ⟨V, hV⟩ : ∃ V, (w.alloc (.cells #[.int .u64 0, .bool false, .int .u64 0, .slice none 0 0, .slice none 0 0] 44)).alloc (.cells #[.int .u64 0, .bool false, .int .u64 0, .slice none 0 0, .slice none 0 0] 44) = V := ⟨_, rfl⟩
  have HV : Hid (Below w.heap.size w V) := Lib.hid (by rw [← hV]; exact balloc (balloc (Below.refl _ _) _) _)
  have V0 : Hid (V.heap[b0]? = some (.cells #[.int .u64 0, .bool false, .int .u64 0, .slice none 0 0, .slice none 0 0] 44 (0, 0))) := Lib.hid (by rw [← hV, ← hb0]; exact block_alloc (heap_alloc_new _ _) _)
  have V1 : Hid (V.heap[b0 + 1]? = some (.cells #[.int .u64 0, .bool false, .int .u64 0, .slice none 0 0, .slice none 0 0] 44 (0, 0))) := Lib.hid (by rw [← hV]; exact alloc_new_at _ (by simp [hb0]))
  have REC : Hid (RecAt rb (b0 + 1) 44 5 V slot0) := Lib.hid (rec_zero V1.out rfl (fun i hi => by
    match i, hi with
    | 0, _ => exact ⟨_, rfl, rfl⟩
    | 1, _ => exact ⟨_, rfl, rfl⟩
    | 2, _ => exact ⟨_, rfl, rfl⟩
    | 3, _ => exact ⟨_, rfl, rfl, rfl⟩
    | 4, _ => exact ⟨_, rfl, rfl, rfl⟩))
  have HB0 := Lib.hid hb0
  have hcb : cb < b0 := by omega
  have hrb : rb < b0 := by omega
  try rw [hV]
  try simp only [hb0]
  clear hV hb0
  go_wp2_with fail
  refine (H.out V HV.out).mono ?_
  rintro e w1 ⟨rfl, hc, hg⟩
  have HC1 := Lib.hid hc
  have HG1 : Hid (Chg rb cb w w1) := Lib.hid ((Chg.of_below HV.out).trans hg)
  have RES1 : Hid (w1.heap[b0]? = some (.cells #[.int .u64 0, .bool false, .int .u64 0, .slice none 0 0, .slice none 0 0] 44 (0, 0))) := Lib.hid ((hg.block _ (lt_of_block V0.out) (by omega) (by omega)).trans V0.out)
  have REC1 : Hid (RecAt rb (b0 + 1) 44 5 w1 slot0) := Lib.hid (REC.out.cur hg (by omega) (by omega))
  clear hc hg H V0 V1 REC
  go_wp2
  go_loopg [5, 6] N (fun gg lv i wr => ∃ (m : Nat) (τ : Cst) (x : Rcd) (last : ByteArray), gg + m = N ∧ i = .int .u64 m ∧ lv = .string last ∧ Hid (rLoop s ⟨#[103, 108, 115]⟩ (slotQs s) N ⟨#[]⟩ slot0 σ1 = rLoop s ⟨#[103, 108, 115]⟩ (slotQs s) gg last x τ) ∧ Hid (CurIs wr cb rb s τ) ∧ Hid (Chg rb cb w wr) ∧ Hid (RecAt rb (b0 + 1) 44 5 wr x) ∧ Hid (Kd slot0 x) ∧ Hid (wr.heap[b0]? = some (.cells #[.int .u64 0, .bool false, .int .u64 0, .slice none 0 0, .slice none 0 0] 44 (0, 0))))
  case atStart => exact ⟨0, σ1, slot0, ⟨#[]⟩, rfl, rfl, rfl, rfl, HC1.out, HG1.out, REC1.out, fun i => rfl, RES1.out⟩
  case round =>
    clear HC1 HG1 RES1 REC1
    obtain ⟨m, τ, x, last, hm, rfl, rfl, HD, HC, HG, REC, HK, RES⟩ := hrel
    by_cases hlt : m < N
    · obtain ⟨g', rfl⟩ : ∃ g', gk = g' + 1 := ⟨gk - 1, by omega⟩
      have i1 : (m : Int) < N := by omega
      have HB := Lib.hid (bad_any cb rb s τ _ HC.out)
      go_wp2_with fail
      refine HB.out.mono ?_
      rintro e w3 ⟨rfl, rfl⟩
      cases τ with
      | error f =>
        simp only [isBad]
        have HE : Hid (rLoop s ⟨#[103, 108, 115]⟩ (slotQs s) N ⟨#[]⟩ slot0 σ1 = (x, .error f)) := Lib.hid (by rw [HD.out, rLoop_bad])
        clear HB HD
        obtain ⟨a1, c1, a2, c2, hth, hl1, hl2⟩ := slot_of_rec REC.out HK.out
        have k0 : w3.cell? ⟨b0 + 1, 0, none⟩ = some (.int .u64 (x 0).n) := block_cell hth 0
        have k1 : w3.cell? ⟨b0 + 1, 1, none⟩ = some (.bool (x 1).q) := block_cell hth 1
        have k2 : w3.cell? ⟨b0 + 1, 2, none⟩ = some (.int .u64 (x 2).n) := block_cell hth 2
        have k3 : w3.cell? ⟨b0 + 1, 3, none⟩ = some (.slice a1 (len (x 3).l) c1) := block_cell hth 3
        have k4 : w3.cell? ⟨b0 + 1, 4, none⟩ = some (.slice a2 (len (x 4).l) c2) := block_cell hth 4
        have g0 : ∀ o, w3.cell? ⟨b0, o, none⟩ = _ := block_cell RES.out
        have g1 : ∀ o, w3.frozen? ⟨b0, o, none⟩ = false := block_free RES.out
        have g2 : b0 < w3.heap.size := lt_of_block RES.out
        clear hth
        have HL1 := Lib.hid hl1
        have HL2 := Lib.hid hl2
        clear hl1 hl2
        go_wp2
        have hb := (block_setCell (block_setCell (block_setCell (block_setCell (block_setCell RES.out (o := 0) (.int .u64 (x 0).n)) (o := 1) (.bool (x 1).q)) (o := 2) (.int .u64 (x 2).n)) (o := 3) (.slice a1 (len (x 3).l) c1)) (o := 4) (.slice a2 (len (x 4).l) c2))
        have d : ∀ o, _ = _ := block_cell hb
        refine bodyPost_ret (v := .agg (cellsSlot x a1 c1 a2 c2)) ?_ rfl ?_
        · simp [results, Tryz.results78, go_sem, d]
        · rw [HE.out]
          have hk2 : ∀ b, b0 + 1 < b → ((((((w3.setCell ⟨b0, 0, none⟩ (.int .u64 (x 0).n)).setCell ⟨b0, 1, none⟩ (.bool (x 1).q)).setCell ⟨b0, 2, none⟩ (.int .u64 (x 2).n)).setCell ⟨b0, 3, none⟩ (.slice a1 (len (x 3).l) c1)).setCell ⟨b0, 4, none⟩ (.slice a2 (len (x 4).l) c2))).heap[b]? = w3.heap[b]? := fun b hb => by repeat rw [Below.heap_setCell _ _ _ _ (show b ≠ b0 by omega)]
          exact ⟨_, _, _, _, rfl, HK.out, fun r t hr ht => ((HL1.out).keep2 (fun b _ h9 _ => hk2 b h9)).any (by have := HB0.out; omega) (by have := HB0.out; omega), fun r t hr ht => ((HL2.out).keep2 (fun b _ h9 _ => hk2 b h9)).any (by have := HB0.out; omega) (by have := HB0.out; omega), (CurIs.setOff (CurIs.setOff (CurIs.setOff (CurIs.setOff (CurIs.setOff HC.out hcb hrb _) hcb hrb _) hcb hrb _) hcb hrb _) hcb hrb _), (Chg.setNew (Chg.setNew (Chg.setNew (Chg.setNew (Chg.setNew HG.out (show w.heap.size ≤ b0 by have := HB0.out; omega) _) (show w.heap.size ≤ b0 by have := HB0.out; omega) _) (show w.heap.size ≤ b0 by have := HB0.out; omega) _) (show w.heap.size ≤ b0 by have := HB0.out; omega) _) (show w.heap.size ≤ b0 by have := HB0.out; omega) _)⟩
      | ok a =>
        simp only [isBad]
        have HKY := Lib.hid (ckey_any cb rb s ⟨#[103, 108, 115]⟩ last (.ok a) w3 HC.out (by decide))
        have HE : Hid (rLoop s ⟨#[103, 108, 115]⟩ (slotQs s) N ⟨#[]⟩ slot0 σ1 = rLoop s ⟨#[103, 108, 115]⟩ (slotQs s) g' (keyS s ⟨#[103, 108, 115]⟩ last (.ok a)).1 (sw (slotQs s) (keyS s ⟨#[103, 108, 115]⟩ last (.ok a)).1 x (keyS s ⟨#[103, 108, 115]⟩ last (.ok a)).2).1 (sw (slotQs s) (keyS s ⟨#[103, 108, 115]⟩ last (.ok a)).1 x (keyS s ⟨#[103, 108, 115]⟩ last (.ok a)).2).2) := Lib.hid HD.out
        clear HB HD
        go_wp2_with fail
        refine HKY.out.mono ?_
        rintro e w4 ⟨rfl, hc, hg⟩
        have HC4 := Lib.hid hc
        have HG4 : Hid (Chg rb cb w w4) := Lib.hid (HG.out.trans hg)
        have REC4 := Lib.hid (REC.out.cur hg (by omega) (by omega))
        have RES4 : Hid (w4.heap[b0]? = some (.cells #[.int .u64 0, .bool false, .int .u64 0, .slice none 0 0, .slice none 0 0] 44 (0, 0))) := Lib.hid ((hg.block _ (lt_of_block RES.out) (by omega) (by omega)).trans RES.out)
        clear hc hg HKY HC HG REC RES
        obtain ⟨key, hkey⟩ : ∃ key, (keyS s ⟨#[103, 108, 115]⟩ last (.ok a)).1 = key := ⟨_, rfl⟩
        obtain ⟨τ1, hτ1⟩ : ∃ τ1, (keyS s ⟨#[103, 108, 115]⟩ last (.ok a)).2 = τ1 := ⟨_, rfl⟩
        have HE : Hid (rLoop s ⟨#[103, 108, 115]⟩ (slotQs s) N ⟨#[]⟩ slot0 σ1 = rLoop s ⟨#[103, 108, 115]⟩ (slotQs s) g' key (sw (slotQs s) key x τ1).1 (sw (slotQs s) key x τ1).2) := Lib.hid (by have := HE.out; rw [hkey, hτ1] at this; exact this)
        have HC4 : Hid (CurIs w4 cb rb s τ1) := Lib.hid (by rw [← hτ1]; exact HC4.out)
        rw [hkey]
        clear hkey hτ1
        cases hq0 : (key.toList == [103]) with
        | true =>
          have es : sw (slotQs s) key x τ1 = (putW 2 3 x (sigS s τ1).1, failS (sigZ (sigS s τ1).1) 5 (sigS s τ1).2) := by unfold slotQs; simp only [sw, hq0, if_true, Bool.false_eq_true, if_false]; rfl
          have HE2 : Hid (rLoop s ⟨#[103, 108, 115]⟩ (slotQs s) N ⟨#[]⟩ slot0 σ1 = rLoop s ⟨#[103, 108, 115]⟩ (slotQs s) g' key (putW 2 3 x (sigS s τ1).1) (failS (sigZ (sigS s τ1).1) 5 (sigS s τ1).2)) := Lib.hid (by rw [HE.out, es])
          have HNM := Lib.hid (csig_any cb rb s τ1 w4 HC4.out)
          have HIV := Lib.hid (sig_inv s τ1)
          clear es HE
          go_wp2_with fail
          refine HNM.out.mono ?_
          rintro e w5 ⟨a1, c1, a2, c2, rfl, hkd, h1, h2, hc, hg⟩
          generalize sigS s τ1 = z at HE2 HIV h1 h2 hc hkd ⊢
          obtain ⟨y, τ2⟩ := z
          have KY : Kd sig0 y := hkd
          have H1 := Lib.hid (h1 rb (b0 + 1) (Nat.lt_trans (Nat.lt_trans hrb (Nat.lt_succ_self b0)) (lt_rec REC4.out)) (lt_rec REC4.out))
          have H2 := Lib.hid (h2 rb (b0 + 1) (Nat.lt_trans (Nat.lt_trans hrb (Nat.lt_succ_self b0)) (lt_rec REC4.out)) (lt_rec REC4.out))
          have HC5 := Lib.hid hc
          have HG5 := Lib.hid (HG4.out.trans hg)
          have hrec := REC4.out.cur hg (by omega) (by omega)
          have REC5 := Lib.hid hrec
          have RES5 : Hid (w5.heap[b0]? = some (.cells #[.int .u64 0, .bool false, .int .u64 0, .slice none 0 0, .slice none 0 0] 44 (0, 0))) := Lib.hid ((hg.block _ (lt_of_block RES4.out) (by omega) (by omega)).trans RES4.out)
          obtain ⟨_, hu2, -⟩ := hrec.get (show 2 < 5 by decide)
          obtain ⟨_, hu3, -⟩ := hrec.get (show 3 < 5 by decide)
          obtain ⟨_, hu4, -⟩ := hrec.get (show 4 < 5 by decide)
          have hfz := hrec.free
          clear hc hg hrec h1 h2 hkd HNM
          dsimp only at HE2 HIV HC5 H1 H2 ⊢
          go_upto_region 11 with fail
          obtain ⟨U, hU⟩ : ∃ U, ((w5.setCell ⟨b0 + 1, 2, none⟩ (.int .u64 (y 0).n)).setCell ⟨b0 + 1, 3, none⟩ (.slice a1 (len (y 1).l) c1)).setCell ⟨b0 + 1, 4, none⟩ (.slice a2 (len (y 2).l) c2) = U := ⟨_, rfl⟩
          have hl : w.heap.size ≤ b0 + 1 := by have := HB0.out; omega
          have HC6 : Hid (CurIs U cb rb s τ2) := Lib.hid (by rw [← hU]; exact ((HC5.out.setOff (by omega) (by omega) _).setOff (by omega) (by omega) _).setOff (by omega) (by omega) _)
          have HG6 : Hid (Chg rb cb w U) := Lib.hid (by rw [← hU]; exact ((HG5.out.setNew hl _).setNew hl _).setNew hl _)
          have hy0 : Hid (y 0 = .num (y 0).n) := Lib.hid (by obtain ⟨n, e0⟩ := KY.num (o := 0) rfl; rw [e0]; rfl)
          have k1 : Chg rb (b0 + 1) w5 (w5.setCell ⟨b0 + 1, 2, none⟩ (.int .u64 (y 0).n)) := (Chg.refl rb (b0 + 1) w5).set 2 _
          have k2 : Chg rb (b0 + 1) w5 ((w5.setCell ⟨b0 + 1, 2, none⟩ (.int .u64 (y 0).n)).setCell ⟨b0 + 1, 3, none⟩ (.slice a1 (len (y 1).l) c1)) := k1.set 3 _
          have k3 : Chg rb (b0 + 1) w5 U := by rw [← hU]; exact k2.set 4 _
          have REC6 : Hid (RecAt rb (b0 + 1) 44 5 U (upd (upd (upd x 2 (y 0)) 3 (y 1)) 4 (y 2))) := Lib.hid (by rw [← hU]; exact ((REC5.out.set (show 2 < 5 by decide) (by rw [hy0.out]; rfl)).set (show 3 < 5 by decide) (H1.out.chg k1)).set (show 4 < 5 by decide) (H2.out.chg k2))
          have RES6 : Hid (U.heap[b0]? = some (.cells #[.int .u64 0, .bool false, .int .u64 0, .slice none 0 0, .slice none 0 0] 44 (0, 0))) := Lib.hid (by rw [← hU]; exact block_setCell_ne (block_setCell_ne (block_setCell_ne RES5.out (show b0 ≠ b0 + 1 by omega) _) (show b0 ≠ b0 + 1 by omega) _) (show b0 ≠ b0 + 1 by omega) _)
          have HS1 : Hid (StrsC (CW U) a1 (y 1).l) := Lib.hid (holds_strs (KY 1) (H1.out.chg k3))
          have HS2 : Hid (StrsC (CW U) a2 (y 2).l) := Lib.hid (holds_strs (KY 2) (H2.out.chg k3))
          obtain ⟨p3, q3, p4, q4, hth, -⟩ := slot_of_rec REC5.out HK.out
          have hbU : U.heap[b0 + 1]? = some (.cells #[.int .u64 (x 0).n, .bool (x 1).q, .int .u64 (y 0).n, .slice a1 (len (y 1).l) c1, .slice a2 (len (y 2).l) c2] 44 (0, 0)) := by rw [← hU]; exact block_setCell (block_setCell (block_setCell hth _) _) _
          have HHB := Lib.hid hbU
          clear hth hbU k1 k2 k3
          rw [hU]
          clear hU
          have cU : ∀ o, U.cell? ⟨b0 + 1, o, none⟩ = _ := block_cell HHB.out
          go_wp2_with fail
          refine (rlaysig_any U.heap.size (y 0).n a1 a2 c1 c2 (y 1).l (y 2).l U (bd_n (HIV.out.1 0)) HS1.out.at HS2.out.at (bd_short (HIV.out.1 1) HSZ.out) (bd_short (HIV.out.1 2) HSZ.out)).mono ?_
          rintro e w6 ⟨rfl, hb⟩
          obtain ⟨S, hS⟩ : ∃ S, rlayP (sigPs (y 0).n (y 1).l (y 2).l) = S := ⟨_, rfl⟩
          rw [hS]
          have HE3 : Hid (rLoop s ⟨#[103, 108, 115]⟩ (slotQs s) N ⟨#[]⟩ slot0 σ1 = rLoop s ⟨#[103, 108, 115]⟩ (slotQs s) g' key (upd (upd (upd x 2 (y 0)) 3 (y 1)) 4 (y 2)) (failS (S.toList == [128]) 5 τ2)) := Lib.hid (by have := HE2.out; rw [putW3] at this; unfold sigZ at this; rw [hS] at this; exact this)
          have HC6 := Lib.hid (HC6.out.below hb)
          have HG6 := Lib.hid (HG6.out.trans (Chg.of_below hb))
          have REC6 := Lib.hid (REC6.out.cur (Chg.of_below (rb := rb) (tb := cb) hb) (by omega) (by omega))
          have RES6 := Lib.hid ((hb.block _ (lt_of_block RES6.out)).trans RES6.out)
          have HK6 : Hid (Kd slot0 (upd (upd (upd x 2 (y 0)) 3 (y 1)) 4 (y 2))) := Lib.hid (((HK.out.upd (KY 0)).upd (KY 1)).upd (KY 2))
          clear hS hb cU HE2 HS1 HS2 H1 H2 HHB HIV hy0
          have HF := Lib.hid (fail_any cb rb s τ2 (S.toList == [128]) 5 w6 HC6.out (by decide))
          go_wp2_with fail
          refine HF.out.mono ?_
          rintro e w7 ⟨rfl, hc, hg⟩
          have HC7 := Lib.hid hc
          have HG7 := Lib.hid (HG6.out.trans hg)
          have REC7 := Lib.hid (REC6.out.cur hg (by omega) (by omega))
          have RES7 : Hid (w7.heap[b0]? = some (.cells #[.int .u64 0, .bool false, .int .u64 0, .slice none 0 0, .slice none 0 0] 44 (0, 0))) := Lib.hid ((hg.block _ (lt_of_block RES6.out) (by omega) (by omega)).trans RES6.out)
          clear hc hg HF
          go_wp2
          go_roundg g'
          case rel => exact ⟨m + 1, _, _, key, by omega, by go_num, rfl, HE3.out, HC7.out, HG7.out, REC7.out, HK6.out, RES7.out⟩
          case measure => omega
        | false =>
          cases hq1 : (key.toList == [108]) with
          | true =>
            have es : sw (slotQs s) key x τ1 = (upd x 0 (.num (numS s τ1).1), (numS s τ1).2) := by unfold slotQs; simp only [sw, hq0, hq1, if_true, Bool.false_eq_true, if_false]; rfl
            have HE2 : Hid (rLoop s ⟨#[103, 108, 115]⟩ (slotQs s) N ⟨#[]⟩ slot0 σ1 = rLoop s ⟨#[103, 108, 115]⟩ (slotQs s) g' key (upd x 0 (.num (numS s τ1).1)) (numS s τ1).2) := Lib.hid (by rw [HE.out, es])
            have HNM := Lib.hid (cnum_any cb rb s τ1 w4 HC4.out)
            clear es HE
            go_wp2_with fail
            refine HNM.out.mono ?_
            rintro e w5 ⟨rfl, hc, hg⟩
            have HC5 := Lib.hid hc
            have HG5 := Lib.hid (HG4.out.trans hg)
            have hrec := REC4.out.cur hg (by omega) (by omega)
            have REC5 := Lib.hid hrec
            have RES5 : Hid (w5.heap[b0]? = some (.cells #[.int .u64 0, .bool false, .int .u64 0, .slice none 0 0, .slice none 0 0] 44 (0, 0))) := Lib.hid ((hg.block _ (lt_of_block RES4.out) (by omega) (by omega)).trans RES4.out)
            obtain ⟨u, hu, -⟩ := hrec.get (show 0 < 5 by decide)
            have hfz := hrec.free 0
            clear hc hg hrec
            go_wp2
            go_roundg g'
            case rel => exact ⟨m + 1, _, _, key, by omega, by go_num, rfl, HE2.out, HC5.out.setOff (by omega) (by omega) _, HG5.out.setNew (show w.heap.size ≤ b0 + 1 by have := HB0.out; omega) _, REC5.out.set (show 0 < 5 by decide) rfl, HK.out.upd rfl, Lib.hid (block_setCell_ne RES5.out (show b0 ≠ b0 + 1 by omega) _)⟩
            case measure => omega
          | false =>
            cases hq2 : (key.toList == [115]) with
            | true =>
              have es : sw (slotQs s) key x τ1 = (upd x 1 (.flag true), failS ((tkS 0 s τ1).1.1 != 1) 5 (tkS 0 s τ1).2) := by unfold slotQs; simp only [sw, hq0, hq1, hq2, if_true, Bool.false_eq_true, if_false]; rfl
              have HE2 : Hid (rLoop s ⟨#[103, 108, 115]⟩ (slotQs s) N ⟨#[]⟩ slot0 σ1 = rLoop s ⟨#[103, 108, 115]⟩ (slotQs s) g' key (upd x 1 (.flag true)) (failS ((tkS 0 s τ1).1.1 != 1) 5 (tkS 0 s τ1).2)) := Lib.hid (by rw [HE.out, es])
              have HNM := Lib.hid (ctake_any cb rb s τ1 0 w4 HC4.out (by decide))
              clear es HE
              go_wp2_with fail
              refine HNM.out.mono ?_
              rintro e w5 ⟨rfl, hc, hg⟩
              have HC5 := Lib.hid hc
              have HG5 := Lib.hid (HG4.out.trans hg)
              have REC5 := Lib.hid (REC4.out.cur hg (by omega) (by omega))
              have RES5 : Hid (w5.heap[b0]? = some (.cells #[.int .u64 0, .bool false, .int .u64 0, .slice none 0 0, .slice none 0 0] 44 (0, 0))) := Lib.hid ((hg.block _ (lt_of_block RES4.out) (by omega) (by omega)).trans RES4.out)
              clear hc hg HNM
              generalize tkS 0 s τ1 = z at HE2 HC5 ⊢
              obtain ⟨⟨n, t⟩, τ2⟩ := z
              have HF := Lib.hid (fail_any cb rb s τ2 (n != 1) 5 w5 HC5.out (by decide))
              go_wp2_with fail
              refine HF.out.mono ?_
              rintro e w6 ⟨rfl, hc, hg⟩
              have HC6 := Lib.hid hc
              have HG6 := Lib.hid (HG5.out.trans hg)
              have hrec := REC5.out.cur hg (by omega) (by omega)
              have REC6 := Lib.hid hrec
              have RES6 : Hid (w6.heap[b0]? = some (.cells #[.int .u64 0, .bool false, .int .u64 0, .slice none 0 0, .slice none 0 0] 44 (0, 0))) := Lib.hid ((hg.block _ (lt_of_block RES5.out) (by omega) (by omega)).trans RES5.out)
              obtain ⟨u, hu, -⟩ := hrec.get (show 1 < 5 by decide)
              have hfz := hrec.free 1
              clear hc hg hrec HF
              go_wp2
              go_roundg g'
              case rel => exact ⟨m + 1, _, _, key, by omega, by go_num, rfl, HE2.out, HC6.out.setOff (by omega) (by omega) _, HG6.out.setNew (show w.heap.size ≤ b0 + 1 by have := HB0.out; omega) _, REC6.out.set (show 1 < 5 by decide) rfl, HK.out.upd rfl, Lib.hid (block_setCell_ne RES6.out (show b0 ≠ b0 + 1 by omega) _)⟩
              case measure => omega
            | false =>
              have es : sw (slotQs s) key x τ1 = (x, τ1) := by unfold slotQs; simp only [sw, hq0, hq1, hq2, Bool.false_eq_true, if_false]
              have HE2 : Hid (rLoop s ⟨#[103, 108, 115]⟩ (slotQs s) N ⟨#[]⟩ slot0 σ1 = rLoop s ⟨#[103, 108, 115]⟩ (slotQs s) g' key x τ1) := Lib.hid (by rw [HE.out, es])
              clear es HE
              go_wp2
              go_roundg g'
              case rel => exact ⟨m + 1, _, _, key, by omega, by go_num, rfl, HE2.out, HC4.out, HG4.out, REC4.out, HK.out, RES4.out⟩
              case measure => omega
    · obtain rfl : m = N := by omega
      have i1 : ¬ ((m : Nat) : Int) < m := by omega
      obtain rfl : gk = 0 := by omega
      obtain ⟨w3, hw3⟩ : ∃ w3, w3 = wr := ⟨_, rfl⟩
      subst hw3
      have HE : Hid (rLoop s ⟨#[103, 108, 115]⟩ (slotQs s) m ⟨#[]⟩ slot0 σ1 = (x, τ)) := Lib.hid HD.out
      clear HD
      obtain ⟨a1, c1, a2, c2, hth, hl1, hl2⟩ := slot_of_rec REC.out HK.out
      have k0 : w3.cell? ⟨b0 + 1, 0, none⟩ = some (.int .u64 (x 0).n) := block_cell hth 0
      have k1 : w3.cell? ⟨b0 + 1, 1, none⟩ = some (.bool (x 1).q) := block_cell hth 1
      have k2 : w3.cell? ⟨b0 + 1, 2, none⟩ = some (.int .u64 (x 2).n) := block_cell hth 2
      have k3 : w3.cell? ⟨b0 + 1, 3, none⟩ = some (.slice a1 (len (x 3).l) c1) := block_cell hth 3
      have k4 : w3.cell? ⟨b0 + 1, 4, none⟩ = some (.slice a2 (len (x 4).l) c2) := block_cell hth 4
      have g0 : ∀ o, w3.cell? ⟨b0, o, none⟩ = _ := block_cell RES.out
      have g1 : ∀ o, w3.frozen? ⟨b0, o, none⟩ = false := block_free RES.out
      have g2 : b0 < w3.heap.size := lt_of_block RES.out
      clear hth
      have HL1 := Lib.hid hl1
      have HL2 := Lib.hid hl2
      clear hl1 hl2
      go_wp2
      have hb := (block_setCell (block_setCell (block_setCell (block_setCell (block_setCell RES.out (o := 0) (.int .u64 (x 0).n)) (o := 1) (.bool (x 1).q)) (o := 2) (.int .u64 (x 2).n)) (o := 3) (.slice a1 (len (x 3).l) c1)) (o := 4) (.slice a2 (len (x 4).l) c2))
      have d : ∀ o, _ = _ := block_cell hb
      refine bodyPost_ret (v := .agg (cellsSlot x a1 c1 a2 c2)) ?_ rfl ?_
      · simp [results, Tryz.results78, go_sem, d]
      · rw [HE.out]
        have hk2 : ∀ b, b0 + 1 < b → ((((((w3.setCell ⟨b0, 0, none⟩ (.int .u64 (x 0).n)).setCell ⟨b0, 1, none⟩ (.bool (x 1).q)).setCell ⟨b0, 2, none⟩ (.int .u64 (x 2).n)).setCell ⟨b0, 3, none⟩ (.slice a1 (len (x 3).l) c1)).setCell ⟨b0, 4, none⟩ (.slice a2 (len (x 4).l) c2))).heap[b]? = w3.heap[b]? := fun b hb => by repeat rw [Below.heap_setCell _ _ _ _ (show b ≠ b0 by omega)]
        exact ⟨_, _, _, _, rfl, HK.out, fun r t hr ht => ((HL1.out).keep2 (fun b _ h9 _ => hk2 b h9)).any (by have := HB0.out; omega) (by have := HB0.out; omega), fun r t hr ht => ((HL2.out).keep2 (fun b _ h9 _ => hk2 b h9)).any (by have := HB0.out; omega) (by have := HB0.out; omega), (CurIs.setOff (CurIs.setOff (CurIs.setOff (CurIs.setOff (CurIs.setOff HC.out hcb hrb _) hcb hrb _) hcb hrb _) hcb hrb _) hcb hrb _), (Chg.setNew (Chg.setNew (Chg.setNew (Chg.setNew (Chg.setNew HG.out (show w.heap.size ≤ b0 by have := HB0.out; omega) _) (show w.heap.size ≤ b0 by have := HB0.out; omega) _) (show w.heap.size ≤ b0 by have := HB0.out; omega) _) (show w.heap.size ≤ b0 by have := HB0.out; omega) _) (show w.heap.size ≤ b0 by have := HB0.out; omega) _)⟩
end Go.Proofs.YtihiaopilnjonaaGreatDoor
namespace Go.Proofs.YtihiaopilnjonaaGreatDoor
open Go.RowKit
set_option linter.unusedSimpArgs false
set_option linter.unusedVariables false
def rdSlotS (s : ByteArray) : Except Flt Rcd := match endS s (slotS s (.ok 0)).2 with | .error f => .error f | .ok _ => .ok (slotS s (.ok 0)).1
def RrSlot (s : ByteArray) (w : World) (e : Ending) (w' : World) : Prop := (match rdSlotS s with | .error f => f.1 ≠ 0 ∧ e = .returned (.tuple #[zeroSlot, .agg #[.int .i64 f.1, .int .i64 f.2]]) | .ok x => Kd slot0 x ∧ ∃ (a3 : Option Addr) (c3 : Nat) (a4 : Option Addr) (c4 : Nat), e = .returned (.tuple #[.agg (cellsSlot x a3 c3 a4 c4), .agg #[.int .i64 0, .int .i64 0]]) ∧ StrsC (CW w') a3 (x 3).l ∧ StrsC (CW w') a4 (x 4).l) ∧ Below w.heap.size w w'
set_option maxRecDepth 100000 in
set_option maxHeartbeats 8000000 in
theorem rreSlot_any (s : ByteArray) (w : World) (hs : s.size < 65536) : Calls Tryz.prog 36 #[.string s] w (RrSlot s w) := by
  go_enter Tryz.func36, Tryz.ntmps36
  go_upto_region 1 with fail
  obtain ⟨b0, hb0⟩ : ∃ b0, w.heap.size = b0 := ⟨_, rfl⟩
  obtain ⟨V, hV⟩ : ∃ V, (w.alloc (.cells #[.int .u64 0, .bool false, .int .u64 0, .slice none 0 0, .slice none 0 0] 44)).alloc (.cells #[.int .i64 0, .int .i64 0] 63) = V := ⟨_, rfl⟩
  have VB : Hid (Below w.heap.size w V) := Lib.hid (by rw [← hV]; exact balloc (balloc (Below.refl _ _) _) _)
  have V0 : Hid (V.heap[b0]? = some (.cells #[.int .u64 0, .bool false, .int .u64 0, .slice none 0 0, .slice none 0 0] 44 (0, 0))) := Lib.hid (by rw [← hV, ← hb0]; exact block_alloc (heap_alloc_new _ _) _)
  have V1 : Hid (V.heap[b0 + 1]? = some (.cells #[.int .i64 0, .int .i64 0] 63 (0, 0))) := Lib.hid (by rw [← hV]; exact alloc_new_at _ (by simp [hb0]))
  have hvs : V.heap.size = b0 + 1 + 1 := by rw [← hV]; simp [hb0]
  have HB0 := Lib.hid hb0
  try rw [hV]
  try simp only [hb0]
  clear hV hb0
  go_wp2_with fail
  refine (begin_any s V (by omega)).mono ?_
  rintro e w1 ⟨cb, rb, rfl, hc, h1, h2, hb⟩
  have HC1 := Lib.hid hc
  have B1 := Lib.hid hb
  have hr1 : b0 + 1 < rb := by omega
  have hc1 : b0 + 1 < cb := by omega
  have HRV : Hid (V.heap.size ≤ rb ∧ V.heap.size ≤ cb) := Lib.hid ⟨h1, h2⟩
  clear hc hb h1 h2 hvs
  go_wp2_with fail
  refine (cslot_any cb rb s (.ok 0) w1 HC1.out hs).mono ?_
  rintro e w2 ⟨a3, c3, a4, c4, rfl, hk, h3, h4, hc, hg⟩
  have J3 := Lib.hid (h3 rb cb HC1.out.rlt HC1.out.clt)
  have J4 := Lib.hid (h4 rb cb HC1.out.rlt HC1.out.clt)
  clear h3 h4
  have HC2 := Lib.hid hc
  have HK := Lib.hid hk
  have B2 : Hid (Below V.heap.size V w2) := Lib.hid (Chg.low B1.out hg HRV.out.1 HRV.out.2)
  clear hc hg hk HC1 B1
  obtain ⟨z, hz⟩ : ∃ z, slotS s (.ok 0) = z := ⟨_, rfl⟩
  have HC2 : Hid (CurIs w2 cb rb s z.2) := Lib.hid (by rw [← hz]; exact HC2.out)
  have HK : Hid (Kd slot0 z.1) := Lib.hid (by rw [← hz]; exact HK.out)
  rw [hz]
  have HZ := Lib.hid hz
  clear hz
  obtain ⟨x, τ⟩ := z
  have J3 : Hid (HoldsD rb cb w2 (.slice a3 (len (x 3).l) c3) (x 3)) := Lib.hid (by have := J3.out; rw [HZ.out] at this; exact this)
  have J4 : Hid (HoldsD rb cb w2 (.slice a4 (len (x 4).l) c4) (x 4)) := Lib.hid (by have := J4.out; rw [HZ.out] at this; exact this)
  dsimp only
  go_upto_region 3 with fail
  obtain ⟨b5, hb5⟩ : ∃ b5, w2.heap.size = b5 := ⟨_, rfl⟩
  obtain ⟨U, hU⟩ : ∃ U, w2.alloc (.cells #[.int .u64 (x 0).n, .bool (x 1).q, .int .u64 (x 2).n, .slice a3 (len (x 3).l) c3, .slice a4 (len (x 4).l) c4] 44) = U := ⟨_, rfl⟩
  have UB : Hid (Below w2.heap.size w2 U) := Lib.hid (by rw [← hU]; exact balloc (Below.refl _ _) _)
  have U5 : Hid (U.heap[b5]? = some (.cells #[.int .u64 (x 0).n, .bool (x 1).q, .int .u64 (x 2).n, .slice a3 (len (x 3).l) c3, .slice a4 (len (x 4).l) c4] 44 (0, 0))) := Lib.hid (by rw [← hU, ← hb5]; exact heap_alloc_new _ _)
  have hcl2 : cb < b5 ∧ rb < b5 := by rw [← hb5]; exact ⟨HC2.out.clt, HC2.out.rlt⟩
  try rw [hU]
  try simp only [hb5]
  clear hU hb5
  go_wp2_with fail
  refine (cend_any cb rb s τ U (HC2.out.below UB.out)).mono ?_
  rintro e w3 ⟨rfl, hc, hg⟩
  have HC3 := Lib.hid hc
  have B3 : Hid (Below V.heap.size V w3) := Lib.hid (Chg.low (bnext B2.out UB.out) hg HRV.out.1 HRV.out.2)
  have J3 := Lib.hid ((J3.out.chg (Chg.of_below UB.out)).chg hg)
  have J4 := Lib.hid ((J4.out.chg (Chg.of_below UB.out)).chg hg)
  have W5 : Hid (w3.heap[b5]? = some (.cells #[.int .u64 (x 0).n, .bool (x 1).q, .int .u64 (x 2).n, .slice a3 (len (x 3).l) c3, .slice a4 (len (x 4).l) c4] 44 (0, 0))) := Lib.hid ((hg.block _ (lt_of_block U5.out) (by omega) (by omega)).trans U5.out)
  clear hc hg
  obtain ⟨σ2, hσ⟩ : ∃ σ2, endS s τ = σ2 := ⟨_, rfl⟩
  have HC3 : Hid (CurIs w3 cb rb s σ2) := Lib.hid (by rw [← hσ]; exact HC3.out)
  rw [hσ]
  have HS := Lib.hid hσ
  clear hσ
  obtain ⟨f, hf⟩ : ∃ f, σ2.flt = f := ⟨_, rfl⟩
  rw [hf]
  go_upto_region 4 with fail
  obtain ⟨b6, hb6⟩ : ∃ b6, w3.heap.size = b6 := ⟨_, rfl⟩
  obtain ⟨W, hW⟩ : ∃ W, w3.alloc (.cells #[.int .i64 f.1, .int .i64 f.2] 63) = W := ⟨_, rfl⟩
  have WB : Hid (Below w3.heap.size w3 W) := Lib.hid (by rw [← hW]; exact balloc (Below.refl _ _) _)
  have W6 : Hid (W.heap[b6]? = some (.cells #[.int .i64 f.1, .int .i64 f.2] 63 (0, 0))) := Lib.hid (by rw [← hW, ← hb6]; exact heap_alloc_new _ _)
  have BVW : Hid (Below V.heap.size V W) := Lib.hid (bnext B3.out WB.out)
  have BW : Hid (Below w.heap.size w W) := Lib.hid (bnext VB.out BVW.out)
  have WB0 : Hid (W.heap[b0]? = some (.cells #[.int .u64 0, .bool false, .int .u64 0, .slice none 0 0, .slice none 0 0] 44 (0, 0))) := Lib.hid ((BVW.out.block _ (lt_of_block V0.out)).trans V0.out)
  have WB1 : Hid (W.heap[b0 + 1]? = some (.cells #[.int .i64 0, .int .i64 0] 63 (0, 0))) := Lib.hid ((BVW.out.block _ (lt_of_block V1.out)).trans V1.out)
  have WB5 : Hid (W.heap[b5]? = some (.cells #[.int .u64 (x 0).n, .bool (x 1).q, .int .u64 (x 2).n, .slice a3 (len (x 3).l) c3, .slice a4 (len (x 4).l) c4] 44 (0, 0))) := Lib.hid ((WB.out.block _ (lt_of_block W5.out)).trans W5.out)
  have j0 : W.cell? ⟨b6, 0, none⟩ = some (.int .i64 f.1) := block_cell W6.out 0
  have j1 : W.cell? ⟨b6, 1, none⟩ = some (.int .i64 f.2) := block_cell W6.out 1
  have J3 := Lib.hid (J3.out.chg (Chg.of_below WB.out))
  have J4 := Lib.hid (J4.out.chg (Chg.of_below WB.out))
  have HRB : Hid (b0 + 1 < rb) := Lib.hid hr1
  have hn5 : some b5 ≠ some b0 := by simp; omega
  have hn6 : some b6 ≠ some b0 := by have := lt_of_block W5.out; simp; omega
  try rw [hW]
  try simp only [hb6]
  clear hW hb6
  cases σ2 with
  | error g =>
    obtain rfl : g = f := hf
    have hg0 : (g.1 != 0) = true := by simpa using HC3.out.flt0
    have HG0 : Hid (g.1 ≠ 0) := Lib.hid HC3.out.flt0
    have HR : Hid (rdSlotS s = .error g) := Lib.hid (by unfold rdSlotS; rw [HZ.out]; show (match endS s τ with | .error f => Except.error f | .ok _ => .ok x) = _; rw [HS.out])
    go_upto_region 5 with fail
    refine wp_region_tail 3 2 ((some b0)) (phis [fun u _ => u = (.agg #[.int .u64 0, .bool false, .int .u64 0, .slice none 0 0, .slice none 0 0]), fun u _ => u = (.agg #[.int .i64 g.1, .int .i64 g.2]), fun _ w' => w'.heap[b0]? = some (.cells #[.int .u64 0, .bool false, .int .u64 0, .slice none 0 0, .slice none 0 0] 44 (0, 0))]) rfl (by kernel_rfl) (by kernel_rfl) (mono_of ⟨mono_eq, mono_eq, ?m2, trivial⟩) (steps_of 3 ⟨?s0, ?s1, ?s2, trivial⟩) ?_
    case m2 =>
      exact ⟨fun u w1 w2 h hb => ext_block h hb, fun hn => absurd rfl hn⟩
    case s0 =>
      refine step_val (v := (.agg #[.int .u64 0, .bool false, .int .u64 0, .slice none 0 0, .slice none 0 0])) (fun av wv hE hS hO hD => ?_) (fun _ => rfl)
      refine ⟨rfl, ?_⟩
      simp [go_sem]
    case s1 =>
      refine step_val (v := (.agg #[.int .i64 g.1, .int .i64 g.2])) (fun av wv hE hS hO hD => ?_) (fun _ => rfl)
      have h6 : av.eval (.tmp 6) = (.pointer (some ⟨b6, 0, none⟩)) := hO.2.2 6 rfl
      have f6 := (ev_form av 6).symm.trans h6
      have j0 := extB_cell hE hn6 j0
      have j1 := extB_cell hE hn6 j1
      refine ⟨rfl, ?_⟩
      simp [go_sem, f6, j0, j1]
    case s2 =>
      refine step_wp (fun av wv hE hS hO hD => ?_)
      have h2 : av.eval (.tmp 2) = (.pointer (some ⟨b0, 0, none⟩)) := hO.2.2 2 rfl
      have f2 := (ev_form av 2).symm.trans h2
      have d16 : av.eval (.tmp 16) = (.agg #[.int .u64 0, .bool false, .int .u64 0, .slice none 0 0, .slice none 0 0]) := hD.1 rfl _ rfl
      have f16 := (ev_form av 16).symm.trans d16
      refine ⟨rfl, ?_⟩
      have hq : wv.heap[b0]? = some (.cells #[.int .u64 0, .bool false, .int .u64 0, .slice none 0 0, .slice none 0 0] 44 (0, 0)) := ext_block (w := W.drew) (hS rfl) WB0.out
      have q0 : wv.cell? ⟨b0, 0, none⟩ = some (.int .u64 0) := block_cell hq 0
      have q1 : wv.cell? ⟨b0, 1, none⟩ = some (.bool false) := block_cell hq 1
      have q2 : wv.cell? ⟨b0, 2, none⟩ = some (.int .u64 0) := block_cell hq 2
      have q3 : wv.cell? ⟨b0, 3, none⟩ = some (.slice none 0 0) := block_cell hq 3
      have q4 : wv.cell? ⟨b0, 4, none⟩ = some (.slice none 0 0) := block_cell hq 4
      have hz : ∀ o, wv.frozen? ⟨b0, o, none⟩ = false := block_free hq
      have l0 : b0 < wv.heap.size := lt_of_block hq
      have h2 : av.eval (.tmp 2) = (.pointer (some ⟨b0, 0, none⟩)) := hO.2.2 2 rfl
      have f2 := (ev_form av 2).symm.trans h2
      unfold Oper.wp
      simp [go_sem, f2, f16, hz, l0, q0, q1, q2, q3, q4]
      exact ⟨es_sp (extB_setIn (extB_setIn (extB_setIn (extB_setIn (extB_setIn (ExtB_refl _ _) 0 _) 1 _) 2 _) 3 _) 4 _), undef, (block_setCell (block_setCell (block_setCell (block_setCell (block_setCell hq (o := 0) _) (o := 1) _) (o := 2) _) (o := 3) _) (o := 4) _)⟩
    intro a' w' hE hO hall
    have hA := act_of_outer (ds := [16, 17]) rfl hO (by kernel_rfl)
    have e16 : (fun u _ => u = (.agg #[.int .u64 0, .bool false, .int .u64 0, .slice none 0 0, .slice none 0 0])) (a'.eval (.tmp 16)) w' := hall.1 _ rfl
    have e17 : (fun u _ => u = (.agg #[.int .i64 g.1, .int .i64 g.2])) (a'.eval (.tmp 17)) w' := hall.2.1 _ rfl
    have z2 : (fun _ w' => w'.heap[b0]? = some (.cells #[.int .u64 0, .bool false, .int .u64 0, .slice none 0 0, .slice none 0 0] 44 (0, 0))) undef w' := hall.2.2.1 _ rfl
    simp only [List.foldl_cons, List.foldl_nil, Act.put, List.setIfInBounds_toArray, List.set_cons_succ, List.set_cons_zero, e16, e17] at hA
    clear hO hall e16 e17
    subst hA
    have HX : Hid (ExtB (some b0) W w') := Lib.hid (of_drewE hE)
    have Z2 := Lib.hid z2
    have Q1 : Hid (w'.heap[b0 + 1]? = some (.cells #[.int .i64 0, .int .i64 0] 63 (0, 0))) := Lib.hid (extB_block HX.out (by simp) WB1.out)
    have g0 : ∀ o, w'.cell? ⟨b0 + 1, o, none⟩ = _ := block_cell Q1.out
    have g1 : ∀ o, w'.frozen? ⟨b0 + 1, o, none⟩ = false := block_free Q1.out
    have g2 : b0 + 1 < w'.heap.size := lt_of_block Q1.out
    have HBX : Hid (Below w.heap.size w w') := Lib.hid (grownBy_below BW.out HX.out (fun k hk => by have := HB0.out; obtain rfl : b0 = k := Option.some.inj hk; omega))
    clear hE z2
    go_wp2
    have hb := block_setCell (block_setCell Q1.out (o := 0) (.int .i64 g.1)) (o := 1) (.int .i64 g.2)
    have hb2 := block_setCell_ne (block_setCell_ne Z2.out (show b0 ≠ (⟨b0 + 1, 0, none⟩ : Addr).block by show b0 ≠ b0 + 1; omega) (.int .i64 g.1)) (show b0 ≠ (⟨b0 + 1, 1, none⟩ : Addr).block by show b0 ≠ b0 + 1; omega) (.int .i64 g.2)
    have d : ∀ o, _ = _ := block_cell hb
    have d2 : ∀ o, _ = _ := block_cell hb2
    refine bodyPost_ret (v := .tuple #[.agg #[.int .u64 0, .bool false, .int .u64 0, .slice none 0 0, .slice none 0 0], .agg #[.int .i64 g.1, .int .i64 g.2]]) ?_ rfl ?_
    · simp [results, Tryz.results36, go_sem, d, d2]
    · refine ⟨?_, (HBX.out.setCell (show w.heap.size ≤ b0 + 1 by have := HB0.out; omega) _).setCell (show w.heap.size ≤ b0 + 1 by have := HB0.out; omega) _⟩
      rw [HR.out]
      exact ⟨HG0.out, rfl⟩
  | ok a =>
    obtain rfl : (0, 0) = f := hf
    have k0 : W.cell? ⟨b5, 0, none⟩ = some (.int .u64 (x 0).n) := block_cell WB5.out 0
    have k1 : W.cell? ⟨b5, 1, none⟩ = some (.bool (x 1).q) := block_cell WB5.out 1
    have k2 : W.cell? ⟨b5, 2, none⟩ = some (.int .u64 (x 2).n) := block_cell WB5.out 2
    have k3 : W.cell? ⟨b5, 3, none⟩ = some (.slice a3 (len (x 3).l) c3) := block_cell WB5.out 3
    have k4 : W.cell? ⟨b5, 4, none⟩ = some (.slice a4 (len (x 4).l) c4) := block_cell WB5.out 4
    have f : Flt := (0, 0)
    have HR : Hid (rdSlotS s = .ok x) := Lib.hid (by unfold rdSlotS; rw [HZ.out]; show (match endS s τ with | .error f => Except.error f | .ok _ => .ok x) = _; rw [HS.out])
    go_upto_region 6 with fail
    refine wp_region_tail 3 2 ((some b0)) (phis [fun u _ => u = (.agg #[.int .u64 (x 0).n, .bool (x 1).q, .int .u64 (x 2).n, .slice a3 (len (x 3).l) c3, .slice a4 (len (x 4).l) c4]), fun u _ => u = (.agg #[.int .i64 0, .int .i64 0]), fun _ w' => w'.heap[b0]? = some (.cells #[.int .u64 (x 0).n, .bool (x 1).q, .int .u64 (x 2).n, .slice a3 (len (x 3).l) c3, .slice a4 (len (x 4).l) c4] 44 (0, 0))]) rfl (by kernel_rfl) (by kernel_rfl) (mono_of ⟨mono_eq, mono_eq, ?m2, trivial⟩) (steps_of 3 ⟨?s0, ?s1, ?s2, trivial⟩) ?_
    case m2 =>
      exact ⟨fun u w1 w2 h hb => ext_block h hb, fun hn => absurd rfl hn⟩
    case s0 =>
      refine step_val (v := (.agg #[.int .u64 (x 0).n, .bool (x 1).q, .int .u64 (x 2).n, .slice a3 (len (x 3).l) c3, .slice a4 (len (x 4).l) c4])) (fun av wv hE hS hO hD => ?_) (fun _ => rfl)
      have h5 : av.eval (.tmp 5) = (.pointer (some ⟨b5, 0, none⟩)) := hO.2.2 5 rfl
      have f5 := (ev_form av 5).symm.trans h5
      have k0 := extB_cell hE hn5 k0
      have k1 := extB_cell hE hn5 k1
      have k2 := extB_cell hE hn5 k2
      have k3 := extB_cell hE hn5 k3
      have k4 := extB_cell hE hn5 k4
      have j0 := extB_cell hE hn6 j0
      have j1 := extB_cell hE hn6 j1
      refine ⟨rfl, ?_⟩
      simp [go_sem, f5, k0, k1, k2, k3, k4, j0, j1]
    case s1 =>
      refine step_val (v := (.agg #[.int .i64 0, .int .i64 0])) (fun av wv hE hS hO hD => ?_) (fun _ => rfl)
      have h6 : av.eval (.tmp 6) = (.pointer (some ⟨b6, 0, none⟩)) := hO.2.2 6 rfl
      have f6 := (ev_form av 6).symm.trans h6
      have k0 := extB_cell hE hn5 k0
      have k1 := extB_cell hE hn5 k1
      have k2 := extB_cell hE hn5 k2
      have k3 := extB_cell hE hn5 k3
      have k4 := extB_cell hE hn5 k4
      have j0 := extB_cell hE hn6 j0
      have j1 := extB_cell hE hn6 j1
      refine ⟨rfl, ?_⟩
      simp [go_sem, f6, k0, k1, k2, k3, k4, j0, j1]
    case s2 =>
      refine step_wp (fun av wv hE hS hO hD => ?_)
      have h2 : av.eval (.tmp 2) = (.pointer (some ⟨b0, 0, none⟩)) := hO.2.2 2 rfl
      have f2 := (ev_form av 2).symm.trans h2
      have d18 : av.eval (.tmp 18) = (.agg #[.int .u64 (x 0).n, .bool (x 1).q, .int .u64 (x 2).n, .slice a3 (len (x 3).l) c3, .slice a4 (len (x 4).l) c4]) := hD.1 rfl _ rfl
      have f18 := (ev_form av 18).symm.trans d18
      refine ⟨rfl, ?_⟩
      have hq : wv.heap[b0]? = some (.cells #[.int .u64 0, .bool false, .int .u64 0, .slice none 0 0, .slice none 0 0] 44 (0, 0)) := ext_block (w := W.drew) (hS rfl) WB0.out
      have q0 : wv.cell? ⟨b0, 0, none⟩ = some (.int .u64 0) := block_cell hq 0
      have q1 : wv.cell? ⟨b0, 1, none⟩ = some (.bool false) := block_cell hq 1
      have q2 : wv.cell? ⟨b0, 2, none⟩ = some (.int .u64 0) := block_cell hq 2
      have q3 : wv.cell? ⟨b0, 3, none⟩ = some (.slice none 0 0) := block_cell hq 3
      have q4 : wv.cell? ⟨b0, 4, none⟩ = some (.slice none 0 0) := block_cell hq 4
      have hz : ∀ o, wv.frozen? ⟨b0, o, none⟩ = false := block_free hq
      have l0 : b0 < wv.heap.size := lt_of_block hq
      have h2 : av.eval (.tmp 2) = (.pointer (some ⟨b0, 0, none⟩)) := hO.2.2 2 rfl
      have f2 := (ev_form av 2).symm.trans h2
      unfold Oper.wp
      simp [go_sem, f2, f18, hz, l0, q0, q1, q2, q3, q4]
      exact ⟨es_sp (extB_setIn (extB_setIn (extB_setIn (extB_setIn (extB_setIn (ExtB_refl _ _) 0 _) 1 _) 2 _) 3 _) 4 _), undef, (block_setCell (block_setCell (block_setCell (block_setCell (block_setCell hq (o := 0) _) (o := 1) _) (o := 2) _) (o := 3) _) (o := 4) _)⟩
    intro a' w' hE hO hall
    have hA := act_of_outer (ds := [18, 19]) rfl hO (by kernel_rfl)
    have e18 : (fun u _ => u = (.agg #[.int .u64 (x 0).n, .bool (x 1).q, .int .u64 (x 2).n, .slice a3 (len (x 3).l) c3, .slice a4 (len (x 4).l) c4])) (a'.eval (.tmp 18)) w' := hall.1 _ rfl
    have e19 : (fun u _ => u = (.agg #[.int .i64 0, .int .i64 0])) (a'.eval (.tmp 19)) w' := hall.2.1 _ rfl
    have z2 : (fun _ w' => w'.heap[b0]? = some (.cells #[.int .u64 (x 0).n, .bool (x 1).q, .int .u64 (x 2).n, .slice a3 (len (x 3).l) c3, .slice a4 (len (x 4).l) c4] 44 (0, 0))) undef w' := hall.2.2.1 _ rfl
    simp only [List.foldl_cons, List.foldl_nil, Act.put, List.setIfInBounds_toArray, List.set_cons_succ, List.set_cons_zero, e18, e19] at hA
    clear hO hall e18 e19
    subst hA
    have HX : Hid (ExtB (some b0) W w') := Lib.hid (of_drewE hE)
    have Z2 := Lib.hid z2
    have Q1 : Hid (w'.heap[b0 + 1]? = some (.cells #[.int .i64 0, .int .i64 0] 63 (0, 0))) := Lib.hid (extB_block HX.out (by simp) WB1.out)
    have g0 : ∀ o, w'.cell? ⟨b0 + 1, o, none⟩ = _ := block_cell Q1.out
    have g1 : ∀ o, w'.frozen? ⟨b0 + 1, o, none⟩ = false := block_free Q1.out
    have g2 : b0 + 1 < w'.heap.size := lt_of_block Q1.out
    have HBX : Hid (Below w.heap.size w w') := Lib.hid (grownBy_below BW.out HX.out (fun k hk => by have := HB0.out; obtain rfl : b0 = k := Option.some.inj hk; omega))
    clear hE z2
    go_wp2
    have hb := block_setCell (block_setCell Q1.out (o := 0) (.int .i64 0)) (o := 1) (.int .i64 0)
    have hb2 := block_setCell_ne (block_setCell_ne Z2.out (show b0 ≠ (⟨b0 + 1, 0, none⟩ : Addr).block by show b0 ≠ b0 + 1; omega) (.int .i64 0)) (show b0 ≠ (⟨b0 + 1, 1, none⟩ : Addr).block by show b0 ≠ b0 + 1; omega) (.int .i64 0)
    have d : ∀ o, _ = _ := block_cell hb
    have d2 : ∀ o, _ = _ := block_cell hb2
    refine bodyPost_ret (v := .tuple #[.agg #[.int .u64 (x 0).n, .bool (x 1).q, .int .u64 (x 2).n, .slice a3 (len (x 3).l) c3, .slice a4 (len (x 4).l) c4], .agg #[.int .i64 0, .int .i64 0]]) ?_ rfl ?_
    · simp [results, Tryz.results36, go_sem, d, d2]
    · refine ⟨?_, (HBX.out.setCell (show w.heap.size ≤ b0 + 1 by have := HB0.out; omega) _).setCell (show w.heap.size ≤ b0 + 1 by have := HB0.out; omega) _⟩
      rw [HR.out]
      have hk2 : ∀ b, rb < b → cb < b → b < W.heap.size → ((w'.setCell ⟨b0 + 1, 0, none⟩ (.int .i64 0)).setCell ⟨b0 + 1, 1, none⟩ (.int .i64 0)).heap[b]? = W.heap[b]? := fun b h1 _ h2 => by
        have h5 := HRB.out
        rw [Below.heap_setCell _ _ _ _ (show b ≠ b0 + 1 by omega), Below.heap_setCell _ _ _ _ (show b ≠ b0 + 1 by omega)]
        exact HX.out.block b h2 (by simp; omega)
      exact ⟨HK.out, a3, c3, a4, c4, rfl, holds_strs (HK.out 3) (J3.out.keep2 hk2), holds_strs (HK.out 4) (J4.out.keep2 hk2)⟩
end Go.Proofs.YtihiaopilnjonaaGreatDoor
namespace Go.Proofs.YtihiaopilnjonaaGreatDoor
open Go.RowKit
set_option linter.unusedSimpArgs false
set_option linter.unusedVariables false
def slotCut (d : RevD) : RevD := { d with ws := textsP d.ws 70, ps := textsP d.ps 20 }
def certRs (l : List RevD) : List RevD := (l.take 8).map slotCut
theorem certRs_len (l : List RevD) : len (certRs l) = min (len l) 8 := by unfold certRs; simp only [len, List.length_map, List.length_take]; omega
theorem certRs_at (l : List RevD) {i : Nat} (hi : i < len (certRs l)) : lth (certRs l) i = slotCut (lth l i) := by
  have hl := certRs_len l
  have h' : i < ((l.take 8).map slotCut).length := hi
  have h2 : i < l.length := by rw [hl, len_eq] at hi; omega
  show lth ((l.take 8).map slotCut) i = _
  rw [lth_eq _ i h', List.getElem_map, List.getElem_take, lth_eq l i h2]
theorem CWS.cw {w : World} {b o : Nat} {x : Value} (h : CWS w b o x) : CW w b o x := h.1
def CW2 (n : Nat) (w : World) : CP := fun b o x => CW w b o x ∧ (n ≤ b ∨ ∃ cs, w.heap[b]? = some (.cells cs 9 (0, 0)))
theorem CW2.cw {n : Nat} {w : World} {b o : Nat} {x : Value} (h : CW2 n w b o x) : CW w b o x := h.1
theorem CW2.set {n : Nat} {w : World} {b o t j : Nat} {x : Value} {cs : Array Value} {T : TypeId} {fr : Nat × Nat} (h : CW2 n w b o x) (ht : t < n) (hb : w.heap[t]? = some (.cells cs T fr)) (hT : T ≠ 9) (v : Value) : CW2 n (w.setCell ⟨t, j, none⟩ v) b o x := by
  have hne : b ≠ t := fun e => by
    subst e
    rcases h.2 with h2 | ⟨cs', h2⟩
    · omega
    · rw [hb] at h2; cases h2; exact hT rfl
  have hk : (w.setCell ⟨t, j, none⟩ v).heap[b]? = w.heap[b]? := Below.heap_setCell _ _ _ _ hne
  exact ⟨(World.cell?_of_block (a := ⟨b, o, none⟩) hk).trans h.1, h.2.imp id (fun ⟨cs', h2⟩ => ⟨cs', hk.trans h2⟩)⟩
def KeepS (w w' : World) : Prop := ∀ (b : Nat) (cs : Array Value), w.heap[b]? = some (.cells cs 9 (0, 0)) → w'.heap[b]? = w.heap[b]?
theorem KeepS.trans {a b c : World} (h : KeepS a b) (k : KeepS b c) : KeepS a c := fun i cs hi => (k i cs ((h i cs hi).trans hi)).trans (h i cs hi)
theorem KeepS.low {w w' : World} (hb : Below w.heap.size w w') : KeepS w w' := fun b cs h => hb.block b (lt_of_block h)
theorem KeepS.set {w : World} {t j : Nat} {cs : Array Value} {T : TypeId} {fr : Nat × Nat} (h : w.heap[t]? = some (.cells cs T fr)) (hT : T ≠ 9) (v : Value) : KeepS w (w.setCell ⟨t, j, none⟩ v) := fun b cs' hb => Below.heap_setCell _ _ _ _ (show b ≠ t from fun e => by subst e; rw [h] at hb; cases hb; exact hT rfl)
theorem KeepS.row {w w' : World} {v : Value} {base n k : Nat} {T : TypeId} {xs : List Value} (ho : w.ownsRow base T k v n xs) (hT : T ≠ 9) (hE : ExtB v.ownBlock w w') : KeepS w w' := fun b cs hb => hE.block b (lt_of_block hb) (fun e => by
  obtain ⟨cs', h⟩ := own_type ho b e.symm
  rw [h] at hb; cases hb; exact hT rfl)
end Go.Proofs.YtihiaopilnjonaaGreatDoor
namespace Go.Proofs.YtihiaopilnjonaaGreatDoor
open Go.RowKit
set_option linter.unusedSimpArgs false
set_option linter.unusedVariables false
structure CertArg (w : World) (root : ByteArray) (sg : Int) (a2 : Option Addr) (rs : List RevD) (a3 : Option Addr) (k3 : Nat) (cs : List Int) (a4 : Option Addr) (sp : List ByteArray) (a5 : Option Addr) (pp : List ByteArray) : Prop where
  root : root.size ≤ maxLen
  sg : U64i sg
  r : RvsC (CW w) a2 rs
  rn : len rs ≤ maxLen
  ro : ∀ i, i < len rs → RvOp (lth rs i)
  c : NmsC (CW w) a3 cs
  cn : len cs ≤ k3
  ck : k3 ≤ maxLen
  cu : ∀ i, i < len cs → U64i (nth cs i)
  s : StrsC (CW w) a4 sp
  sn : len sp ≤ maxLen
  p : StrsC (CW w) a5 pp
  pn : len pp ≤ maxLen
theorem maxLen_le {n : Nat} (h : n ≤ maxLen) : n ≤ 9223372036854775807 := by unfold maxLen at h; omega
theorem CertArg.low {w w' : World} {root : ByteArray} {sg : Int} {a2 : Option Addr} {rs : List RevD} {a3 : Option Addr} {k3 : Nat} {cs : List Int} {a4 : Option Addr} {sp : List ByteArray} {a5 : Option Addr} {pp : List ByteArray} (h : CertArg w root sg a2 rs a3 k3 cs a4 sp a5 pp) (hb : Below w.heap.size w w') : CertArg w' root sg a2 rs a3 k3 cs a4 sp a5 pp :=
  ⟨h.root, h.sg, h.r.imp (cw_low hb), h.rn, h.ro, h.c.imp (cw_low hb), h.cn, h.ck, h.cu, h.s.imp (cw_low hb), h.sn, h.p.imp (cw_low hb), h.pn⟩
structure CertFit (root : ByteArray) (sg : Int) (rs : List RevD) (cs : List Int) (sp pp : List ByteArray) : Prop where
  bd : CtBd root sg rs cs sp pp
  ok : CertOkD sg rs cs
theorem textsP_le (l : List ByteArray) (n : Nat) (hn : n ≤ 100000) : len (textsP l n) ≤ 100000 := by rw [textsP_len]; omega
theorem rvbd_cut {d : RevD} (h : RvOp d) : RvBd (slotCut d) := ⟨h.pos, h.L, h.idx, h.wt, h.first, h.life, h.keys, textsP_le _ _ (by decide), textsP_le _ _ (by decide), maxLen_le h.root⟩
theorem rvok_of {d : RevD} (h : RvBd d) : RvOk d := fun o => by
  unfold revC
  split <;> first | exact h.pos | exact h.L | trivial | exact h.idx | exact h.wt | exact h.first | exact h.life | exact h.keys
theorem fit_of {root : ByteArray} {sg : Int} {rs : List RevD} {cs : List Int} {sp pp : List ByteArray} (h : CtBd root sg rs cs sp pp) : CertFit root sg rs cs sp pp := by
  refine ⟨h, h.sg, fun n hn => ?_, fun r hr => ?_⟩
  · obtain ⟨i, hi, rfl⟩ := List.getElem_of_mem hn
    rw [← nth_eq cs i hi]; exact h.cs i hi
  · obtain ⟨i, hi, rfl⟩ := List.getElem_of_mem hr
    rw [← lth_eq rs i hi]; exact rvok_of (h.rs i hi)
theorem CertArg.fit {w : World} {root : ByteArray} {sg : Int} {a2 : Option Addr} {rs : List RevD} {a3 : Option Addr} {k3 : Nat} {cs : List Int} {a4 : Option Addr} {sp : List ByteArray} {a5 : Option Addr} {pp : List ByteArray} (h : CertArg w root sg a2 rs a3 k3 cs a4 sp a5 pp) : CertFit root sg (certRs rs) (cs.take 650) (textsP sp 20) (textsP pp 20) := by
  refine fit_of ⟨maxLen_le h.root, h.sg, by rw [certRs_len]; omega, fun i hi => ?_, ?_, fun i hi => ?_, textsP_le _ _ (by decide), textsP_le _ _ (by decide)⟩
  · rw [certRs_at rs hi]
    exact rvbd_cut (h.ro i (by rw [certRs_len] at hi; omega))
  · simp only [len, List.length_take]; omega
  · have hi' : i < (cs.take 650).length := hi
    have hil : i < cs.length := by rw [List.length_take] at hi'; omega
    rw [nth_eq _ i hi', List.getElem_take, ← nth_eq cs i hil]
    exact h.cu i (by rw [len_eq]; exact hil)
end Go.Proofs.YtihiaopilnjonaaGreatDoor
namespace Go.Proofs.YtihiaopilnjonaaGreatDoor
open Go.RowKit
set_option linter.unusedSimpArgs false
set_option linter.unusedVariables false
theorem rdSlot_same (s : ByteArray) : rdSlotS s = readR s (slotGs s 0) slot0 := all_same (F := slotS s) (by
  have h := (slot_sameR s).good 0
  cases hr : objR s (slotGs s 0) slot0 0 with
  | error e => exact h.1 e hr
  | ok y => exact h.2 y hr)
theorem rrqSlot_any (s : ByteArray) (w : World) (hs : s.size < 65536) : Calls Tryz.prog 36 #[.string s] w fun e w' => ∃ a3 c3 a4 c4, e = .returned (.tuple #[.agg (cellsSlot (recV (readR s (slotGs s 0) slot0) slot0) a3 c3 a4 c4), .agg #[.int .i64 (fltV (readR s (slotGs s 0) slot0)).1, .int .i64 (fltV (readR s (slotGs s 0) slot0)).2]]) ∧ NeV (readR s (slotGs s 0) slot0) ∧ StrsC (CW w') a3 (recV (readR s (slotGs s 0) slot0) slot0 3).l ∧ StrsC (CW w') a4 (recV (readR s (slotGs s 0) slot0) slot0 4).l ∧ Below w.heap.size w w' := by
  refine (rreSlot_any s w hs).mono ?_
  rintro e w' ⟨hh, hb⟩
  rw [rdSlot_same] at hh
  cases hr : readR s (slotGs s 0) slot0 with
  | error f =>
    rw [hr] at hh
    exact ⟨none, 0, none, 0, hh.2, hh.1, strsC_nil _ _, strsC_nil _ _, hb⟩
  | ok y =>
    rw [hr] at hh
    obtain ⟨_, a3, c3, a4, c4, he, h3, h4⟩ := hh
    exact ⟨a3, c3, a4, c4, he, trivial, h3, h4, hb⟩
theorem slot_lens (s : ByteArray) : len (recV (readR s (slotGs s 0) slot0) slot0 3).l ≤ 9223372036854775807 ∧ len (recV (readR s (slotGs s 0) slot0) slot0 4).l ≤ 9223372036854775807 := by
  cases hr : readR s (slotGs s 0) slot0 with
  | error f => exact ⟨Nat.zero_le _, Nat.zero_le _⟩
  | ok y =>
    obtain ⟨hm, _, _⟩ := slot_back hr
    have h3 : allMay (sigSpecs (y 2).n (y 3).l (y 4).l) = true := may_all hm (objSpec ⟨#[103]⟩ (sigSpecs (y 2).n (y 3).l (y 4).l)) (by unfold slotSpecs; simp)
    have h4 := ((mayB_iff _ _).1 (may_all h3 ⟨⟨#[112]⟩, false, decide (len (y 4).l = 0), mayB (y 4).l 16, dgsP (y 4).l⟩ (by unfold sigSpecs; simp))).1
    have h5 := ((mayB_iff _ _).1 (may_all h3 ⟨⟨#[118]⟩, false, decide (len (y 3).l = 0), mayB (y 3).l 67, dgsP (y 3).l⟩ (by unfold sigSpecs; simp))).1
    exact ⟨Nat.le_trans h5 (by decide), Nat.le_trans h4 (by decide)⟩
set_option maxRecDepth 100000 in
set_option maxHeartbeats 8000000 in
theorem slots7_law (B : Nat) (L : Int) (q : Bool) (idx : Int) (a1 a2 : Option Addr) (k1 k2 : Nat) (ws ps : List ByteArray) (s : ByteArray) (ta ty ts : Int) (w : World) (h : TE7 B w) (hL : U64i L) (hi : U64i idx) (h1 : StrsC (CW w) a1 ws) (h2 : StrsC (CW w) a2 ps) (n1 : len ws ≤ 9223372036854775807) (n2 : len ps ≤ 9223372036854775807) (hs : s.size ≤ 9223372036854775807) (ha : 0 ≤ ta ∧ ta ≤ 65535) (hy : 0 ≤ ty ∧ ty ≤ 255) :
    Calls Tryz.prog 6 #[.agg #[.int .u64 L, .bool q, .int .u64 idx, .slice a1 (len ws) k1, .slice a2 (len ps) k2], .string s, .agg #[.int .u16 ta, .int .u8 ty, .int .i64 ts]] w fun e w' => e = .returned (.bool true) ∧ Below w.heap.size w w' := by
  have HE := Lib.hid h
  have HE0 := HE
  have HSX := Lib.hid (fun (w' : World) (hb : Below w.heap.size w w') => slot_any L q idx a1 a2 k1 k2 ws ps w' (h1.low hb) (h2.low hb) n1 n2)
  have HWN : Hid (len (textsP ws 70) ≤ 100000 ∧ len (textsP ps 20) ≤ 100000) := Lib.hid (by rw [textsP_len, textsP_len]; omega)
  have HWZ : Hid ((∀ i, i < len (textsP ws 70) → (sth (textsP ws 70) i).size ≤ 9223372036854775807) ∧ ∀ i, i < len (textsP ps 20) → (sth (textsP ps 20) i).size ≤ 9223372036854775807) := Lib.hid ⟨fun i hi => Nat.le_trans (textsP_sz ws 70 i hi) (by decide), fun i hi => Nat.le_trans (textsP_sz ps 20 i hi) (by decide)⟩
  clear h h1 h2
  generalize textsP ws 70 = ws' at HSX HWN HWZ
  generalize textsP ps 20 = ps' at HSX HWN HWZ
  generalize len ws = l1 at HSX ⊢
  generalize len ps = l2 at HSX ⊢
  have HW := Lib.hid (fun (w' : World) (ht : TE7 B w') (b1 b2 : Option Addr) (c1 c2 : Nat) (s1 : StrsC (CW w') b1 ws') (s2 : StrsC (CW w') b2 ps') => wslot2_any w'.heap.size L q idx b1 b2 c1 c2 ws' ps' w' ht.up s1.at s2.at hi.1 hi.2 hL.1 hL.2 HWN.out.1 HWN.out.2 (fun h => Nat.le_trans (slotSz h) (by decide)))
  have HR := Lib.hid (fun (w' : World) (b1 b2 : Option Addr) (c1 c2 : Nat) (s1 : StrsC (CW w') b1 ws') (s2 : StrsC (CW w') b2 ps') => rslot_any w'.heap.size L q idx b1 b2 c1 c2 ws' ps' w' hi hL s1.at s2.at HWN.out.1 HWN.out.2 HWZ.out.1 HWZ.out.2)
  have HSZ := Lib.hid (fun (h : allMay (slotSpecs L q idx ws' ps') = true) => slotSz h)
  obtain ⟨fs, hfs⟩ : ∃ fs, slotSpecs L q idx ws' ps' = fs := ⟨_, rfl⟩
  rw [hfs] at HW HR HSZ
  clear hfs HWN HWZ
  go_enter Tryz.func6, Tryz.ntmps6
  go_upto_region 1 with fail
  obtain ⟨pb, hpb⟩ : ∃ pb, w.heap.size = pb := ⟨_, rfl⟩
  have HPW := Lib.hid (Nat.le_of_eq hpb)
  obtain ⟨tb, htb⟩ : ∃ tb, pb + 1 = tb := ⟨_, rfl⟩
  obtain ⟨V, hV⟩ : ∃ V, (w.alloc (.cells #[.int .u64 L, .bool q, .int .u64 idx, .slice a1 l1 k1, .slice a2 l2 k2] 44)).alloc (.cells #[.int .u16 ta, .int .u8 ty, .int .i64 ts] 55) = V := ⟨_, rfl⟩
  have HB : Hid (Below w.heap.size w V) := Lib.hid (by rw [← hV]; exact balloc (balloc (Below.refl _ _) _) _)
  have HP : Hid (V.heap[pb]? = some (.cells #[.int .u64 L, .bool q, .int .u64 idx, .slice a1 l1 k1, .slice a2 l2 k2] 44 (0, 0))) := Lib.hid (by rw [← hV, ← hpb]; exact block_alloc (heap_alloc_new _ _) _)
  have HT : Hid (V.heap[tb]? = some (.cells #[.int .u16 ta, .int .u8 ty, .int .i64 ts] 55 (0, 0))) := Lib.hid (by rw [← hV, ← htb, ← hpb]; exact alloc_new_at _ (by simp))
  have HE := Lib.hid (HE.out.below HB.out)
  have HPT : Hid (pb ≠ tb) := Lib.hid (by omega)
  simp only [hV, hpb, htb]
  clear hV htb hpb
  have cP : ∀ o, V.cell? ⟨pb, o, none⟩ = _ := block_cell HP.out
  go_wp2_with fail
  refine (HSX.out V HB.out).mono ?_
  rintro e u1 ⟨b1, c1, b2, c2, rfl, hr1, hr2, hb⟩
  have HB := Lib.hid (bnext HB.out hb)
  have HP := Lib.hid ((hb.block _ (lt_of_block HP.out)).trans HP.out)
  have HT := Lib.hid ((hb.block _ (lt_of_block HT.out)).trans HT.out)
  have hr1 := Lib.hid hr1
  have hr2 := Lib.hid hr2
  clear hb cP
  have qf : ∀ o, u1.frozen? ⟨pb, o, none⟩ = false := block_free HP.out
  have rc : ∀ o, u1.cell? ⟨pb, o, none⟩ = _ := block_cell HP.out
  go_upto_region 2 with fail
  obtain ⟨u2, hu2⟩ : ∃ u2, ((((u1.setCell ⟨pb, 0, none⟩ (.int .u64 L)).setCell ⟨pb, 1, none⟩ (.bool q)).setCell ⟨pb, 2, none⟩ (.int .u64 idx)).setCell ⟨pb, 3, none⟩ (.slice b1 (len ws') c1)).setCell ⟨pb, 4, none⟩ (.slice b2 (len ps') c2) = u2 := ⟨_, rfl⟩
  simp only [hu2]
  have HP0 := HP
  have HP : Hid (u2.heap[pb]? = some (.cells #[.int .u64 L, .bool q, .int .u64 idx, .slice b1 (len ws') c1, .slice b2 (len ps') c2] 44 (0, 0))) := Lib.hid (by rw [← hu2]; exact block_setCell (block_setCell (block_setCell (block_setCell (block_setCell HP.out _) _) _) _) _)
  have HT : Hid (u2.heap[tb]? = some (.cells #[.int .u16 ta, .int .u8 ty, .int .i64 ts] 55 (0, 0))) := Lib.hid (by
    rw [← hu2]
    have hne := HPT.out.symm
    exact block_setCell_ne (block_setCell_ne (block_setCell_ne (block_setCell_ne (block_setCell_ne HT.out hne _) hne _) hne _) hne _) hne _)
  have hr1 : Hid (StrsC (CW u2) b1 ws') := Lib.hid (by
    rw [← hu2]
    exact (StrsC.wset (StrsC.wset (StrsC.wset (StrsC.wset (StrsC.wset hr1.out HP0.out (by decide) _) (block_setCell HP0.out _) (by decide) _) (block_setCell (block_setCell HP0.out _) _) (by decide) _) (block_setCell (block_setCell (block_setCell HP0.out _) _) _) (by decide) _) (block_setCell (block_setCell (block_setCell (block_setCell HP0.out _) _) _) _) (by decide) _).imp fun _ _ _ h => h.cw)
  have hr2 : Hid (StrsC (CW u2) b2 ps') := Lib.hid (by
    rw [← hu2]
    exact (StrsC.wset (StrsC.wset (StrsC.wset (StrsC.wset (StrsC.wset hr2.out HP0.out (by decide) _) (block_setCell HP0.out _) (by decide) _) (block_setCell (block_setCell HP0.out _) _) (by decide) _) (block_setCell (block_setCell (block_setCell HP0.out _) _) _) (by decide) _) (block_setCell (block_setCell (block_setCell (block_setCell HP0.out _) _) _) _) (by decide) _).imp fun _ _ _ h => h.cw)
  have HB : Hid (Below w.heap.size w u2) := Lib.hid (by rw [← hu2]; exact bset (bset (bset (bset (bset HB.out HPW.out _) HPW.out _) HPW.out _) HPW.out _) HPW.out _)
  have HE := Lib.hid (HE0.out.below HB.out)
  clear hu2 qf rc HP0
  have cP : ∀ o, u2.cell? ⟨pb, o, none⟩ = _ := block_cell HP.out
  go_wp2_with fail
  refine (HW.out u2 HE.out b1 b2 c1 c2 hr1.out hr2.out).mono ?_
  rintro e u3 hh
  obtain ⟨rfl, hb⟩ := hh.both
  have HB := Lib.hid (bnext HB.out hb)
  have HE := Lib.hid (HE.out.below hb)
  have HP := Lib.hid ((hb.block _ (lt_of_block HP.out)).trans HP.out)
  have HT := Lib.hid ((hb.block _ (lt_of_block HT.out)).trans HT.out)
  have hr1 := Lib.hid (hr1.out.low hb)
  have hr2 := Lib.hid (hr2.out.low hb)
  clear hb hh cP
  have cP : ∀ o, u3.cell? ⟨pb, o, none⟩ = _ := block_cell HP.out
  go_wp2_with fail
  refine (HR.out u3 b1 b2 c1 c2 hr1.out hr2.out).mono ?_
  rintro e u4 hh
  obtain ⟨rfl, hb⟩ := hh.both
  have HB := Lib.hid (bnext HB.out hb)
  have HE := Lib.hid (HE.out.below hb)
  have HT := Lib.hid ((hb.block _ (lt_of_block HT.out)).trans HT.out)
  clear hb hh cP hr1 hr2 HP
  have HBZ : Hid ((TextOf fs).size ≤ 28000) := Lib.hid (by
    unfold TextOf
    cases hm : allMay fs with
    | true => exact HSZ.out hm
    | false => exact (show (0 : Nat) ≤ 28000 by decide))
  generalize TextOf fs = b at HBZ
  generalize CodeOf fs = c
  obtain ⟨k, hk⟩ : ∃ k, min s.size 3000 = k := ⟨_, rfl⟩
  have mn : min (s.size : Int) 3000 = (k : Int) := by rw [← hk]; omega
  have sl : k ≤ s.size := by rw [← hk]; exact Nat.min_le_left _ _
  have HK : Hid (k ≤ 3000) := Lib.hid (by rw [← hk]; exact Nat.min_le_right _ _)
  obtain ⟨v0, hv0⟩ : ∃ v, s.extract 0 k = v := ⟨_, rfl⟩
  have HV0 : Hid (v0.size ≤ 3000) := Lib.hid (by rw [← hv0, ByteArray.size_extract]; have := HK.out; omega)
  have HTN := Lib.hid (fun w' => turned_any b ta ty ts w' ha hy (Nat.le_trans HBZ.out (by decide)))
  clear hk
  go_upto_region 6 with fail
  obtain ⟨W, hW⟩ : ∃ W, u4 = W := ⟨_, rfl⟩
  rw [hW] at HB HE HT ⊢
  clear hW
  have y0 : W.cell? ⟨tb, 0, none⟩ = some (.int .u16 ta) := block_cell HT.out 0
  have y1 : W.cell? ⟨tb, 1, none⟩ = some (.int .u8 ty) := block_cell HT.out 1
  have y2 : W.cell? ⟨tb, 2, none⟩ = some (.int .i64 ts) := block_cell HT.out 2
  refine wp_region_tail 11 1000 (none) (phis [fun u _ => u = (.string s), fun u _ => u = (.string s), fun u _ => u = (.int .i64 s.size), fun u _ => u = (.int .i64 k), fun u _ => u = (.string v0), fun u _ => u = (.string b), fun u _ => u = (.string b), fun u _ => u = (.agg #[.int .u16 ta, .int .u8 ty, .int .i64 ts]), fun u _ => ∃ t : ByteArray, u = .string t ∧ t.size ≤ 28000, fun u _ => ∃ t : ByteArray, u = .agg #[.string v0, .string b, .string t] ∧ t.size ≤ 28000, fun u w' => ∃ c, u = .pointer (some ⟨c, 0, none⟩) ∧ W.heap.size ≤ c ∧ w'.heap[c]? = some (.cells #[.string ⟨#[]⟩, .string ⟨#[]⟩, .string ⟨#[]⟩] 57 (0, 0))]) rfl (by kernel_rfl) (by kernel_rfl) (mono_of ⟨mono_eq, mono_eq, mono_eq, mono_eq, mono_eq, mono_eq, mono_eq, mono_eq, mono_eq, mono_eq, ?m10, trivial⟩) (steps_of 11 ⟨?s0, ?s1, ?s2, ?s3, ?s4, ?s5, ?s6, ?s7, ?s8, ?s9, ?s10, trivial⟩) ?_
  case m10 =>
    exact ⟨fun u w1 w2 h ⟨c, h1, h2, h3⟩ => ⟨c, h1, h2, ext_block h h3⟩, fun _ u w1 w2 h ⟨c, h1, h2, h3⟩ => ⟨c, h1, h2, extB_block h (by simp) h3⟩⟩
  case s0 =>
    refine step_val (v := (.string s)) (fun av wv hE hS hO hD => ?_) (fun _ => rfl)
    have h1 : av.eval (.tmp 1) = (.string s) := hO.2.2 1 rfl
    have f1 := (ev_form av 1).symm.trans h1
    refine ⟨rfl, ?_⟩
    simp [go_sem, f1, mn, sl, hv0]
  case s1 =>
    refine step_val (v := (.string s)) (fun av wv hE hS hO hD => ?_) (fun _ => rfl)
    have h1 : av.eval (.tmp 1) = (.string s) := hO.2.2 1 rfl
    have f1 := (ev_form av 1).symm.trans h1
    refine ⟨rfl, ?_⟩
    simp [go_sem, f1, mn, sl, hv0]
  case s2 =>
    refine step_val (v := (.int .i64 s.size)) (fun av wv hE hS hO hD => ?_) (fun _ => rfl)
    have d38 : av.eval (.tmp 38) = (.string s) := hD.1 rfl _ rfl
    have f38 := (ev_form av 38).symm.trans d38
    refine ⟨rfl, ?_⟩
    simp [go_sem, f38, mn, sl, hv0]
  case s3 =>
    refine step_val (v := (.int .i64 k)) (fun av wv hE hS hO hD => ?_) (fun _ => rfl)
    have d39 : av.eval (.tmp 39) = (.int .i64 s.size) := hD.1 rfl _ rfl
    have f39 := (ev_form av 39).symm.trans d39
    refine ⟨rfl, ?_⟩
    simp [go_sem, f39, mn, sl, hv0]
  case s4 =>
    refine step_val (v := (.string v0)) (fun av wv hE hS hO hD => ?_) (fun _ => rfl)
    have d37 : av.eval (.tmp 37) = (.string s) := hD.1 rfl _ rfl
    have f37 := (ev_form av 37).symm.trans d37
    have d40 : av.eval (.tmp 40) = (.int .i64 k) := hD.2.1 rfl _ rfl
    have f40 := (ev_form av 40).symm.trans d40
    refine ⟨rfl, ?_⟩
    simp [go_sem, f37, f40, mn, sl, hv0]
  case s5 =>
    refine step_val (v := (.string b)) (fun av wv hE hS hO hD => ?_) (fun _ => rfl)
    have h9 : av.eval (.tmp 9) = (.string b) := hO.2.2 9 rfl
    have f9 := (ev_form av 9).symm.trans h9
    refine ⟨rfl, ?_⟩
    simp [go_sem, f9, mn, sl, hv0]
  case s6 =>
    refine step_val (v := (.string b)) (fun av wv hE hS hO hD => ?_) (fun _ => rfl)
    have h9 : av.eval (.tmp 9) = (.string b) := hO.2.2 9 rfl
    have f9 := (ev_form av 9).symm.trans h9
    refine ⟨rfl, ?_⟩
    simp [go_sem, f9, mn, sl, hv0]
  case s7 =>
    refine step_val (v := (.agg #[.int .u16 ta, .int .u8 ty, .int .i64 ts])) (fun av wv hE hS hO hD => ?_) (fun _ => rfl)
    have h5 : av.eval (.tmp 5) = (.pointer (some ⟨tb, 0, none⟩)) := hO.2.2 5 rfl
    have f5 := (ev_form av 5).symm.trans h5
    have y0 := extB_cell hE (by simp) y0
    have y1 := extB_cell hE (by simp) y1
    have y2 := extB_cell hE (by simp) y2
    refine ⟨rfl, ?_⟩
    simp [go_sem, f5, y0, y1, y2, mn, sl, hv0]
  case s8 =>
    refine step_wp (fun av wv hE hS hO hD => ?_)
    have d43 : av.eval (.tmp 43) = (.string b) := hD.1 rfl _ rfl
    have f43 := (ev_form av 43).symm.trans d43
    have d44 : av.eval (.tmp 44) = (.agg #[.int .u16 ta, .int .u8 ty, .int .i64 ts]) := hD.2.1 rfl _ rfl
    have f44 := (ev_form av 44).symm.trans d44
    refine ⟨rfl, ?_⟩
    exact wp_of_callR (f := 28) (args := #[.string b, .agg #[.int .u16 ta, .int .u8 ty, .int .i64 ts]]) (R := fun u w2 => (∃ t : ByteArray, u = .string t ∧ t.size ≤ 28000) ∧ Below wv.heap.size wv w2) (by simp [go_sem, f43, f44]) ((HTN.out wv).mono (fun e w2 ⟨t, h1, h2, h3⟩ => ⟨_, h1, ⟨t, rfl, Nat.le_trans h2 HBZ.out⟩, h3⟩)) (fun u w2 ⟨h1, h2⟩ => ⟨u, rfl, es_of_ext h2, h1⟩)
  case s9 =>
    refine step_wp (fun av wv hE hS hO hD => ?_)
    have d41 : av.eval (.tmp 41) = (.string v0) := hD.1 rfl _ rfl
    have f41 := (ev_form av 41).symm.trans d41
    have d42 : av.eval (.tmp 42) = (.string b) := hD.2.1 rfl _ rfl
    have f42 := (ev_form av 42).symm.trans d42
    have d45 : (fun u _ => ∃ t : ByteArray, u = .string t ∧ t.size ≤ 28000) (av.eval (.tmp 45)) wv := hD.2.2.1 rfl _ rfl
    refine ⟨rfl, ?_⟩
    obtain ⟨t, ht, hz⟩ := d45
    have f45 := (ev_form av 45).symm.trans ht
    exact wp_of_run (v := .agg #[.string v0, .string b, .string t]) (by simp [go_sem, f41, f42, f45]) ⟨_, rfl, es_of_ext (Ext_refl _), t, rfl, hz⟩
  case s10 =>
    refine step_wp (fun av wv hE hS hO hD => ?_)
    refine ⟨rfl, ?_⟩
    exact wp_of_run (v := .pointer (some ⟨wv.heap.size, 0, none⟩)) (w' := wv.alloc (.cells #[.string ⟨#[]⟩, .string ⟨#[]⟩, .string ⟨#[]⟩] 57)) (by simp [go_sem]) ⟨_, rfl, es_of_ext (balloc (Ext_refl _) _), wv.heap.size, rfl, (by have := hE.size; simpa using this), heap_alloc_new _ _⟩
  intro a' w' hE hO hall
  have hA := act_of_outer (ds := [37, 38, 39, 40, 41, 42, 43, 44, 45, 46, 11]) rfl hO (by kernel_rfl)
  have e37 : (fun u _ => u = (.string s)) (a'.eval (.tmp 37)) w' := hall.1 _ rfl
  have e38 : (fun u _ => u = (.string s)) (a'.eval (.tmp 38)) w' := hall.2.1 _ rfl
  have e39 : (fun u _ => u = (.int .i64 s.size)) (a'.eval (.tmp 39)) w' := hall.2.2.1 _ rfl
  have e40 : (fun u _ => u = (.int .i64 k)) (a'.eval (.tmp 40)) w' := hall.2.2.2.1 _ rfl
  have e41 : (fun u _ => u = (.string v0)) (a'.eval (.tmp 41)) w' := hall.2.2.2.2.1 _ rfl
  have e42 : (fun u _ => u = (.string b)) (a'.eval (.tmp 42)) w' := hall.2.2.2.2.2.1 _ rfl
  have e43 : (fun u _ => u = (.string b)) (a'.eval (.tmp 43)) w' := hall.2.2.2.2.2.2.1 _ rfl
  have e44 : (fun u _ => u = (.agg #[.int .u16 ta, .int .u8 ty, .int .i64 ts])) (a'.eval (.tmp 44)) w' := hall.2.2.2.2.2.2.2.1 _ rfl
  have e45 : (fun u _ => ∃ t : ByteArray, u = .string t ∧ t.size ≤ 28000) (a'.eval (.tmp 45)) w' := hall.2.2.2.2.2.2.2.2.1 _ rfl
  have e46 : (fun u _ => ∃ t : ByteArray, u = .agg #[.string v0, .string b, .string t] ∧ t.size ≤ 28000) (a'.eval (.tmp 46)) w' := hall.2.2.2.2.2.2.2.2.2.1 _ rfl
  have e11 : (fun u w' => ∃ c, u = .pointer (some ⟨c, 0, none⟩) ∧ W.heap.size ≤ c ∧ w'.heap[c]? = some (.cells #[.string ⟨#[]⟩, .string ⟨#[]⟩, .string ⟨#[]⟩] 57 (0, 0))) (a'.eval (.tmp 11)) w' := hall.2.2.2.2.2.2.2.2.2.2.1 _ rfl
  obtain ⟨v45, hv45⟩ : ∃ v, a'.eval (.tmp 45) = v := ⟨_, rfl⟩
  rw [hv45] at e45
  obtain ⟨v46, hv46⟩ : ∃ v, a'.eval (.tmp 46) = v := ⟨_, rfl⟩
  rw [hv46] at e46
  obtain ⟨v11, hv11⟩ : ∃ v, a'.eval (.tmp 11) = v := ⟨_, rfl⟩
  rw [hv11] at e11
  simp only [List.foldl_cons, List.foldl_nil, Act.put, List.setIfInBounds_toArray, List.set_cons_succ, List.set_cons_zero, e37, e38, e39, e40, e41, e42, e43, e44, hv45, hv46, hv11] at hA
  clear hO hall e37 e38 e39 e40 e41 e42 e43 e44 hv45 hv46 hv11
  subst hA
  clear y0 y1 y2 mn sl hv0 e45
  obtain ⟨cb, rfl, hcW, hcb⟩ := e11
  obtain ⟨t, rfl, htz⟩ := e46
  have HC := Lib.hid hcb
  have HTZ := Lib.hid htz
  have HCW := Lib.hid hcW
  have HX := Lib.hid (of_drew hE)
  clear hcb htz hE HTN hcW
  have q0 : w'.frozen? ⟨cb, 0, none⟩ = false := block_free HC.out 0
  have q1 : w'.frozen? ⟨cb, 1, none⟩ = false := block_free HC.out 1
  have q2 : w'.frozen? ⟨cb, 2, none⟩ = false := block_free HC.out 2
  have r0 : w'.cell? ⟨cb, 0, none⟩ = some (.string ⟨#[]⟩) := block_cell HC.out 0
  have r1 : w'.cell? ⟨cb, 1, none⟩ = some (.string ⟨#[]⟩) := block_cell HC.out 1
  have r2 : w'.cell? ⟨cb, 2, none⟩ = some (.string ⟨#[]⟩) := block_cell HC.out 2
  go_upto_region 8 with fail
  obtain ⟨W2, hW2⟩ : ∃ W2, ((w'.setCell ⟨cb, 0, none⟩ (.string v0)).setCell ⟨cb, 1, none⟩ (.string b)).setCell ⟨cb, 2, none⟩ (.string t) = W2 := ⟨_, rfl⟩
  rw [hW2]
  have HL : Hid (W2.heap[cb]? = some (.cells #[.string v0, .string b, .string t] 57 (0, 0))) := Lib.hid (by rw [← hW2]; exact block_setCell (block_setCell (block_setCell HC.out _) _) _)
  have hE2 : Below W.heap.size W W2 := by rw [← hW2]; exact bset (bset (bset HX.out HCW.out _) HCW.out _) HCW.out _
  have HE := Lib.hid (HE.out.below hE2)
  have HB := Lib.hid (bnext HB.out hE2)
  clear hW2 hE2 q0 q1 q2 r0 r1 r2 HX HT HC HCW
  have HZ : Hid (∀ m, (pick3 v0 b t m).size ≤ 28000) := Lib.hid (fun m => pick3_size (Nat.le_trans HV0.out (by decide)) HBZ.out HTZ.out m)
  go_loopg [12] 3 (fun g i wr => ∃ m : Nat, g + m = 3 ∧ i = .int .i64 m ∧ Hid (Below W2.heap.size W2 wr))
  case atStart => exact ⟨0, rfl, rfl, Below.refl _ _⟩
  case round =>
    obtain ⟨m, hg, rfl, HW⟩ := hrel
    by_cases hlt : m < 3
    · have c0 : wr.cell? ⟨cb, m, none⟩ = some (.string (pick3 v0 b t m)) := (block_cell ((HW.out.block cb (lt_of_block HL.out)).trans HL.out) m).trans (pick3_at v0 b t m hlt)
      have i1 : decide (m < 3) = true := by simp; exact hlt
      have i2 : (m : Int) < 3 := by omega
      have hv := HZ.out m
      have HEr := Lib.hid (HE.out.below HW.out)
      have HL2 := Lib.hid (fun w' (h : Below wr.heap.size wr w') => (block_cell ((h.block cb (Nat.lt_of_lt_of_le (lt_of_block HL.out) HW.out.size)).trans ((HW.out.block cb (lt_of_block HL.out)).trans HL.out)) m).trans (pick3_at v0 b t m hlt))
      generalize pick3 v0 b t m = v at c0 hv HL2
      have HV := Lib.hid hv
      clear hv
      have HLN := Lib.hid (slot_lens v)
      go_wp2_with fail
      refine (rqSlot_any B v wr HEr.out (Nat.le_trans HV.out (by decide))).mono ?_
      rintro e w8 ⟨ev, a3, z3, a4, z4, rfl, hev, htl, hs3, hs4, hb⟩
      have T3 := Lib.hid hs3
      have T4 := Lib.hid hs4
      have HTL := Lib.hid htl
      have HB8 := Lib.hid hb
      have HRR := Lib.hid (fun w' => rrqSlot_any v w' (Nat.lt_of_le_of_lt HV.out (by decide)))
      clear hs3 hs4 htl hb hev c0
      generalize readR v (slotGs v 0) slot0 = r at HTL T3 T4 HRR HLN ⊢
      generalize recV r slot0 = y at T3 T4 HRR HLN ⊢
      unfold cellsSlot at HRR ⊢
      generalize (y 0).n = y0 at HRR ⊢
      generalize (y 1).q = y1 at HRR ⊢
      generalize (y 2).n = y2 at HRR ⊢
      generalize (y 3).l = y3 at T3 HRR HLN ⊢
      generalize (y 4).l = y4 at T4 HRR HLN ⊢
      go_upto_region 11 with fail
      obtain ⟨yb, hyb⟩ : ∃ yb, w8.heap.size = yb := ⟨_, rfl⟩
      obtain ⟨Y, hY⟩ : ∃ Y, w8.alloc (.cells #[.int .u64 y0, .bool y1, .int .u64 y2, .slice a3 (len y3) z3, .slice a4 (len y4) z4] 44) = Y := ⟨_, rfl⟩
      have hb : Below w8.heap.size w8 Y := by rw [← hY]; exact balloc (Below.refl _ _) _
      have HY : Hid (Y.heap[yb]? = some (.cells #[.int .u64 y0, .bool y1, .int .u64 y2, .slice a3 (len y3) z3, .slice a4 (len y4) z4] 44 (0, 0))) := Lib.hid (by rw [← hY, ← hyb]; exact heap_alloc_new _ _)
      have HB8 := Lib.hid (bnext HB8.out hb)
      have HX8 := Lib.hid hb
      have T3 := Lib.hid (T3.out.low hb)
      have T4 := Lib.hid (T4.out.low hb)
      simp only [hY, hyb]
      clear hY hyb hb
      have c9 := HL2.out Y HB8.out
      go_wp2_with fail
      refine (HRR.out Y).mono ?_
      rintro e w9 ⟨p3, o3, p4, o4, rfl, hne, hs3, hs4, hb⟩
      have S3 := Lib.hid hs3
      have S4 := Lib.hid hs4
      have HNE := Lib.hid hne
      have HB8 := Lib.hid (bnext HB8.out hb)
      have HX8 := Lib.hid (bnext HX8.out hb)
      have T3 := Lib.hid (T3.out.low hb)
      have T4 := Lib.hid (T4.out.low hb)
      have HY := Lib.hid ((hb.block _ (lt_of_block HY.out)).trans HY.out)
      clear hs3 hs4 hne hb c9
      obtain ⟨f, hf⟩ : ∃ f, fltV r = f := ⟨_, rfl⟩
      rw [hf]
      have HTL : Hid (∀ w', Below w8.heap.size w8 w' → TE7 B w' → Calls Tryz.prog 31 #[ev, .agg #[.int .i64 f.1, .int .i64 f.2]] w' fun e w'' => e = .returned (.bool true) ∧ Below w'.heap.size w' w'') := Lib.hid (by have := HTL.out HNE.out; rw [hf] at this; exact this)
      clear hf
      go_upto_region 12 with fail
      obtain ⟨zb, hzb⟩ : ∃ zb, w9.heap.size = zb := ⟨_, rfl⟩
      obtain ⟨fb, hfb⟩ : ∃ fb, zb + 1 = fb := ⟨_, rfl⟩
      obtain ⟨Z, hZ⟩ : ∃ Z, (w9.alloc (.cells #[.int .u64 y0, .bool y1, .int .u64 y2, .slice p3 (len y3) o3, .slice p4 (len y4) o4] 44)).alloc (.cells #[.int .i64 f.1, .int .i64 f.2] 63) = Z := ⟨_, rfl⟩
      have hb : Below w9.heap.size w9 Z := by rw [← hZ]; exact balloc (balloc (Below.refl _ _) _) _
      have HZB : Hid (Z.heap[zb]? = some (.cells #[.int .u64 y0, .bool y1, .int .u64 y2, .slice p3 (len y3) o3, .slice p4 (len y4) o4] 44 (0, 0))) := Lib.hid (by rw [← hZ, ← hzb]; exact block_alloc (heap_alloc_new _ _) _)
      have HFB : Hid (Z.heap[fb]? = some (.cells #[.int .i64 f.1, .int .i64 f.2] 63 (0, 0))) := Lib.hid (by rw [← hZ, ← hfb, ← hzb]; exact alloc_new_at _ (by simp))
      have HB8 := Lib.hid (bnext HB8.out hb)
      have HX8 := Lib.hid (bnext HX8.out hb)
      have T3 := Lib.hid (T3.out.low hb)
      have T4 := Lib.hid (T4.out.low hb)
      have S3 := Lib.hid (S3.out.low hb)
      have S4 := Lib.hid (S4.out.low hb)
      have HY := Lib.hid ((hb.block _ (lt_of_block HY.out)).trans HY.out)
      simp only [hZ, hzb, hfb]
      clear hZ hzb hfb hb
      have cY : ∀ o, Z.cell? ⟨yb, o, none⟩ = _ := block_cell HY.out
      have cZ : ∀ o, Z.cell? ⟨zb, o, none⟩ = _ := block_cell HZB.out
      go_wp2_with fail
      refine (rsameSlot_yes y0 y1 y2 a3 a4 p3 p4 z3 z4 o3 o4 y3 y4 Z T3.out T4.out S3.out S4.out HLN.out.1 HLN.out.2).mono ?_
      rintro e x1 ⟨rfl, hb⟩
      have HB8 := Lib.hid (bnext HB8.out hb)
      have HX8 := Lib.hid (bnext HX8.out hb)
      have HFB := Lib.hid ((hb.block _ (lt_of_block HFB.out)).trans HFB.out)
      clear hb cY cZ
      have cF : ∀ o, x1.cell? ⟨fb, o, none⟩ = _ := block_cell HFB.out
      go_wp2_with fail
      refine (HTL.out x1 HX8.out (HEr.out.below HB8.out)).mono ?_
      rintro e x2 ⟨rfl, hb⟩
      have HBN := Lib.hid (bnext HW.out (bnext HB8.out hb))
      clear hb cF
      go_wp2
      go_roundg (2 - m)
      case rel => exact ⟨m + 1, by omega, by go_num, HBN⟩
      case measure => omega
    · obtain rfl : m = 3 := by omega
      go_wp2_with fail
      refine (works7_any B wr (HE.out.below HW.out)).mono ?_
      rintro e w9 ⟨rfl, hb⟩
      have HB := Lib.hid (bnext HB.out (bnext HW.out hb))
      clear hb
      go_wp2
      go_ret
      exact ⟨rfl, HB.out⟩
end Go.Proofs.YtihiaopilnjonaaGreatDoor
