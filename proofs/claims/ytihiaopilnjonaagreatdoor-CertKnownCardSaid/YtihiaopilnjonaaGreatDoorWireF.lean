/- Package wire: lists of digests as fields. -/
import Derived.Test.YtihiaopilnjonaaGreatDoorWireE
import Derived.Test.YtihiaopilnjonaaGreatDoorTxs
import Derived.Deep.QuietTactic
import Derived.BigQuiet
import Derived.StillTailTactics
namespace Go.Proofs.YtihiaopilnjonaaGreatDoor
open Go.RowKit
set_option linter.unusedSimpArgs false
set_option linter.unusedVariables false

/-- A slice that reads as these texts. -/
def Strs (B : Nat) (w : World) (a : Option Addr) (l : List ByteArray) : Prop := ∀ i, i < len l → ∃ b off, a = some ⟨b, off, none⟩ ∧ CellAt B w b (off + i) (.string (sth l i))
theorem Strs.keep {B : Nat} {w w' : World} {a : Option Addr} {l : List ByteArray} (h : Strs B w a l) (hk : Keep8 B w w') : Strs B w' a l := fun i hi => by
  obtain ⟨b, off, e, hc⟩ := h i hi; exact ⟨b, off, e, hc.keep hk⟩
theorem Strs.below {B : Nat} {w w' : World} {a : Option Addr} {l : List ByteArray} (h : Strs B w a l) (hk : Below w.heap.size w w') : Strs B w' a l := fun i hi => by
  obtain ⟨b, off, e, hc⟩ := h i hi; exact ⟨b, off, e, hc.below hk⟩

def SaysS (w : World) (l : List ByteArray) (g : Nat) (lb : Array Value) (p : Nat → Bool) : Prop :=
  (∀ args w', (callFunc g args).run Tryz.prog w' = .ok (.enter g args) w') ∧ ∀ i, i < len l → ∀ w', Below w.heap.size w w' → Calls Tryz.prog g (#[.string (sth l i)] ++ lb) w' fun e w'' => e = .returned (.bool (p i)) ∧ Below w'.heap.size w' w''
set_option maxRecDepth 100000 in
set_option maxHeartbeats 4000000 in
theorem idxs_any (B : Nat) (a : Option Addr) (c : Nat) (l : List ByteArray) (g : Nat) (lb : Array Value) (p : Nat → Bool) (w : World) (hl : Strs B w a l) (hn : len l ≤ 100000) (hp : SaysS w l g lb p) :
    Calls Tryz.prog 260 #[.slice a (len l) c, .func (.func g) #[] lb] w (IdxOut (len l) p w) := by
  have HL := Lib.hid hl
  have HP := Lib.hid hp.2
  have eg := hp.1
  clear hl hp
  go_enter Tryz.func260, Tryz.ntmps260
  go_wp2
  go_loopg [8] (len l) (fun g i wr => ∃ m : Nat, g + m = len l ∧ i = .int .i64 m ∧ Hid (∀ i, i < m → p i = false) ∧ Hid (Below w.heap.size w wr))
  case atStart => exact ⟨0, rfl, rfl, fun i hi => by omega, Below.refl _ _⟩
  case round =>
    obtain ⟨m, hm, rfl, HN, HB⟩ := hrel
    by_cases hlt : m < len l
    · obtain ⟨b, off, rfl, hc⟩ := (HL.out.below HB.out) m hlt
      have c0 := hc.cell
      have i1 : (m : Int) < len l := by omega
      have HC := Lib.hid (HP.out m hlt wr HB.out)
      clear hc
      generalize sth l m = v at c0 HC
      go_wp2_with fail
      refine HC.out.mono ?_
      rintro e w1 ⟨rfl, hb⟩
      have HB1 : Hid (Below w.heap.size w w1) := Lib.hid (bnext HB.out hb)
      clear hb c0
      cases hpm : p m with
      | true =>
        go_wp2
        go_ret
        exact ⟨m, rfl, .inr ⟨m, hlt, rfl, hpm, HN.out⟩, HB1.out⟩
      | false =>
        have HN2 : Hid (∀ i, i < m + 1 → p i = false) := Lib.hid (fun i hi => by
          by_cases e : i = m
          · subst e; exact hpm
          · exact HN.out i (by omega))
        clear hpm
        go_wp2
        go_roundg (len l - (m + 1))
        case rel => exact ⟨m + 1, by omega, by go_num, HN2.out, HB1.out⟩
        case measure => omega
    · obtain rfl : m = len l := by omega
      have i1 : ¬ ((len l : Nat) : Int) < len l := by omega
      go_wp2
      go_ret
      exact ⟨-1, rfl, .inl ⟨rfl, HN.out⟩, HB.out⟩
theorem containss_any (B : Nat) (a : Option Addr) (c : Nat) (l : List ByteArray) (g : Nat) (lb : Array Value) (p : Nat → Bool) (w : World) (hl : Strs B w a l) (hn : len l ≤ 100000) (hp : SaysS w l g lb p) :
    Calls Tryz.prog 249 #[.slice a (len l) c, .func (.func g) #[] lb] w fun e w' => ∃ b, e = .returned (.bool b) ∧ (b = true ↔ ∃ i, i < len l ∧ p i = true) ∧ Below w.heap.size w w' := by
  have H := Lib.hid (idxs_any B a c l g lb p w hl hn hp)
  clear hl hp
  go_enter Tryz.func249, Tryz.ntmps249
  go_wp2_with fail
  refine H.out.mono ?_
  rintro e w1 ⟨r, rfl, hr, hb⟩
  have HB := Lib.hid hb
  clear hb
  rcases hr with ⟨rfl, hall⟩ | ⟨k, hk, rfl, hpk, -⟩
  · have HA := Lib.hid hall
    clear hall
    go_wp2
    go_ret
    exact ⟨false, rfl, ⟨fun h => (by cases h), fun ⟨i, hi, h⟩ => by rw [HA.out i hi] at h; cases h⟩, HB.out⟩
  · have HK := Lib.hid hpk
    clear hpk
    go_wp2
    go_ret
    exact ⟨true, rfl, ⟨fun _ => ⟨k, hk, HK.out⟩, fun _ => rfl⟩, HB.out⟩

theorem dgs1_any (B pb po : Nat) (x : ByteArray) (w : World) (h : CellAt B w pb po (.string x)) : Calls Tryz.prog 211 #[.pointer (some ⟨pb, po, none⟩)] w fun e w' => e = .returned (.bool (decide (x.size = 32))) ∧ Below w.heap.size w w' := by
  have c1 := h.cell
  have HE : Hid (((x.size : Int) == 32) = decide (x.size = 32)) := Lib.hid (by rw [Bool.eq_iff_iff]; simp; omega)
  clear h
  go_enter Tryz.func211, Tryz.ntmps211
  go_wp2
  go_ret
  exact ⟨ret_bool HE.out, Below.refl _ _⟩
theorem dgs2_any (B b base pb po : Nat) (x s : ByteArray) (w : World) (h : CellAt B w pb po (.string x)) (hx : x.size = 32) (ht : PTab B w) (hB : B ≤ base) (hW : WrB w b base s) (hs : s.size + (binP x).size ≤ 60000000000000) :
    Calls Tryz.prog 212 #[.pointer (some ⟨b, 0, none⟩), .pointer (some ⟨pb, po, none⟩)] w fun e w' => e = .returned (.tuple #[]) ∧ WrB w' b base (s ++ binP x) ∧ WK base b w w' := by
  have c1 := h.cell
  have H := Lib.hid (Bin_w B b base x s w ht hB hW (by omega) (by omega))
  clear h ht hW hx
  go_enter Tryz.func212, Tryz.ntmps212
  go_wp2_with fail
  refine H.out.mono ?_
  rintro e w' ⟨rfl, h3, h4⟩
  have H3 := Lib.hid h3
  have H4 := Lib.hid h4
  clear h3 h4
  go_wp2
  go_end0
  exact ⟨rfl, H3.out, H4.out⟩
theorem many1_any (B b7 pb po n c : Nat) (a : Option Addr) (w : World) (h1 : CellAt B w b7 0 (.pointer (some ⟨pb, po, none⟩))) (h2 : CellAt B w pb po (.slice a n c)) : Calls Tryz.prog 247 #[.pointer (some ⟨b7, 0, none⟩)] w fun e w' => e = .returned (.bool (decide (n = 0))) ∧ Below w.heap.size w w' := by
  have c1 := h1.cell
  have c2 := h2.cell
  have HE : Hid (((n : Int) == 0) = decide (n = 0)) := Lib.hid (by rw [Bool.eq_iff_iff]; simp)
  clear h1 h2
  go_enter Tryz.func247, Tryz.ntmps247
  go_wp2
  go_ret
  exact ⟨ret_bool HE.out, Below.refl _ _⟩
set_option maxRecDepth 100000 in
theorem many21_any (B b9 : Nat) (x : ByteArray) (w : World) (h1 : CellAt B w b9 0 (.func (.func 211) #[] #[])) : Calls Tryz.prog 250 #[.string x, .pointer (some ⟨b9, 0, none⟩)] w fun e w' => e = .returned (.bool (!decide (x.size = 32))) ∧ Below w.heap.size w w' := by
  have c1 := h1.cell
  have l1 := h1.lt
  have eg := enters_of Tryz.func211 (by kernel_rfl) rfl
  clear h1
  go_enter Tryz.func250, Tryz.ntmps250
  go_wp2_with fail
  refine (dgs1_any B w.heap.size 0 x _ ⟨block_cell (heap_alloc_new _ _) 0, .inr ⟨_, heap_alloc_new _ _, not8_cells (by decide)⟩⟩).mono ?_
  rintro e w1 ⟨rfl, hb⟩
  have HB : Hid (Below w.heap.size w w1) := Lib.hid (bnext (balloc (Below.refl _ _) _) hb)
  clear hb
  go_wp2
  go_ret
  exact ⟨rfl, HB.out⟩
def mayB (l : List ByteArray) (most : Nat) : Bool := decide (len l ≤ most) && l.all fun x => decide (x.size = 32)
theorem all32_iff (l : List ByteArray) : ((l.all fun x => decide (x.size = 32)) = false ↔ ∃ i, i < len l ∧ (!decide ((sth l i).size = 32)) = true) := by
  rw [List.all_eq_false]
  constructor
  · rintro ⟨x, hx, hm⟩
    obtain ⟨i, hi, rfl⟩ := List.getElem_of_mem hx
    exact ⟨i, hi, by rw [sth_eq l i hi]; simpa using hm⟩
  · rintro ⟨i, hi, hm⟩
    have hi' : i < l.length := hi
    exact ⟨l[i], List.getElem_mem _, by rw [sth_eq l i hi'] at hm; simpa using hm⟩
set_option maxRecDepth 100000 in
set_option maxHeartbeats 4000000 in
theorem many2_any (B b7 b8 b9 pb po c most : Nat) (a : Option Addr) (l : List ByteArray) (w : World) (h1 : CellAt B w b7 0 (.pointer (some ⟨pb, po, none⟩))) (h2 : CellAt B w pb po (.slice a (len l) c)) (h3 : CellAt B w b8 0 (.int .i64 most)) (h4 : CellAt B w b9 0 (.func (.func 211) #[] #[]))
    (hl : Strs B w a l) (hn : len l ≤ 100000) : Calls Tryz.prog 248 #[.pointer (some ⟨b7, 0, none⟩), .pointer (some ⟨b8, 0, none⟩), .pointer (some ⟨b9, 0, none⟩)] w fun e w' => e = .returned (.bool (mayB l most)) ∧ Below w.heap.size w w' := by
  have c1 := h1.cell
  have c2 := h2.cell
  have c3 := h3.cell
  have H4 := Lib.hid h4
  have HL := Lib.hid hl
  have eg := enters_of Tryz.func250 (by kernel_rfl) rfl
  clear h1 h2 h3 h4 hl
  have HCF : Hid (∀ w', Below w.heap.size w w' → Calls Tryz.prog 249 #[.slice a (len l) c, .func (.func 250) #[] #[.pointer (some ⟨b9, 0, none⟩)]] w' fun e w'' => ∃ b, e = .returned (.bool b) ∧ (b = true ↔ ∃ i, i < len l ∧ (!decide ((sth l i).size = 32)) = true) ∧ Below w'.heap.size w' w'') :=
    Lib.hid (fun w' hb => containss_any B a c l _ _ (fun i => !decide ((sth l i).size = 32)) w' (HL.out.below hb) hn ⟨eg, fun i hi w'' hb2 => many21_any B b9 (sth l i) w'' ((H4.out.below hb).below hb2)⟩)
  by_cases hm : len l ≤ most
  · have i1 : decide (len l ≤ most) = true := decide_eq_true hm
    have i2 : (len l : Int) ≤ most := by omega
    have HM := Lib.hid i1
    clear i1 hm
    go_enter Tryz.func248, Tryz.ntmps248
    go_wp2_with fail
    go_still_tail 11, (by kernel_rfl)
    go_wp2_with fail
    refine (HCF.out _ (bdrew (Below.refl _ _))).mono ?_
    rintro e w1 ⟨q, rfl, hq, hb⟩
    have HB : Hid (Below w.heap.size w w1) := Lib.hid (bnext (bdrew (Below.refl _ _)) hb)
    have HE : Hid ((!q) = mayB l most) := Lib.hid (by
      unfold mayB
      rw [HM.out, Bool.true_and]
      have h := all32_iff l
      cases q with
      | true => rw [h.2 (hq.1 rfl)]; rfl
      | false =>
        cases hm : (l.all fun x => decide (x.size = 32)) with
        | true => rfl
        | false => exact absurd (hq.2 (h.1 hm)) (by decide))
    clear hb hq c1 c2 c3
    go_wp2
    go_ret
    exact ⟨ret_bool HE.out, HB.out⟩
  · have i1 : decide (len l ≤ most) = false := decide_eq_false hm
    have HM := Lib.hid i1
    have i2 : ¬ (len l : Int) ≤ most := by omega
    go_enter Tryz.func248, Tryz.ntmps248
    go_wp2_with fail
    go_quiet (fail)
    go_wp2
    go_ret
    exact ⟨ret_bool (by unfold mayB; rw [HM.out]; rfl), by (repeat (first | exact Below.refl _ _ | assumption | (refine bdrew ?_) | (refine bdrewN ?_ _) | (refine balloc ?_ _) | (refine bset ?_ (by first | omega | (simp; done) | (simp; omega)) _) | (refine bnext ?_ (by assumption))))⟩

def dgsP (l : List ByteArray) : ByteArray := listP (len l) ++ catB (l.map binP)
theorem size32 {l : List ByteArray} {most : Nat} (h : mayB l most = true) : len l ≤ most ∧ ∀ i, i < len l → (sth l i).size = 32 := by
  unfold mayB at h
  rw [Bool.and_eq_true] at h
  refine ⟨of_decide_eq_true h.1, fun i hi => ?_⟩
  have h2 := h.2
  rw [List.all_eq_true] at h2
  have hi' : i < l.length := hi
  rw [sth_eq l i hi']
  exact of_decide_eq_true (h2 _ (List.getElem_mem _))
set_option maxRecDepth 100000 in
set_option maxHeartbeats 4000000 in
theorem many3_any (B b base b7 b10 pb po c : Nat) (a : Option Addr) (l : List ByteArray) (s : ByteArray) (W0 w : World) (h1 : CellAt B W0 b7 0 (.pointer (some ⟨pb, po, none⟩))) (h2 : CellAt B W0 pb po (.slice a (len l) c)) (h3 : CellAt B W0 b10 0 (.func (.func 212) #[] #[]))
    (hl : Strs B W0 a l) (hn : len l ≤ 60000) (h32 : ∀ i, i < len l → (sth l i).size = 32) (hk : Keep8 B W0 w) (hb0 : W0.heap.size ≤ b)
    (ht : PTab B w) (hB : B ≤ base) (hW : WrB w b base s) (hs : s.size + (dgsP l).size ≤ 60000000000000) :
    Calls Tryz.prog 251 #[.pointer (some ⟨b, 0, none⟩), .pointer (some ⟨b7, 0, none⟩), .pointer (some ⟨b10, 0, none⟩)] w fun e w' => e = .returned (.tuple #[]) ∧ WrB w' b base (s ++ dgsP l) ∧ WK base b w w' := by
  have H1 := Lib.hid h1
  have H2 := Lib.hid h2
  have H3 := Lib.hid h3
  have HL := Lib.hid hl
  have H32 := Lib.hid h32
  have HK := Lib.hid hk
  have HT := Lib.hid ht
  have HWR := Lib.hid hW
  have HBS : Hid (base ≤ w.heap.size) := Lib.hid (by have := hW.1; have := hW.lt; omega)
  have HS : Hid (s.size + (listP (len l)).size + (catB (l.map binP)).size ≤ 60000000000000) := Lib.hid (by unfold dgsP at hs; rw [ByteArray.size_append] at hs; omega)
  have hs0 : s.size ≤ 60000000000000 := by omega
  have c1 := (h1.keep hk).cell
  have c2 := (h2.keep hk).cell
  have eg := enters_of Tryz.func212 (by kernel_rfl) rfl
  clear h1 h2 h3 hl h32 hk ht hW hs
  go_enter Tryz.func251, Tryz.ntmps251
  go_wp2_with fail
  refine (List_w B b base (len l) s w HT.out hB HWR.out (by omega) (by omega)).mono ?_
  rintro e w3 ⟨rfl, hw3, hk3⟩
  have HW3 : Hid (WrB w3 b base (s ++ listP (len l) ++ catB ((l.map binP).take 0))) := Lib.hid (by
    have e : s ++ listP (len l) ++ catB ((l.map binP).take 0) = s ++ listP (len l) := ba_ext (by simp [catB])
    rw [e]; exact hw3)
  have HK3 : Hid (WK base b w w3) := Lib.hid hk3
  have hk8 := HK.out.wk hk3 hb0 hB
  have d1 := (H1.out.keep hk8).cell
  have d2 := (H2.out.keep hk8).cell
  clear hw3 hk3 hk8 c1 c2
  go_wp2
  clear d1 d2
  go_loopg [15] (len l) (fun gg i wr => ∃ m : Nat, gg + m = len l ∧ i = .int .i64 m ∧ Hid (WrB wr b base (s ++ listP (len l) ++ catB ((l.map binP).take m))) ∧ Hid (WK base b w wr))
  case atStart => exact ⟨0, rfl, rfl, HW3.out, HK3.out⟩
  case round =>
    clear HW3 HK3
    obtain ⟨m, hm2, rfl, HWW, HWK⟩ := hrel
    by_cases hlt : m < len l
    · have i1 : (m : Int) < len l := by omega
      have hml : m < l.length := hlt
      have hk8 := HK.out.wk HWK.out hb0 hB
      have HK8 := Lib.hid hk8
      have d1 := (H1.out.keep hk8).cell
      have d2 := (H2.out.keep hk8).cell
      have d3 := (H3.out.keep hk8).cell
      obtain ⟨gb, go, rfl, hcell⟩ := (HL.out.keep hk8) m hlt
      have HCL := Lib.hid hcell
      have hsn : (l.map binP).take (m + 1) = (l.map binP).take m ++ [binP (sth l m)] := by
        rw [List.take_succ_eq_append_getElem (by simpa using hml), List.getElem_map, sth_eq l m hml]
      have hct := catB_take (L := l.map binP) (t := m) (by simpa using hml)
      have hfm : (l.map binP)[m]'(by simpa using hml) = binP (sth l m) := by rw [List.getElem_map, sth_eq l m hml]
      rw [hfm] at hct
      have h32m := H32.out m hlt
      obtain ⟨x, hx⟩ : ∃ x, sth l m = x := ⟨_, rfl⟩
      rw [hx] at hsn hct h32m HCL
      obtain ⟨s1, hs1⟩ : ∃ s1, s ++ listP (len l) ++ catB ((l.map binP).take m) = s1 := ⟨_, rfl⟩
      rw [hs1] at HWW
      have hs1s : s1.size + (binP x).size ≤ 60000000000000 := by
        rw [← hs1, ByteArray.size_append, ByteArray.size_append]
        have := HS.out
        omega
      have HSN : Hid (s ++ listP (len l) ++ catB ((l.map binP).take (m + 1)) = s1 ++ binP x) := Lib.hid (by
        rw [hsn, catB_snoc, ← hs1]; simp only [ByteArray.append_assoc])
      have HTR : Hid (PTab B wr) := Lib.hid (HT.out.keep HWK.out.bel hB)
      have hbr : base ≤ wr.heap.size := by have := HWK.out.bel.size; have := HBS.out; omega
      have HBR := Lib.hid hbr
      clear hk8 hcell hsn hct hfm hx hs1 hbr
      go_upto_region 4 with fail
      go_still_tail 7, (by kernel_rfl)
      go_wp2_with fail
      refine (dgs2_any B b base gb (go + m) x s1 _ (HCL.out.below (bdrew (Below.refl _ _))) h32m (HTR.out.keep (bdrew (Below.refl _ _)) HTR.out.size) hB (HWW.out.below (bdrew (Below.refl _ _))) hs1s).mono ?_
      rintro e w5 ⟨rfl, hw5, hk5⟩
      have HW5 : Hid (WrB w5 b base (s ++ listP (len l) ++ catB ((l.map binP).take (m + 1)))) := Lib.hid (by rw [HSN.out]; exact hw5)
      have HK5 : Hid (WK base b w w5) := Lib.hid ((HWK.out.trans (WK.of_below (bdrew (Below.refl _ _)) HBR.out)).trans hk5)
      clear hw5 hk5 HWW HWK d1 d2 d3 HCL
      go_wp2
      go_roundg (len l - (m + 1))
      case rel => exact ⟨m + 1, by omega, by go_num, HW5.out, HK5.out⟩
      case measure => omega
    · obtain rfl : m = len l := by omega
      have i1 : ¬ ((len l : Nat) : Int) < len l := by omega
      go_wp2
      go_end0
      refine ⟨rfl, ?_, HWK.out⟩
      have h := HWW.out
      rw [List.take_of_length_le (by rw [List.length_map]; exact Nat.le_refl _), ByteArray.append_assoc] at h
      exact h
end Go.Proofs.YtihiaopilnjonaaGreatDoor
