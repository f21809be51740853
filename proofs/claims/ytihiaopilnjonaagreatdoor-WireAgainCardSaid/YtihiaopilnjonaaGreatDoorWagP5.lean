/- Parts of the proof, one behind the other. -/
import Derived.Test.YtihiaopilnjonaaGreatDoorWagP4
import Derived.Deep.QuietTactic
import Derived.BigQuiet
import Derived.StillTailTactics
import Derived.Laws.BytesArg
import Derived.WalkMore
import Derived.Laws.Strings
import Derived.Shelf.Strings.Builder1
import Derived.Shelf.Strings.Builder2
import Derived.Shelf.Strings.BuilderF
import Derived.Shelf.Strings.BuilderK
import Derived.Shelf.Strings.Builder2Cap
import Derived.Shelf.Strings.Prefix
import Derived.Shelf.Bits.Mul64
import Derived.Shelf.Strings.Repeat
import Derived.Shelf.Strings.BuilderCap
import Derived.Test.YtihiaopilnjonaaGreatDoorProg
import Derived.ProofKit
import Derived.OpenShut
import Derived.ShutString
import Derived.ChangeOld
import Derived.Deep.Slices
import Derived.Deep.Fields
import Derived.ChangeMaps5
import Derived.WideShapes
import Derived.LaidMore
import Derived.LaidHandle
import Derived.Stop.Joined
import Derived.ChangeVars
import Derived.JoinedOf
import Derived.RowKitTokens
namespace Go.Proofs.YtihiaopilnjonaaGreatDoor
open Go.RowKit
set_option linter.unusedSimpArgs false
set_option linter.unusedVariables false
theorem bsn {w : World} {b c o : Nat} {x : Obj} {v : Value} (h : w.heap[b]? = some x) (hp : b ≠ c) : (w.setCell ⟨c, o, none⟩ v).heap[b]? = some x := block_setCell_ne h hp v
set_option maxRecDepth 100000 in
theorem overPart_ok (m0 : ByteArray) (m1 : Int) (m2 : Int) (m3 : Int) (m4 : Int) (w : World) : Calls Tryz.prog 66 #[.agg #[.string m0, .int .u64 m1, .int .u64 m2, .int .u64 m3, .int .u64 m4], .nilIface] w fun e w' => e = .returned (.tuple #[.agg #[.string m0, .int .u64 m1, .int .u64 m2, .int .u64 m3, .int .u64 m4], .nilIface]) ∧ Below w.heap.size w w' := by
  go_enter Tryz.func66, Tryz.ntmps66
  go_wp2
  have hb := block_setCell (block_setCell (block_setCell (block_setCell (block_setCell (alloc_new_at (w := w.alloc (.cells #[.string m0, .int .u64 m1, .int .u64 m2, .int .u64 m3, .int .u64 m4] 46)) (.cells #[.string ⟨#[]⟩, .int .u64 0, .int .u64 0, .int .u64 0, .int .u64 0] 46) (alloc_size _ rfl)) (o := 0) (.string m0)) (o := 1) (.int .u64 m1)) (o := 2) (.int .u64 m2)) (o := 3) (.int .u64 m3)) (o := 4) (.int .u64 m4)
  have d : ∀ o, _ = _ := block_cell hb
  refine bodyPost_ret (v := .tuple #[.agg #[.string m0, .int .u64 m1, .int .u64 m2, .int .u64 m3, .int .u64 m4], .nilIface]) ?_ rfl ⟨rfl, by (repeat (first | exact Below.refl _ _ | assumption | (refine bdrew ?_) | (refine bdrewN ?_ _) | (refine balloc ?_ _) | (refine bset ?_ (by first | omega | (simp; done) | (simp; omega)) _) | (refine bnext ?_ (by assumption))))⟩
  simp [results, Tryz.results66, go_sem, d]
set_option maxRecDepth 100000 in
theorem overPart_no (m0 : ByteArray) (m1 : Int) (m2 : Int) (m3 : Int) (m4 : Int) (fb : Nat) (w : World) : Calls Tryz.prog 66 #[.agg #[.string m0, .int .u64 m1, .int .u64 m2, .int .u64 m3, .int .u64 m4], .iface 127 (.pointer (some ⟨fb, 0, none⟩))] w fun e w' => e = .returned (.tuple #[zeroPart, .iface 127 (.pointer (some ⟨fb, 0, none⟩))]) ∧ Below w.heap.size w w' := by
  go_enter Tryz.func66, Tryz.ntmps66
  go_wp2
  have hb := block_setCell (block_setCell (block_setCell (block_setCell (block_setCell (block_alloc (alloc_new_at (w := w.alloc (.cells #[.string m0, .int .u64 m1, .int .u64 m2, .int .u64 m3, .int .u64 m4] 46)) (.cells #[.string ⟨#[]⟩, .int .u64 0, .int .u64 0, .int .u64 0, .int .u64 0] 46) (alloc_size _ rfl)) (.cells #[.string ⟨#[]⟩, .int .u64 0, .int .u64 0, .int .u64 0, .int .u64 0] 46)) (o := 0) (.string ⟨#[]⟩)) (o := 1) (.int .u64 0)) (o := 2) (.int .u64 0)) (o := 3) (.int .u64 0)) (o := 4) (.int .u64 0)
  have d : ∀ o, _ = _ := block_cell hb
  refine bodyPost_ret (v := .tuple #[zeroPart, .iface 127 (.pointer (some ⟨fb, 0, none⟩))]) ?_ rfl ⟨rfl, by (repeat (first | exact Below.refl _ _ | assumption | (refine bdrew ?_) | (refine bdrewN ?_ _) | (refine balloc ?_ _) | (refine bset ?_ (by first | omega | (simp; done) | (simp; omega)) _) | (refine bnext ?_ (by assumption))))⟩
  simp [results, Tryz.results66, go_sem, d]
def RePart (s : ByteArray) (w : World) (e : Ending) (w' : World) : Prop :=
  Below w.heap.size w w' ∧ match readR s (partGs s 0) part0 with
    | .error f => ∃ fb, e = .returned (.tuple #[zeroPart, .iface 127 (.pointer (some ⟨fb, 0, none⟩))]) ∧ FltB w' fb f.1 f.2
    | .ok x => Kd part0 x ∧ (∃ rb tb, LiesPart rb tb w' x) ∧ e = .returned (.tuple #[.agg (cellsPart x), .nilIface])
set_option maxRecDepth 100000 in
set_option maxHeartbeats 2000000 in
theorem reaPart_any (B : Nat) (s : ByteArray) (w : World) (hT : Tabs B w) (hET : ErrType w) (hB : B ≤ w.heap.size) (hg : 0 < B) (hs : s.size ≤ 9223372036854775807) :
    Calls Tryz.prog 29 #[.string s] w (RePart s w) := by
  have H := Lib.hid (fun (w' : World) (hb : Below w.heap.size w w') => readPart_any B s w' (hT.below hb) (hET.below hb) (Nat.le_trans hB hb.size) hg hs)
  clear hT hET
  go_enter Tryz.func29, Tryz.ntmps29
  go_wp2_with fail
  refine (H.out _ (balloc (Below.refl _ _) _)).mono ?_
  rintro e w1 ⟨hb1, hh⟩
  have hblk := (hb1.block w.heap.size (by simp)).trans (heap_alloc_new w _)
  have HBK := Lib.hid hblk
  have HB := Lib.hid (bnext (balloc (Below.refl _ _) _) hb1)
  clear hb1 hblk
  cases hr : objR s (partGs s 0) part0 0 with
  | error f =>
    rw [hr] at hh
    obtain ⟨fb, rfl, hf⟩ := hh
    have HF := Lib.hid hf
    have HR : Hid (readR s (partGs s 0) part0 = .error f) := Lib.hid (by unfold readR; rw [hr])
    clear hf hr
    go_wp2_with fail
    refine (overPart_no _ _ _ _ _ fb w1).mono ?_
    rintro e w2 ⟨rfl, hb2⟩
    have hb := (hb2.block _ (lt_of_block HBK.out)).trans HBK.out
    have HB2 := Lib.hid (bnext HB.out hb2)
    have HF2 := Lib.hid (HF.out.below hb2)
    have HBK2 := Lib.hid hb
    have g0 : ∀ o, w2.cell? ⟨w.heap.size, o, none⟩ = _ := block_cell hb
    have g1 : ∀ o, w2.frozen? ⟨w.heap.size, o, none⟩ = false := block_free hb
    have g2 : w.heap.size < w2.heap.size := lt_of_block hb
    clear hb2 hb
    go_wp2
    have hb := block_setCell (block_setCell (block_setCell (block_setCell (block_setCell (HBK2.out) (o := 0) (.string ⟨#[]⟩)) (o := 1) (.int .u64 0)) (o := 2) (.int .u64 0)) (o := 3) (.int .u64 0)) (o := 4) (.int .u64 0)
    have d : ∀ o, _ = _ := block_cell hb
    have hne : fb ≠ w.heap.size := fun e => by subst e; have h9 := HBK2.out.symm.trans HF2.out; cases h9
    refine bodyPost_ret (v := .tuple #[zeroPart, .iface 127 (.pointer (some ⟨fb, 0, none⟩))]) ?_ rfl ⟨(bset (bset (bset (bset (bset HB2.out (Nat.le_refl _) _) (Nat.le_refl _) _) (Nat.le_refl _) _) (Nat.le_refl _) _) (Nat.le_refl _) _), ?_⟩
    · simp [results, Tryz.results29, go_sem, d]
    · rw [HR.out]
      exact ⟨fb, rfl, (bsn (bsn (bsn (bsn (bsn HF2.out hne) hne) hne) hne) hne)⟩
  | ok y =>
    rw [hr] at hh
    obtain ⟨hk, hle, ⟨rb, tb, hrb, hl⟩, hh⟩ := hh
    have HL := Lib.hid hl
    by_cases hlt : y.2 < s.size
    · rw [if_pos hlt] at hh
      obtain ⟨fb, rfl, hf⟩ := hh
      have HF := Lib.hid hf
      have HR : Hid (readR s (partGs s 0) part0 = .error (5, y.2)) := Lib.hid (by unfold readR; rw [hr]; exact if_pos hlt)
      clear hf hr hlt
      go_wp2_with fail
      refine (overPart_no _ _ _ _ _ fb w1).mono ?_
      rintro e w2 ⟨rfl, hb2⟩
      have hb := (hb2.block _ (lt_of_block HBK.out)).trans HBK.out
      have HB2 := Lib.hid (bnext HB.out hb2)
      have HF2 := Lib.hid (HF.out.below hb2)
      have HBK2 := Lib.hid hb
      have g0 : ∀ o, w2.cell? ⟨w.heap.size, o, none⟩ = _ := block_cell hb
      have g1 : ∀ o, w2.frozen? ⟨w.heap.size, o, none⟩ = false := block_free hb
      have g2 : w.heap.size < w2.heap.size := lt_of_block hb
      clear hb2 hb
      go_wp2
      have hb := block_setCell (block_setCell (block_setCell (block_setCell (block_setCell (HBK2.out) (o := 0) (.string ⟨#[]⟩)) (o := 1) (.int .u64 0)) (o := 2) (.int .u64 0)) (o := 3) (.int .u64 0)) (o := 4) (.int .u64 0)
      have d : ∀ o, _ = _ := block_cell hb
      have hne : fb ≠ w.heap.size := fun e => by subst e; have h9 := HBK2.out.symm.trans HF2.out; cases h9
      refine bodyPost_ret (v := .tuple #[zeroPart, .iface 127 (.pointer (some ⟨fb, 0, none⟩))]) ?_ rfl ⟨(bset (bset (bset (bset (bset HB2.out (Nat.le_refl _) _) (Nat.le_refl _) _) (Nat.le_refl _) _) (Nat.le_refl _) _) (Nat.le_refl _) _), ?_⟩
      · simp [results, Tryz.results29, go_sem, d]
      · rw [HR.out]
        exact ⟨fb, rfl, (bsn (bsn (bsn (bsn (bsn HF2.out hne) hne) hne) hne) hne)⟩
    · rw [if_neg hlt] at hh
      subst hh
      have HR : Hid (readR s (partGs s 0) part0 = .ok y.1) := Lib.hid (by unfold readR; rw [hr]; exact if_neg hlt)
      clear hr hlt
      go_wp2_with fail
      refine (overPart_ok _ _ _ _ _ w1).mono ?_
      rintro e w2 ⟨rfl, hb2⟩
      have hb := (hb2.block _ (lt_of_block HBK.out)).trans HBK.out
      have HB2 := Lib.hid (bnext HB.out hb2)
      have HL2 := Lib.hid (HL.out.below hb2)
      have HBK2 := Lib.hid hb
      have g0 : ∀ o, w2.cell? ⟨w.heap.size, o, none⟩ = _ := block_cell hb
      have g1 : ∀ o, w2.frozen? ⟨w.heap.size, o, none⟩ = false := block_free hb
      have g2 : w.heap.size < w2.heap.size := lt_of_block hb
      clear hb2 hb
      go_wp2
      have hb := block_setCell (block_setCell (block_setCell (block_setCell (block_setCell (HBK2.out) (o := 0) (.string (y.1 0).s)) (o := 1) (.int .u64 (y.1 1).n)) (o := 2) (.int .u64 (y.1 2).n)) (o := 3) (.int .u64 (y.1 3).n)) (o := 4) (.int .u64 (y.1 4).n)
      have d : ∀ o, _ = _ := block_cell hb
      refine bodyPost_ret (v := .tuple #[.agg (cellsPart y.1), .nilIface]) ?_ rfl ⟨(bset (bset (bset (bset (bset HB2.out (Nat.le_refl _) _) (Nat.le_refl _) _) (Nat.le_refl _) _) (Nat.le_refl _) _) (Nat.le_refl _) _), ?_⟩
      · simp [results, Tryz.results29, go_sem, d]
      · rw [HR.out]
        exact ⟨hk, ⟨rb, tb, HL2.out.up (fun b h1 h2 => by
          have h3 : b ≠ w.heap.size := by simp at hrb; omega
          repeat rw [Below.heap_setCell _ _ _ _ h3])⟩, rfl⟩
set_option maxRecDepth 100000 in
theorem overSlot_ok (m0 : Int) (m1 : Bool) (m2 : Int) (a3 : Option Addr) (n3 c3 : Nat) (a4 : Option Addr) (n4 c4 : Nat) (w : World) : Calls Tryz.prog 76 #[.agg #[.int .u64 m0, .bool m1, .int .u64 m2, .slice a3 n3 c3, .slice a4 n4 c4], .nilIface] w fun e w' => e = .returned (.tuple #[.agg #[.int .u64 m0, .bool m1, .int .u64 m2, .slice a3 n3 c3, .slice a4 n4 c4], .nilIface]) ∧ Below w.heap.size w w' := by
  go_enter Tryz.func76, Tryz.ntmps76
  go_wp2
  have hb := block_setCell (block_setCell (block_setCell (block_setCell (block_setCell (alloc_new_at (w := w.alloc (.cells #[.int .u64 m0, .bool m1, .int .u64 m2, .slice a3 n3 c3, .slice a4 n4 c4] 44)) (.cells #[.int .u64 0, .bool false, .int .u64 0, .slice none 0 0, .slice none 0 0] 44) (alloc_size _ rfl)) (o := 0) (.int .u64 m0)) (o := 1) (.bool m1)) (o := 2) (.int .u64 m2)) (o := 3) (.slice a3 n3 c3)) (o := 4) (.slice a4 n4 c4)
  have d : ∀ o, _ = _ := block_cell hb
  refine bodyPost_ret (v := .tuple #[.agg #[.int .u64 m0, .bool m1, .int .u64 m2, .slice a3 n3 c3, .slice a4 n4 c4], .nilIface]) ?_ rfl ⟨rfl, by (repeat (first | exact Below.refl _ _ | assumption | (refine bdrew ?_) | (refine bdrewN ?_ _) | (refine balloc ?_ _) | (refine bset ?_ (by first | omega | (simp; done) | (simp; omega)) _) | (refine bnext ?_ (by assumption))))⟩
  simp [results, Tryz.results76, go_sem, d]
set_option maxRecDepth 100000 in
theorem overSlot_no (m0 : Int) (m1 : Bool) (m2 : Int) (a3 : Option Addr) (n3 c3 : Nat) (a4 : Option Addr) (n4 c4 : Nat) (fb : Nat) (w : World) : Calls Tryz.prog 76 #[.agg #[.int .u64 m0, .bool m1, .int .u64 m2, .slice a3 n3 c3, .slice a4 n4 c4], .iface 127 (.pointer (some ⟨fb, 0, none⟩))] w fun e w' => e = .returned (.tuple #[zeroSlot, .iface 127 (.pointer (some ⟨fb, 0, none⟩))]) ∧ Below w.heap.size w w' := by
  go_enter Tryz.func76, Tryz.ntmps76
  go_wp2
  have hb := block_setCell (block_setCell (block_setCell (block_setCell (block_setCell (block_alloc (alloc_new_at (w := w.alloc (.cells #[.int .u64 m0, .bool m1, .int .u64 m2, .slice a3 n3 c3, .slice a4 n4 c4] 44)) (.cells #[.int .u64 0, .bool false, .int .u64 0, .slice none 0 0, .slice none 0 0] 44) (alloc_size _ rfl)) (.cells #[.int .u64 0, .bool false, .int .u64 0, .slice none 0 0, .slice none 0 0] 44)) (o := 0) (.int .u64 0)) (o := 1) (.bool false)) (o := 2) (.int .u64 0)) (o := 3) (.slice none 0 0)) (o := 4) (.slice none 0 0)
  have d : ∀ o, _ = _ := block_cell hb
  refine bodyPost_ret (v := .tuple #[zeroSlot, .iface 127 (.pointer (some ⟨fb, 0, none⟩))]) ?_ rfl ⟨rfl, by (repeat (first | exact Below.refl _ _ | assumption | (refine bdrew ?_) | (refine bdrewN ?_ _) | (refine balloc ?_ _) | (refine bset ?_ (by first | omega | (simp; done) | (simp; omega)) _) | (refine bnext ?_ (by assumption))))⟩
  simp [results, Tryz.results76, go_sem, d]
def ReSlot (s : ByteArray) (w : World) (e : Ending) (w' : World) : Prop :=
  Below w.heap.size w w' ∧ match readR s (slotGs s 0) slot0 with
    | .error f => ∃ fb, e = .returned (.tuple #[zeroSlot, .iface 127 (.pointer (some ⟨fb, 0, none⟩))]) ∧ FltB w' fb f.1 f.2
    | .ok x => Kd slot0 x ∧ ∃ (a3 : Option Addr) (c3 : Nat) (a4 : Option Addr) (c4 : Nat), (∃ rb tb, LiesSlot rb tb w' x a3 c3 a4 c4) ∧ e = .returned (.tuple #[.agg (cellsSlot x a3 c3 a4 c4), .nilIface])
set_option maxRecDepth 100000 in
set_option maxHeartbeats 2000000 in
theorem reaSlot_any (B : Nat) (s : ByteArray) (w : World) (hT : Tabs B w) (hET : ErrType w) (hB : B ≤ w.heap.size) (hg : 0 < B) (hs : s.size ≤ 9223372036854775807) :
    Calls Tryz.prog 35 #[.string s] w (ReSlot s w) := by
  have H := Lib.hid (fun (w' : World) (hb : Below w.heap.size w w') => readSlot_any B s w' (hT.below hb) (hET.below hb) (Nat.le_trans hB hb.size) hg hs)
  clear hT hET
  go_enter Tryz.func35, Tryz.ntmps35
  go_wp2_with fail
  refine (H.out _ (balloc (Below.refl _ _) _)).mono ?_
  rintro e w1 ⟨hb1, hh⟩
  have hblk := (hb1.block w.heap.size (by simp)).trans (heap_alloc_new w _)
  have HBK := Lib.hid hblk
  have HB := Lib.hid (bnext (balloc (Below.refl _ _) _) hb1)
  clear hb1 hblk
  cases hr : objR s (slotGs s 0) slot0 0 with
  | error f =>
    rw [hr] at hh
    obtain ⟨fb, rfl, hf⟩ := hh
    have HF := Lib.hid hf
    have HR : Hid (readR s (slotGs s 0) slot0 = .error f) := Lib.hid (by unfold readR; rw [hr])
    clear hf hr
    go_wp2_with fail
    refine (overSlot_no _ _ _ _ _ _ _ _ _ fb w1).mono ?_
    rintro e w2 ⟨rfl, hb2⟩
    have hb := (hb2.block _ (lt_of_block HBK.out)).trans HBK.out
    have HB2 := Lib.hid (bnext HB.out hb2)
    have HF2 := Lib.hid (HF.out.below hb2)
    have HBK2 := Lib.hid hb
    have g0 : ∀ o, w2.cell? ⟨w.heap.size, o, none⟩ = _ := block_cell hb
    have g1 : ∀ o, w2.frozen? ⟨w.heap.size, o, none⟩ = false := block_free hb
    have g2 : w.heap.size < w2.heap.size := lt_of_block hb
    clear hb2 hb
    go_wp2
    have hb := block_setCell (block_setCell (block_setCell (block_setCell (block_setCell (HBK2.out) (o := 0) (.int .u64 0)) (o := 1) (.bool false)) (o := 2) (.int .u64 0)) (o := 3) (.slice none 0 0)) (o := 4) (.slice none 0 0)
    have d : ∀ o, _ = _ := block_cell hb
    have hne : fb ≠ w.heap.size := fun e => by subst e; have h9 := HBK2.out.symm.trans HF2.out; cases h9
    refine bodyPost_ret (v := .tuple #[zeroSlot, .iface 127 (.pointer (some ⟨fb, 0, none⟩))]) ?_ rfl ⟨(bset (bset (bset (bset (bset HB2.out (Nat.le_refl _) _) (Nat.le_refl _) _) (Nat.le_refl _) _) (Nat.le_refl _) _) (Nat.le_refl _) _), ?_⟩
    · simp [results, Tryz.results35, go_sem, d]
    · rw [HR.out]
      exact ⟨fb, rfl, (bsn (bsn (bsn (bsn (bsn HF2.out hne) hne) hne) hne) hne)⟩
  | ok y =>
    rw [hr] at hh
    obtain ⟨hk, hle, a3, c3, a4, c4, ⟨rb, tb, hrb, hl⟩, hh⟩ := hh
    have HL := Lib.hid hl
    by_cases hlt : y.2 < s.size
    · rw [if_pos hlt] at hh
      obtain ⟨fb, rfl, hf⟩ := hh
      have HF := Lib.hid hf
      have HR : Hid (readR s (slotGs s 0) slot0 = .error (5, y.2)) := Lib.hid (by unfold readR; rw [hr]; exact if_pos hlt)
      clear hf hr hlt
      go_wp2_with fail
      refine (overSlot_no _ _ _ _ _ _ _ _ _ fb w1).mono ?_
      rintro e w2 ⟨rfl, hb2⟩
      have hb := (hb2.block _ (lt_of_block HBK.out)).trans HBK.out
      have HB2 := Lib.hid (bnext HB.out hb2)
      have HF2 := Lib.hid (HF.out.below hb2)
      have HBK2 := Lib.hid hb
      have g0 : ∀ o, w2.cell? ⟨w.heap.size, o, none⟩ = _ := block_cell hb
      have g1 : ∀ o, w2.frozen? ⟨w.heap.size, o, none⟩ = false := block_free hb
      have g2 : w.heap.size < w2.heap.size := lt_of_block hb
      clear hb2 hb
      go_wp2
      have hb := block_setCell (block_setCell (block_setCell (block_setCell (block_setCell (HBK2.out) (o := 0) (.int .u64 0)) (o := 1) (.bool false)) (o := 2) (.int .u64 0)) (o := 3) (.slice none 0 0)) (o := 4) (.slice none 0 0)
      have d : ∀ o, _ = _ := block_cell hb
      have hne : fb ≠ w.heap.size := fun e => by subst e; have h9 := HBK2.out.symm.trans HF2.out; cases h9
      refine bodyPost_ret (v := .tuple #[zeroSlot, .iface 127 (.pointer (some ⟨fb, 0, none⟩))]) ?_ rfl ⟨(bset (bset (bset (bset (bset HB2.out (Nat.le_refl _) _) (Nat.le_refl _) _) (Nat.le_refl _) _) (Nat.le_refl _) _) (Nat.le_refl _) _), ?_⟩
      · simp [results, Tryz.results35, go_sem, d]
      · rw [HR.out]
        exact ⟨fb, rfl, (bsn (bsn (bsn (bsn (bsn HF2.out hne) hne) hne) hne) hne)⟩
    · rw [if_neg hlt] at hh
      subst hh
      have HR : Hid (readR s (slotGs s 0) slot0 = .ok y.1) := Lib.hid (by unfold readR; rw [hr]; exact if_neg hlt)
      clear hr hlt
      go_wp2_with fail
      refine (overSlot_ok _ _ _ _ _ _ _ _ _ w1).mono ?_
      rintro e w2 ⟨rfl, hb2⟩
      have hb := (hb2.block _ (lt_of_block HBK.out)).trans HBK.out
      have HB2 := Lib.hid (bnext HB.out hb2)
      have HL2 := Lib.hid (HL.out.below hb2)
      have HBK2 := Lib.hid hb
      have g0 : ∀ o, w2.cell? ⟨w.heap.size, o, none⟩ = _ := block_cell hb
      have g1 : ∀ o, w2.frozen? ⟨w.heap.size, o, none⟩ = false := block_free hb
      have g2 : w.heap.size < w2.heap.size := lt_of_block hb
      clear hb2 hb
      go_wp2
      have hb := block_setCell (block_setCell (block_setCell (block_setCell (block_setCell (HBK2.out) (o := 0) (.int .u64 (y.1 0).n)) (o := 1) (.bool (y.1 1).q)) (o := 2) (.int .u64 (y.1 2).n)) (o := 3) (.slice a3 (len (y.1 3).l) c3)) (o := 4) (.slice a4 (len (y.1 4).l) c4)
      have d : ∀ o, _ = _ := block_cell hb
      refine bodyPost_ret (v := .tuple #[.agg (cellsSlot y.1 a3 c3 a4 c4), .nilIface]) ?_ rfl ⟨(bset (bset (bset (bset (bset HB2.out (Nat.le_refl _) _) (Nat.le_refl _) _) (Nat.le_refl _) _) (Nat.le_refl _) _) (Nat.le_refl _) _), ?_⟩
      · simp [results, Tryz.results35, go_sem, d]
      · rw [HR.out]
        exact ⟨hk, a3, c3, a4, c4, ⟨rb, tb, HL2.out.up (fun b h1 h2 => by
          have h3 : b ≠ w.heap.size := by simp at hrb; omega
          repeat rw [Below.heap_setCell _ _ _ _ h3])⟩, rfl⟩
set_option maxRecDepth 100000 in
theorem overMsg_ok (m0 : ByteArray) (m1 : ByteArray) (m2 : Int) (m3 : Int) (m4 : Int) (m5 : Int) (w : World) : Calls Tryz.prog 86 #[.agg #[.string m0, .string m1, .int .u64 m2, .int .u64 m3, .int .u64 m4, .int .u64 m5], .nilIface] w fun e w' => e = .returned (.tuple #[.agg #[.string m0, .string m1, .int .u64 m2, .int .u64 m3, .int .u64 m4, .int .u64 m5], .nilIface]) ∧ Below w.heap.size w w' := by
  go_enter Tryz.func86, Tryz.ntmps86
  go_wp2
  have hb := block_setCell (block_setCell (block_setCell (block_setCell (block_setCell (block_setCell (alloc_new_at (w := w.alloc (.cells #[.string m0, .string m1, .int .u64 m2, .int .u64 m3, .int .u64 m4, .int .u64 m5] 76)) (.cells #[.string ⟨#[]⟩, .string ⟨#[]⟩, .int .u64 0, .int .u64 0, .int .u64 0, .int .u64 0] 76) (alloc_size _ rfl)) (o := 0) (.string m0)) (o := 1) (.string m1)) (o := 2) (.int .u64 m2)) (o := 3) (.int .u64 m3)) (o := 4) (.int .u64 m4)) (o := 5) (.int .u64 m5)
  have d : ∀ o, _ = _ := block_cell hb
  refine bodyPost_ret (v := .tuple #[.agg #[.string m0, .string m1, .int .u64 m2, .int .u64 m3, .int .u64 m4, .int .u64 m5], .nilIface]) ?_ rfl ⟨rfl, by (repeat (first | exact Below.refl _ _ | assumption | (refine bdrew ?_) | (refine bdrewN ?_ _) | (refine balloc ?_ _) | (refine bset ?_ (by first | omega | (simp; done) | (simp; omega)) _) | (refine bnext ?_ (by assumption))))⟩
  simp [results, Tryz.results86, go_sem, d]
set_option maxRecDepth 100000 in
theorem overMsg_no (m0 : ByteArray) (m1 : ByteArray) (m2 : Int) (m3 : Int) (m4 : Int) (m5 : Int) (fb : Nat) (w : World) : Calls Tryz.prog 86 #[.agg #[.string m0, .string m1, .int .u64 m2, .int .u64 m3, .int .u64 m4, .int .u64 m5], .iface 127 (.pointer (some ⟨fb, 0, none⟩))] w fun e w' => e = .returned (.tuple #[zeroMsg, .iface 127 (.pointer (some ⟨fb, 0, none⟩))]) ∧ Below w.heap.size w w' := by
  go_enter Tryz.func86, Tryz.ntmps86
  go_wp2
  have hb := block_setCell (block_setCell (block_setCell (block_setCell (block_setCell (block_setCell (block_alloc (alloc_new_at (w := w.alloc (.cells #[.string m0, .string m1, .int .u64 m2, .int .u64 m3, .int .u64 m4, .int .u64 m5] 76)) (.cells #[.string ⟨#[]⟩, .string ⟨#[]⟩, .int .u64 0, .int .u64 0, .int .u64 0, .int .u64 0] 76) (alloc_size _ rfl)) (.cells #[.string ⟨#[]⟩, .string ⟨#[]⟩, .int .u64 0, .int .u64 0, .int .u64 0, .int .u64 0] 76)) (o := 0) (.string ⟨#[]⟩)) (o := 1) (.string ⟨#[]⟩)) (o := 2) (.int .u64 0)) (o := 3) (.int .u64 0)) (o := 4) (.int .u64 0)) (o := 5) (.int .u64 0)
  have d : ∀ o, _ = _ := block_cell hb
  refine bodyPost_ret (v := .tuple #[zeroMsg, .iface 127 (.pointer (some ⟨fb, 0, none⟩))]) ?_ rfl ⟨rfl, by (repeat (first | exact Below.refl _ _ | assumption | (refine bdrew ?_) | (refine bdrewN ?_ _) | (refine balloc ?_ _) | (refine bset ?_ (by first | omega | (simp; done) | (simp; omega)) _) | (refine bnext ?_ (by assumption))))⟩
  simp [results, Tryz.results86, go_sem, d]
def ReMsg (s : ByteArray) (w : World) (e : Ending) (w' : World) : Prop :=
  Below w.heap.size w w' ∧ match readR s (msgGs s) msg0 with
    | .error f => ∃ fb, e = .returned (.tuple #[zeroMsg, .iface 127 (.pointer (some ⟨fb, 0, none⟩))]) ∧ FltB w' fb f.1 f.2
    | .ok x => Kd msg0 x ∧ (∃ rb tb, LiesMsg rb tb w' x) ∧ e = .returned (.tuple #[.agg (cellsMsg x), .nilIface])
set_option maxRecDepth 100000 in
set_option maxHeartbeats 2000000 in
theorem reaMsg_any (B : Nat) (s : ByteArray) (w : World) (hT : Tabs B w) (hET : ErrType w) (hB : B ≤ w.heap.size) (hg : 0 < B) (hs : s.size ≤ 9223372036854775807) :
    Calls Tryz.prog 42 #[.string s] w (ReMsg s w) := by
  have H := Lib.hid (fun (w' : World) (hb : Below w.heap.size w w') => readMsg_any B s w' (hT.below hb) (hET.below hb) (Nat.le_trans hB hb.size) hg hs)
  clear hT hET
  go_enter Tryz.func42, Tryz.ntmps42
  go_wp2_with fail
  refine (H.out _ (balloc (Below.refl _ _) _)).mono ?_
  rintro e w1 ⟨hb1, hh⟩
  have hblk := (hb1.block w.heap.size (by simp)).trans (heap_alloc_new w _)
  have HBK := Lib.hid hblk
  have HB := Lib.hid (bnext (balloc (Below.refl _ _) _) hb1)
  clear hb1 hblk
  cases hr : objR s (msgGs s) msg0 0 with
  | error f =>
    rw [hr] at hh
    obtain ⟨fb, rfl, hf⟩ := hh
    have HF := Lib.hid hf
    have HR : Hid (readR s (msgGs s) msg0 = .error f) := Lib.hid (by unfold readR; rw [hr])
    clear hf hr
    go_wp2_with fail
    refine (overMsg_no _ _ _ _ _ _ fb w1).mono ?_
    rintro e w2 ⟨rfl, hb2⟩
    have hb := (hb2.block _ (lt_of_block HBK.out)).trans HBK.out
    have HB2 := Lib.hid (bnext HB.out hb2)
    have HF2 := Lib.hid (HF.out.below hb2)
    have HBK2 := Lib.hid hb
    have g0 : ∀ o, w2.cell? ⟨w.heap.size, o, none⟩ = _ := block_cell hb
    have g1 : ∀ o, w2.frozen? ⟨w.heap.size, o, none⟩ = false := block_free hb
    have g2 : w.heap.size < w2.heap.size := lt_of_block hb
    clear hb2 hb
    go_wp2
    have hb := block_setCell (block_setCell (block_setCell (block_setCell (block_setCell (block_setCell (HBK2.out) (o := 0) (.string ⟨#[]⟩)) (o := 1) (.string ⟨#[]⟩)) (o := 2) (.int .u64 0)) (o := 3) (.int .u64 0)) (o := 4) (.int .u64 0)) (o := 5) (.int .u64 0)
    have d : ∀ o, _ = _ := block_cell hb
    have hne : fb ≠ w.heap.size := fun e => by subst e; have h9 := HBK2.out.symm.trans HF2.out; cases h9
    refine bodyPost_ret (v := .tuple #[zeroMsg, .iface 127 (.pointer (some ⟨fb, 0, none⟩))]) ?_ rfl ⟨(bset (bset (bset (bset (bset (bset HB2.out (Nat.le_refl _) _) (Nat.le_refl _) _) (Nat.le_refl _) _) (Nat.le_refl _) _) (Nat.le_refl _) _) (Nat.le_refl _) _), ?_⟩
    · simp [results, Tryz.results42, go_sem, d]
    · rw [HR.out]
      exact ⟨fb, rfl, (bsn (bsn (bsn (bsn (bsn (bsn HF2.out hne) hne) hne) hne) hne) hne)⟩
  | ok y =>
    rw [hr] at hh
    obtain ⟨hk, hle, ⟨rb, tb, hrb, hl⟩, hh⟩ := hh
    have HL := Lib.hid hl
    by_cases hlt : y.2 < s.size
    · rw [if_pos hlt] at hh
      obtain ⟨fb, rfl, hf⟩ := hh
      have HF := Lib.hid hf
      have HR : Hid (readR s (msgGs s) msg0 = .error (5, y.2)) := Lib.hid (by unfold readR; rw [hr]; exact if_pos hlt)
      clear hf hr hlt
      go_wp2_with fail
      refine (overMsg_no _ _ _ _ _ _ fb w1).mono ?_
      rintro e w2 ⟨rfl, hb2⟩
      have hb := (hb2.block _ (lt_of_block HBK.out)).trans HBK.out
      have HB2 := Lib.hid (bnext HB.out hb2)
      have HF2 := Lib.hid (HF.out.below hb2)
      have HBK2 := Lib.hid hb
      have g0 : ∀ o, w2.cell? ⟨w.heap.size, o, none⟩ = _ := block_cell hb
      have g1 : ∀ o, w2.frozen? ⟨w.heap.size, o, none⟩ = false := block_free hb
      have g2 : w.heap.size < w2.heap.size := lt_of_block hb
      clear hb2 hb
      go_wp2
      have hb := block_setCell (block_setCell (block_setCell (block_setCell (block_setCell (block_setCell (HBK2.out) (o := 0) (.string ⟨#[]⟩)) (o := 1) (.string ⟨#[]⟩)) (o := 2) (.int .u64 0)) (o := 3) (.int .u64 0)) (o := 4) (.int .u64 0)) (o := 5) (.int .u64 0)
      have d : ∀ o, _ = _ := block_cell hb
      have hne : fb ≠ w.heap.size := fun e => by subst e; have h9 := HBK2.out.symm.trans HF2.out; cases h9
      refine bodyPost_ret (v := .tuple #[zeroMsg, .iface 127 (.pointer (some ⟨fb, 0, none⟩))]) ?_ rfl ⟨(bset (bset (bset (bset (bset (bset HB2.out (Nat.le_refl _) _) (Nat.le_refl _) _) (Nat.le_refl _) _) (Nat.le_refl _) _) (Nat.le_refl _) _) (Nat.le_refl _) _), ?_⟩
      · simp [results, Tryz.results42, go_sem, d]
      · rw [HR.out]
        exact ⟨fb, rfl, (bsn (bsn (bsn (bsn (bsn (bsn HF2.out hne) hne) hne) hne) hne) hne)⟩
    · rw [if_neg hlt] at hh
      subst hh
      have HR : Hid (readR s (msgGs s) msg0 = .ok y.1) := Lib.hid (by unfold readR; rw [hr]; exact if_neg hlt)
      clear hr hlt
      go_wp2_with fail
      refine (overMsg_ok _ _ _ _ _ _ w1).mono ?_
      rintro e w2 ⟨rfl, hb2⟩
      have hb := (hb2.block _ (lt_of_block HBK.out)).trans HBK.out
      have HB2 := Lib.hid (bnext HB.out hb2)
      have HL2 := Lib.hid (HL.out.below hb2)
      have HBK2 := Lib.hid hb
      have g0 : ∀ o, w2.cell? ⟨w.heap.size, o, none⟩ = _ := block_cell hb
      have g1 : ∀ o, w2.frozen? ⟨w.heap.size, o, none⟩ = false := block_free hb
      have g2 : w.heap.size < w2.heap.size := lt_of_block hb
      clear hb2 hb
      go_wp2
      have hb := block_setCell (block_setCell (block_setCell (block_setCell (block_setCell (block_setCell (HBK2.out) (o := 0) (.string (y.1 0).s)) (o := 1) (.string (y.1 1).s)) (o := 2) (.int .u64 (y.1 2).n)) (o := 3) (.int .u64 (y.1 3).n)) (o := 4) (.int .u64 (y.1 4).n)) (o := 5) (.int .u64 (y.1 5).n)
      have d : ∀ o, _ = _ := block_cell hb
      refine bodyPost_ret (v := .tuple #[.agg (cellsMsg y.1), .nilIface]) ?_ rfl ⟨(bset (bset (bset (bset (bset (bset HB2.out (Nat.le_refl _) _) (Nat.le_refl _) _) (Nat.le_refl _) _) (Nat.le_refl _) _) (Nat.le_refl _) _) (Nat.le_refl _) _), ?_⟩
      · simp [results, Tryz.results42, go_sem, d]
      · rw [HR.out]
        exact ⟨hk, ⟨rb, tb, HL2.out.up (fun b h1 h2 => by
          have h3 : b ≠ w.heap.size := by simp at hrb; omega
          repeat rw [Below.heap_setCell _ _ _ _ h3])⟩, rfl⟩
set_option maxRecDepth 100000 in
theorem overHeader_ok (m0 : Int) (m1 : ByteArray) (m2 : ByteArray) (m3 : ByteArray) (w : World) : Calls Tryz.prog 89 #[.agg #[.int .u64 m0, .string m1, .string m2, .string m3], .nilIface] w fun e w' => e = .returned (.tuple #[.agg #[.int .u64 m0, .string m1, .string m2, .string m3], .nilIface]) ∧ Below w.heap.size w w' := by
  go_enter Tryz.func89, Tryz.ntmps89
  go_wp2
  have hb := block_setCell (block_setCell (block_setCell (block_setCell (alloc_new_at (w := w.alloc (.cells #[.int .u64 m0, .string m1, .string m2, .string m3] 78)) (.cells #[.int .u64 0, .string ⟨#[]⟩, .string ⟨#[]⟩, .string ⟨#[]⟩] 78) (alloc_size _ rfl)) (o := 0) (.int .u64 m0)) (o := 1) (.string m1)) (o := 2) (.string m2)) (o := 3) (.string m3)
  have d : ∀ o, _ = _ := block_cell hb
  refine bodyPost_ret (v := .tuple #[.agg #[.int .u64 m0, .string m1, .string m2, .string m3], .nilIface]) ?_ rfl ⟨rfl, by (repeat (first | exact Below.refl _ _ | assumption | (refine bdrew ?_) | (refine bdrewN ?_ _) | (refine balloc ?_ _) | (refine bset ?_ (by first | omega | (simp; done) | (simp; omega)) _) | (refine bnext ?_ (by assumption))))⟩
  simp [results, Tryz.results89, go_sem, d]
set_option maxRecDepth 100000 in
theorem overHeader_no (m0 : Int) (m1 : ByteArray) (m2 : ByteArray) (m3 : ByteArray) (fb : Nat) (w : World) : Calls Tryz.prog 89 #[.agg #[.int .u64 m0, .string m1, .string m2, .string m3], .iface 127 (.pointer (some ⟨fb, 0, none⟩))] w fun e w' => e = .returned (.tuple #[zeroHeader, .iface 127 (.pointer (some ⟨fb, 0, none⟩))]) ∧ Below w.heap.size w w' := by
  go_enter Tryz.func89, Tryz.ntmps89
  go_wp2
  have hb := block_setCell (block_setCell (block_setCell (block_setCell (block_alloc (alloc_new_at (w := w.alloc (.cells #[.int .u64 m0, .string m1, .string m2, .string m3] 78)) (.cells #[.int .u64 0, .string ⟨#[]⟩, .string ⟨#[]⟩, .string ⟨#[]⟩] 78) (alloc_size _ rfl)) (.cells #[.int .u64 0, .string ⟨#[]⟩, .string ⟨#[]⟩, .string ⟨#[]⟩] 78)) (o := 0) (.int .u64 0)) (o := 1) (.string ⟨#[]⟩)) (o := 2) (.string ⟨#[]⟩)) (o := 3) (.string ⟨#[]⟩)
  have d : ∀ o, _ = _ := block_cell hb
  refine bodyPost_ret (v := .tuple #[zeroHeader, .iface 127 (.pointer (some ⟨fb, 0, none⟩))]) ?_ rfl ⟨rfl, by (repeat (first | exact Below.refl _ _ | assumption | (refine bdrew ?_) | (refine bdrewN ?_ _) | (refine balloc ?_ _) | (refine bset ?_ (by first | omega | (simp; done) | (simp; omega)) _) | (refine bnext ?_ (by assumption))))⟩
  simp [results, Tryz.results89, go_sem, d]
def ReHeader (s : ByteArray) (w : World) (e : Ending) (w' : World) : Prop :=
  Below w.heap.size w w' ∧ match readR s (headerGs s) header0 with
    | .error f => ∃ fb, e = .returned (.tuple #[zeroHeader, .iface 127 (.pointer (some ⟨fb, 0, none⟩))]) ∧ FltB w' fb f.1 f.2
    | .ok x => Kd header0 x ∧ (∃ rb tb, LiesHeader rb tb w' x) ∧ e = .returned (.tuple #[.agg (cellsHeader x), .nilIface])
set_option maxRecDepth 100000 in
set_option maxHeartbeats 2000000 in
theorem reaHeader_any (B : Nat) (s : ByteArray) (w : World) (hT : Tabs B w) (hET : ErrType w) (hB : B ≤ w.heap.size) (hg : 0 < B) (hs : s.size ≤ 9223372036854775807) :
    Calls Tryz.prog 44 #[.string s] w (ReHeader s w) := by
  have H := Lib.hid (fun (w' : World) (hb : Below w.heap.size w w') => readHeader_any B s w' (hT.below hb) (hET.below hb) (Nat.le_trans hB hb.size) hg hs)
  clear hT hET
  go_enter Tryz.func44, Tryz.ntmps44
  go_wp2_with fail
  refine (H.out _ (balloc (Below.refl _ _) _)).mono ?_
  rintro e w1 ⟨hb1, hh⟩
  have hblk := (hb1.block w.heap.size (by simp)).trans (heap_alloc_new w _)
  have HBK := Lib.hid hblk
  have HB := Lib.hid (bnext (balloc (Below.refl _ _) _) hb1)
  clear hb1 hblk
  cases hr : objR s (headerGs s) header0 0 with
  | error f =>
    rw [hr] at hh
    obtain ⟨fb, rfl, hf⟩ := hh
    have HF := Lib.hid hf
    have HR : Hid (readR s (headerGs s) header0 = .error f) := Lib.hid (by unfold readR; rw [hr])
    clear hf hr
    go_wp2_with fail
    refine (overHeader_no _ _ _ _ fb w1).mono ?_
    rintro e w2 ⟨rfl, hb2⟩
    have hb := (hb2.block _ (lt_of_block HBK.out)).trans HBK.out
    have HB2 := Lib.hid (bnext HB.out hb2)
    have HF2 := Lib.hid (HF.out.below hb2)
    have HBK2 := Lib.hid hb
    have g0 : ∀ o, w2.cell? ⟨w.heap.size, o, none⟩ = _ := block_cell hb
    have g1 : ∀ o, w2.frozen? ⟨w.heap.size, o, none⟩ = false := block_free hb
    have g2 : w.heap.size < w2.heap.size := lt_of_block hb
    clear hb2 hb
    go_wp2
    have hb := block_setCell (block_setCell (block_setCell (block_setCell (HBK2.out) (o := 0) (.int .u64 0)) (o := 1) (.string ⟨#[]⟩)) (o := 2) (.string ⟨#[]⟩)) (o := 3) (.string ⟨#[]⟩)
    have d : ∀ o, _ = _ := block_cell hb
    have hne : fb ≠ w.heap.size := fun e => by subst e; have h9 := HBK2.out.symm.trans HF2.out; cases h9
    refine bodyPost_ret (v := .tuple #[zeroHeader, .iface 127 (.pointer (some ⟨fb, 0, none⟩))]) ?_ rfl ⟨(bset (bset (bset (bset HB2.out (Nat.le_refl _) _) (Nat.le_refl _) _) (Nat.le_refl _) _) (Nat.le_refl _) _), ?_⟩
    · simp [results, Tryz.results44, go_sem, d]
    · rw [HR.out]
      exact ⟨fb, rfl, (bsn (bsn (bsn (bsn HF2.out hne) hne) hne) hne)⟩
  | ok y =>
    rw [hr] at hh
    obtain ⟨hk, hle, ⟨rb, tb, hrb, hl⟩, hh⟩ := hh
    have HL := Lib.hid hl
    by_cases hlt : y.2 < s.size
    · rw [if_pos hlt] at hh
      obtain ⟨fb, rfl, hf⟩ := hh
      have HF := Lib.hid hf
      have HR : Hid (readR s (headerGs s) header0 = .error (5, y.2)) := Lib.hid (by unfold readR; rw [hr]; exact if_pos hlt)
      clear hf hr hlt
      go_wp2_with fail
      refine (overHeader_no _ _ _ _ fb w1).mono ?_
      rintro e w2 ⟨rfl, hb2⟩
      have hb := (hb2.block _ (lt_of_block HBK.out)).trans HBK.out
      have HB2 := Lib.hid (bnext HB.out hb2)
      have HF2 := Lib.hid (HF.out.below hb2)
      have HBK2 := Lib.hid hb
      have g0 : ∀ o, w2.cell? ⟨w.heap.size, o, none⟩ = _ := block_cell hb
      have g1 : ∀ o, w2.frozen? ⟨w.heap.size, o, none⟩ = false := block_free hb
      have g2 : w.heap.size < w2.heap.size := lt_of_block hb
      clear hb2 hb
      go_wp2
      have hb := block_setCell (block_setCell (block_setCell (block_setCell (HBK2.out) (o := 0) (.int .u64 0)) (o := 1) (.string ⟨#[]⟩)) (o := 2) (.string ⟨#[]⟩)) (o := 3) (.string ⟨#[]⟩)
      have d : ∀ o, _ = _ := block_cell hb
      have hne : fb ≠ w.heap.size := fun e => by subst e; have h9 := HBK2.out.symm.trans HF2.out; cases h9
      refine bodyPost_ret (v := .tuple #[zeroHeader, .iface 127 (.pointer (some ⟨fb, 0, none⟩))]) ?_ rfl ⟨(bset (bset (bset (bset HB2.out (Nat.le_refl _) _) (Nat.le_refl _) _) (Nat.le_refl _) _) (Nat.le_refl _) _), ?_⟩
      · simp [results, Tryz.results44, go_sem, d]
      · rw [HR.out]
        exact ⟨fb, rfl, (bsn (bsn (bsn (bsn HF2.out hne) hne) hne) hne)⟩
    · rw [if_neg hlt] at hh
      subst hh
      have HR : Hid (readR s (headerGs s) header0 = .ok y.1) := Lib.hid (by unfold readR; rw [hr]; exact if_neg hlt)
      clear hr hlt
      go_wp2_with fail
      refine (overHeader_ok _ _ _ _ w1).mono ?_
      rintro e w2 ⟨rfl, hb2⟩
      have hb := (hb2.block _ (lt_of_block HBK.out)).trans HBK.out
      have HB2 := Lib.hid (bnext HB.out hb2)
      have HL2 := Lib.hid (HL.out.below hb2)
      have HBK2 := Lib.hid hb
      have g0 : ∀ o, w2.cell? ⟨w.heap.size, o, none⟩ = _ := block_cell hb
      have g1 : ∀ o, w2.frozen? ⟨w.heap.size, o, none⟩ = false := block_free hb
      have g2 : w.heap.size < w2.heap.size := lt_of_block hb
      clear hb2 hb
      go_wp2
      have hb := block_setCell (block_setCell (block_setCell (block_setCell (HBK2.out) (o := 0) (.int .u64 (y.1 0).n)) (o := 1) (.string (y.1 1).s)) (o := 2) (.string (y.1 2).s)) (o := 3) (.string (y.1 3).s)
      have d : ∀ o, _ = _ := block_cell hb
      refine bodyPost_ret (v := .tuple #[.agg (cellsHeader y.1), .nilIface]) ?_ rfl ⟨(bset (bset (bset (bset HB2.out (Nat.le_refl _) _) (Nat.le_refl _) _) (Nat.le_refl _) _) (Nat.le_refl _) _), ?_⟩
      · simp [results, Tryz.results44, go_sem, d]
      · rw [HR.out]
        exact ⟨hk, ⟨rb, tb, HL2.out.up (fun b h1 h2 => by
          have h3 : b ≠ w.heap.size := by simp at hrb; omega
          repeat rw [Below.heap_setCell _ _ _ _ h3])⟩, rfl⟩
end Go.Proofs.YtihiaopilnjonaaGreatDoor
namespace Go.Proofs.YtihiaopilnjonaaGreatDoor
open Go.RowKit
set_option linter.unusedSimpArgs false
set_option linter.unusedVariables false
abbrev CP := Nat → Nat → Value → Prop
def StrsC (C : CP) (a : Option Addr) (l : List ByteArray) : Prop := ∀ i, i < len l → ∃ b off, a = some ⟨b, off, none⟩ ∧ C b (off + i) (.string (sth l i))
theorem StrsC.imp {C D : CP} (h : ∀ b o x, C b o x → D b o x) {a : Option Addr} {l : List ByteArray} (hs : StrsC C a l) : StrsC D a l := fun i hi => by
  obtain ⟨b, off, e, hc⟩ := hs i hi; exact ⟨b, off, e, h _ _ _ hc⟩
structure RevCl (C : CP) (b o : Nat) (d : RevD) : Prop where
  c0 : C b o (.int .u64 d.pos)
  c1 : C b (o + 1) (.int .u64 d.L)
  c2 : C b (o + 2) (.bool d.signed)
  c3 : C b (o + 3) (.int .u64 d.idx)
  c4 : ∃ a c, C b (o + 4) (.slice a (len d.ws) c) ∧ StrsC C a d.ws
  c5 : ∃ a c, C b (o + 5) (.slice a (len d.ps) c) ∧ StrsC C a d.ps
  c6 : C b (o + 6) (.string d.root)
  c7 : C b (o + 7) (.int .u64 d.wt)
  c8 : C b (o + 8) (.int .u64 d.first)
  c9 : C b (o + 9) (.int .u64 d.life)
  c10 : C b (o + 10) (.int .u64 d.keys)
theorem RevCl.imp {C D : CP} (h : ∀ b o x, C b o x → D b o x) {b o : Nat} {d : RevD} (k : RevCl C b o d) : RevCl D b o d := by
  obtain ⟨a4, k4, h4, s4⟩ := k.c4
  obtain ⟨a5, k5, h5, s5⟩ := k.c5
  exact ⟨h _ _ _ k.c0, h _ _ _ k.c1, h _ _ _ k.c2, h _ _ _ k.c3, ⟨a4, k4, h _ _ _ h4, s4.imp h⟩, ⟨a5, k5, h _ _ _ h5, s5.imp h⟩, h _ _ _ k.c6, h _ _ _ k.c7, h _ _ _ k.c8, h _ _ _ k.c9, h _ _ _ k.c10⟩
def RvsC (C : CP) (a : Option Addr) (l : List RevD) : Prop := ∀ i, i < len l → ∃ b off, a = some ⟨b, off, none⟩ ∧ RevCl C b (off + i * 11) (lth l i)
theorem RvsC.imp {C D : CP} (h : ∀ b o x, C b o x → D b o x) {a : Option Addr} {l : List RevD} (k : RvsC C a l) : RvsC D a l := fun i hi => by
  obtain ⟨b, off, e, hc⟩ := k i hi; exact ⟨b, off, e, hc.imp h⟩
def NoRow (t : Nat) (w : World) : Prop := ∃ cs T fr, w.heap[t]? = some (.cells cs T fr) ∧ T ≠ 172
theorem NoRow.lt {t : Nat} {w : World} (h : NoRow t w) : t < w.heap.size := by obtain ⟨cs, T, fr, h1, _⟩ := h; exact lt_of_block h1
theorem NoRow.below {t : Nat} {w w' : World} (h : NoRow t w) (hb : Below w.heap.size w w') : NoRow t w' := by
  obtain ⟨cs, T, fr, h1, h2⟩ := h; exact ⟨cs, T, fr, (hb.block _ (lt_of_block h1)).trans h1, h2⟩
theorem NoRow.ne {t g : Nat} {w : World} {l : List FVal} (h : NoRow t w) (hF : FRow w g l) : g ≠ t := fun e => by
  subst e
  obtain ⟨cs, T, fr, h1, h2⟩ := h
  obtain ⟨_, cur, h3⟩ := hF
  rw [h1] at h3; cases h3; exact h2 rfl
section
variable {B t : Nat} {w : World}
end
end Go.Proofs.YtihiaopilnjonaaGreatDoor
namespace Go.Proofs.YtihiaopilnjonaaGreatDoor
open Go.RowKit
set_option linter.unusedSimpArgs false
set_option linter.unusedVariables false
abbrev BPs := List (ByteArray × ByteArray)
def catK (ps : BPs) : ByteArray := catB ((rkept ps).map fun p => strP p.1 ++ p.2)
def LyB (w : World) (b : Nat) (ps : BPs) : Prop := w.heap[b]? = some (.cells #[.int .u64 ((rkept ps).length : Nat), .string (catK ps)] 141 (0, 0))
theorem LyB.below {w w' : World} {b : Nat} {ps : BPs} (h : LyB w b ps) (hb : Below w.heap.size w w') : LyB w' b ps := by
  unfold LyB; rw [hb.block b (lt_of_block h)]; exact h
theorem rkept_none (ps : BPs) (key : ByteArray) (v : ByteArray) (h : v.size = 0) : rkept (ps ++ [(key, v)]) = rkept ps := by
  unfold rkept; rw [List.filter_append, List.filter_cons_of_neg (by simp [h])]; simp
theorem rkept_some (ps : BPs) (key : ByteArray) (v : ByteArray) (h : v.size ≠ 0) : rkept (ps ++ [(key, v)]) = rkept ps ++ [(key, v)] := by
  unfold rkept; rw [List.filter_append, List.filter_cons_of_pos (by simp [h])]; simp
theorem catK_some (ps : BPs) (key : ByteArray) (v : ByteArray) (h : v.size ≠ 0) : catK (ps ++ [(key, v)]) = catK ps ++ strP key ++ v := by
  unfold catK; rw [rkept_some ps key v h, List.map_append, catB_app]; simp [catB, ByteArray.append_assoc]
end Go.Proofs.YtihiaopilnjonaaGreatDoor
namespace Go.Proofs.YtihiaopilnjonaaGreatDoor
open Go.RowKit
set_option linter.unusedSimpArgs false
set_option linter.unusedVariables false
theorem laidP_len (sort : Nat) (n : Int) (t : ByteArray) : (laidP sort n t).size ≤ 9 + t.size := by
  unfold laidP
  have := headP_len sort n
  rw [ByteArray.size_append, baL_size]
  split
  · omega
  · show _ + 0 ≤ _; omega
def numR (n : Int) : ByteArray := if n = 0 then ⟨#[]⟩ else numP n
end Go.Proofs.YtihiaopilnjonaaGreatDoor
namespace Go.Proofs.YtihiaopilnjonaaGreatDoor
open Go.RowKit
set_option linter.unusedSimpArgs false
set_option linter.unusedVariables false
theorem catK_le (ps : BPs) (k v : ByteArray) : (catK (ps ++ [(k, v)])).size ≤ (catK ps).size + k.size + 9 + v.size := by
  by_cases h : v.size = 0
  · unfold catK; rw [rkept_none _ _ _ h]; omega
  · rw [catK_some _ _ _ h, ByteArray.size_append, ByteArray.size_append]
    have : (strP k).size ≤ 9 + k.size := laidP_len 2 _ _
    omega
theorem numR_len (n : Int) : (numR n).size ≤ 9 := by
  unfold numR
  split
  · decide
  · exact laidP_len 0 n ByteArray.empty
theorem binP_len (s : ByteArray) : (binP s).size ≤ 9 + s.size := laidP_len 1 _ _
def partPs (root : ByteArray) (weight first life keys : Int) : BPs := [(⟨#[102]⟩, numR first), (⟨#[107]⟩, numR keys), (⟨#[108]⟩, numR life), (⟨#[114]⟩, binP root), (⟨#[119]⟩, numR weight)]
end Go.Proofs.YtihiaopilnjonaaGreatDoor
namespace Go.Proofs.YtihiaopilnjonaaGreatDoor
open Go.RowKit
set_option linter.unusedSimpArgs false
set_option linter.unusedVariables false
theorem rlayP_len (ps : BPs) : (rlayP ps).size ≤ 9 + (catK ps).size := by
  show (mapP _ ++ catK _).size ≤ _
  rw [ByteArray.size_append]
  have : (mapP (rkept ps).length).size ≤ 9 := laidP_len 4 _ ByteArray.empty
  omega
end Go.Proofs.YtihiaopilnjonaaGreatDoor
namespace Go.Proofs.YtihiaopilnjonaaGreatDoor
open Go.RowKit
set_option linter.unusedSimpArgs false
set_option linter.unusedVariables false
def FPs : List FSpec → BPs → Prop
  | [], [] => True
  | f :: l, p :: r => (f.key = p.1 ∧ (f.empty = true ↔ p.2.size = 0) ∧ (f.empty = false → f.bytes = p.2)) ∧ FPs l r
  | _, _ => False
theorem fps_len : ∀ (l : List FSpec) (r : BPs), FPs l r → l.length = r.length ∧ ∀ i (h : i < l.length) (h' : i < r.length), l[i].key = r[i].1 ∧ (l[i].empty = true ↔ r[i].2.size = 0) ∧ (l[i].empty = false → l[i].bytes = r[i].2)
  | [], [], _ => ⟨rfl, fun i h => absurd h (by simp)⟩
  | [], _ :: _, h => h.elim
  | _ :: _, [], h => h.elim
  | f :: l, p :: r, h => by
    obtain ⟨h1, h2⟩ := h
    obtain ⟨h3, h4⟩ := fps_len l r h2
    refine ⟨by simp [h3], fun i hi hi' => ?_⟩
    cases i with
    | zero => exact h1
    | succ j => exact h4 j (by simpa using hi) (by simpa using hi')
theorem fps_lay {l : List FSpec} {r : BPs} (h : FPs l r) : layP l = rlayP r := layP_eq (fps_len l r h).1 (fps_len l r h).2
theorem head_pos (sort : Nat) (n : Int) (h : sort < 5) (h1 : sort ≠ 0 → n < 65536) : 0 < (headP sort n).length := by
  have hs : sort = 0 ∨ sort = 1 ∨ sort = 2 ∨ sort = 3 ∨ sort = 4 := by omega
  rcases hs with rfl | rfl | rfl | rfl | rfl
  · rw [headP0]; repeat (first | split | simp)
  · rw [headP1 (h1 (by decide))]; repeat (first | split | simp)
  · rw [headP2 (h1 (by decide))]; repeat (first | split | simp)
  · rw [headP3 (h1 (by decide))]; repeat (first | split | simp)
  · rw [headP4 (h1 (by decide))]; repeat (first | split | simp)
theorem laid_pos (sort : Nat) (n : Int) (t : ByteArray) (h : sort < 5) (h1 : sort ≠ 0 → n < 65536) : 0 < (laidP sort n t).size := by
  unfold laidP
  rw [ByteArray.size_append, baL_size]
  have := head_pos sort n h h1
  omega
theorem num_ok (key : ByteArray) (n : Int) : ((n == 0) = true ↔ (numR n).size = 0) ∧ ((n == 0) = false → numP n = numR n) := by
  unfold numR
  by_cases h : n = 0
  · rw [if_pos h, h]
    exact ⟨⟨fun _ => rfl, fun _ => rfl⟩, fun h => absurd h (by decide)⟩
  · rw [if_neg h]
    have e : (n == 0) = false := by simp [h]
    rw [e]
    have h1 : 0 < (numP n).size := laid_pos 0 n ByteArray.empty (by decide) (fun h => absurd rfl h)
    exact ⟨⟨fun h => absurd h (by decide), fun h => by omega⟩, fun _ => rfl⟩
theorem bin_ok (s : ByteArray) (hs : s.size < 65536) : (false = true ↔ (binP s).size = 0) ∧ (false = false → binP s = binP s) := by
  have : 0 < (binP s).size := laid_pos 1 _ _ (by decide) (fun _ => by omega)
  exact ⟨⟨fun h => absurd h (by decide), fun h => by omega⟩, fun _ => rfl⟩
theorem part_same (root : ByteArray) (weight first life keys : Int) (hr : root.size < 65536) : layP (partSpecs root weight first life keys) = rlayP (partPs root weight first life keys) :=
  fps_lay ⟨⟨rfl, num_ok ⟨#[]⟩ first⟩, ⟨rfl, num_ok ⟨#[]⟩ keys⟩, ⟨rfl, num_ok ⟨#[]⟩ life⟩, ⟨rfl, bin_ok root hr⟩, ⟨rfl, num_ok ⟨#[]⟩ weight⟩, trivial⟩
theorem may_part (root : ByteArray) (weight first life keys : Int) : allMay (partSpecs root weight first life keys) = decide (root.size = 32) := by
  show (true && (true && (true && (decide (root.size = 32) && (true && true))))) = _
  cases decide (root.size = 32) <;> rfl
end Go.Proofs.YtihiaopilnjonaaGreatDoor
namespace Go.Proofs.YtihiaopilnjonaaGreatDoor
open Go.RowKit
set_option linter.unusedSimpArgs false
set_option linter.unusedVariables false
theorem catB_size_le {α : Type} (f : α → ByteArray) (M : Nat) : ∀ l : List α, (∀ x ∈ l, (f x).size ≤ M) → (catB (l.map f)).size ≤ l.length * M
  | [], _ => by simp [catB]
  | x :: r, h => by
    rw [List.map_cons, catB, ByteArray.size_append, List.length_cons, Nat.succ_mul]
    have h1 := h x (List.mem_cons_self ..)
    have h2 := catB_size_le f M r (fun y hy => h y (List.mem_cons_of_mem _ hy))
    omega
theorem layP_size (fs : List FSpec) (M : Nat) (h : ∀ f ∈ fs, f.key.size ≤ 1 ∧ f.bytes.size ≤ M) : (layP fs).size ≤ 9 + fs.length * (M + 10) := by
  unfold layP
  rw [ByteArray.size_append]
  have h1 : (mapP (keptF fs).length).size ≤ 9 := laidP_len 4 _ ByteArray.empty
  have h2 := catB_size_le fieldP (M + 10) (keptF fs) (fun f hf => by
    obtain ⟨h3, h4⟩ := h f (List.mem_filter.1 hf).1
    unfold fieldP
    rw [ByteArray.size_append]
    have h5 : (strP f.key).size ≤ 9 + f.key.size := laidP_len 2 _ _
    omega)
  have h3 := Nat.mul_le_mul_right (M + 10) (kept_le fs)
  omega
theorem dgsP_size {l : List ByteArray} {n : Nat} (h : mayB l n = true) : (dgsP l).size ≤ 9 + n * 41 := by
  obtain ⟨h1, h2⟩ := (mayB_iff l n).1 h
  unfold dgsP
  rw [ByteArray.size_append]
  have h3 : (listP (len l)).size ≤ 9 := laidP_len 3 _ ByteArray.empty
  have h4 := catB_size_le binP 41 l (fun x hx => by have := binP_len x; rw [h2 x hx] at this; exact this)
  have h5 := Nat.mul_le_mul_right 41 h1
  rw [len_eq] at h5
  omega
theorem numP_size (n : Int) : (numP n).size ≤ 9 := laidP_len 0 _ ByteArray.empty
theorem may_all {fs : List FSpec} (h : allMay fs = true) : ∀ f ∈ fs, f.may = true := List.all_eq_true.1 h
theorem partSz {root : ByteArray} {weight first life keys : Int} (h : allMay (partSpecs root weight first life keys) = true) : (layP (partSpecs root weight first life keys)).size ≤ 300 := by
  have hr : root.size = 32 := of_decide_eq_true (may_all h ⟨⟨#[114]⟩, true, false, decide (root.size = 32), binP root⟩ (by unfold partSpecs; simp))
  have hb := binP_len root
  refine Nat.le_trans (layP_size _ 41 fun f hf => ?_) (show 9 + 5 * 51 ≤ 300 by decide)
  unfold partSpecs at hf
  simp only [List.mem_cons, List.not_mem_nil, or_false] at hf
  rcases hf with rfl | rfl | rfl | rfl | rfl
  · exact ⟨Nat.le_refl _, Nat.le_trans (numP_size _) (by decide)⟩
  · exact ⟨Nat.le_refl _, Nat.le_trans (numP_size _) (by decide)⟩
  · exact ⟨Nat.le_refl _, Nat.le_trans (numP_size _) (by decide)⟩
  · exact ⟨Nat.le_refl _, by show (binP root).size ≤ 41; omega⟩
  · exact ⟨Nat.le_refl _, Nat.le_trans (numP_size _) (by decide)⟩
theorem sigSz {idx : Int} {ws ps : List ByteArray} (h : allMay (sigSpecs idx ws ps) = true) : (layP (sigSpecs idx ws ps)).size ≤ 9000 := by
  have h1 := may_all h ⟨⟨#[112]⟩, false, decide (len ps = 0), mayB ps 16, dgsP ps⟩ (by unfold sigSpecs; simp)
  have h2 := may_all h ⟨⟨#[118]⟩, false, decide (len ws = 0), mayB ws 67, dgsP ws⟩ (by unfold sigSpecs; simp)
  refine Nat.le_trans (layP_size _ 2756 fun f hf => ?_) (show 9 + 3 * 2766 ≤ 9000 by decide)
  unfold sigSpecs at hf
  simp only [List.mem_cons, List.not_mem_nil, or_false] at hf
  rcases hf with rfl | rfl | rfl
  · exact ⟨Nat.le_refl _, Nat.le_trans (numP_size _) (by decide)⟩
  · exact ⟨Nat.le_refl _, Nat.le_trans (dgsP_size h1) (by decide)⟩
  · exact ⟨Nat.le_refl _, Nat.le_trans (dgsP_size h2) (by decide)⟩
theorem slotSz {L : Int} {q : Bool} {idx : Int} {ws ps : List ByteArray} (h : allMay (slotSpecs L q idx ws ps) = true) : (layP (slotSpecs L q idx ws ps)).size ≤ 28000 := by
  have h1 : allMay (sigSpecs idx ws ps) = true := may_all h (objSpec ⟨#[103]⟩ (sigSpecs idx ws ps)) (by unfold slotSpecs; simp)
  refine Nat.le_trans (layP_size _ 9000 fun f hf => ?_) (show 9 + 3 * 9010 ≤ 28000 by decide)
  unfold slotSpecs at hf
  simp only [List.mem_cons, List.not_mem_nil, or_false] at hf
  rcases hf with rfl | rfl | rfl
  · exact ⟨Nat.le_refl _, sigSz h1⟩
  · exact ⟨Nat.le_refl _, Nat.le_trans (numP_size _) (by decide)⟩
  · exact ⟨Nat.le_refl _, Nat.le_trans (numP_size _) (by decide)⟩
end Go.Proofs.YtihiaopilnjonaaGreatDoor
namespace Go.Proofs.YtihiaopilnjonaaGreatDoor
open Go.RowKit
set_option linter.unusedSimpArgs false
set_option linter.unusedVariables false
theorem extS_cell {VO : Nat → Option Nat} {w w1 : World} (h : ExtS VO w.drew w1) {b o : Nat} (hn : ∀ j, VO j ≠ some b) {v : Value} (hc : w.cell? ⟨b, o, none⟩ = some v) : w1.cell? ⟨b, o, none⟩ = some v := by
  rw [World.cell?_of_block (w := w) (h.block b (lt_of_cell hc) hn)]; exact hc
theorem told_none (w : World) : Calls Tryz.prog 31 #[.nilIface, .agg #[.int .i64 0, .int .i64 0]] w fun e w' => e = .returned (.bool true) ∧ Below w.heap.size w w' := by
  go_enter Tryz.func31, Tryz.ntmps31
  go_wp2
  go_ret
  exact ⟨rfl, by (repeat (first | exact Below.refl _ _ | assumption | (refine bdrew ?_) | (refine bdrewN ?_ _) | (refine balloc ?_ _) | (refine bset ?_ (by first | omega | (simp; done) | (simp; omega)) _) | (refine bnext ?_ (by assumption))))⟩
set_option maxRecDepth 100000 in
set_option maxHeartbeats 4000000 in
theorem told_fault (fb : Nat) (k : Int) (a : Nat) (w : World) (het : ErrType w) (h : FltB w fb k a) (hk : k ≠ 0) (hg : 0 < w.heap.size) : Calls Tryz.prog 31 #[.iface 127 (.pointer (some ⟨fb, 0, none⟩)), .agg #[.int .i64 k, .int .i64 a]] w fun e w' => e = .returned (.bool true) ∧ Below w.heap.size w w' := by
  have H := Lib.hid h
  have HET0 := Lib.hid het
  have hk1 : (k == 0) = false := by simpa using hk
  have hfl := lt_of_block h
  clear h het hk
  go_enter Tryz.func31, Tryz.ntmps31
  go_upto_region 4 with fail
  obtain ⟨b3, hb3⟩ : ∃ b3, w.heap.size = b3 := ⟨_, rfl⟩
  obtain ⟨W, hW⟩ : ∃ W, (w.alloc (.cells #[.int .i64 k, .int .i64 a] 63)).alloc (.cells #[.pointer none] 127) = W := ⟨_, rfl⟩
  have WB : Hid (Below w.heap.size w W) := Lib.hid (by rw [← hW]; exact balloc (balloc (Below.refl _ _) _) _)
  have W3 : Hid (W.heap[b3]? = some (.cells #[.int .i64 k, .int .i64 a] 63 (0, 0))) := Lib.hid (by rw [← hW, ← hb3]; exact block_alloc (heap_alloc_new _ _) _)
  obtain ⟨gb, hgb⟩ : ∃ gb, b3 + 1 = gb := ⟨_, rfl⟩
  have WG : Hid (W.heap[gb]? = some (.cells #[.pointer none] 127 (0, 0))) := Lib.hid (by rw [← hW, ← hgb]; exact alloc_new_at _ (by simp [hb3]))
  try rw [hW]
  try simp only [hb3, hgb]
  have hyg : fb ≠ gb := by omega
  have hzg : b3 ≠ gb := by omega
  have hgg : 0 ≠ gb := by omega
  have HET : Hid (ErrType W) := Lib.hid (HET0.out.below WB.out)
  have y0 : W.cell? ⟨fb, 0, none⟩ = some (.int .i64 k) := block_cell (H.out.below WB.out) 0
  have y1 : W.cell? ⟨fb, 1, none⟩ = some (.int .i64 a) := block_cell (H.out.below WB.out) 1
  have z0 : W.cell? ⟨b3, 0, none⟩ = some (.int .i64 k) := block_cell W3.out 0
  have z1 : W.cell? ⟨b3, 1, none⟩ = some (.int .i64 a) := block_cell W3.out 1
  have HGB : Hid (w.heap.size ≤ gb) := Lib.hid (by omega)
  clear hW hb3 hgb
  obtain ⟨VO, hVO⟩ : ∃ VO : Nat → Option Nat, VO = fun j => if j = 2 then some (gb) else none := ⟨_, rfl⟩
  have vok : VO 2 = some (gb) := by rw [hVO]; rfl
  have von : ∀ j, j ≠ 2 → VO j = none := fun j h1 => by rw [hVO]; simp [h1]
  have vob : ∀ j b, b ≠ gb → VO j ≠ some b := fun j b hb => by
    by_cases h : j = 2
    · subst h; rw [vok]; simp; exact fun e => hb e.symm
    · rw [von j h]; simp
  clear hVO
  have xrefl : ∀ j w, (fun (_ : Nat) (w1 w2 : World) => w1.heap[gb]? = some (.cells #[.pointer (some ⟨fb, 0, none⟩)] 127 (0, 0)) → w2.heap[gb]? = some (.cells #[.pointer (some ⟨fb, 0, none⟩)] 127 (0, 0))) j w w := fun j w h => h
  have voi : ∀ i j b, VO i = some b → VO j = some b → i = j := fun i j b h1 h2 => by
    by_cases e1 : i = 2
    · by_cases e2 : j = 2
      · rw [e1, e2]
      · rw [von j e2] at h2; cases h2
    · rw [von i e1] at h1; cases h1
  refine wp_region_tailV 17 VO voi (fun (_ : Nat) (w1 w2 : World) => w1.heap[gb]? = some (.cells #[.pointer (some ⟨fb, 0, none⟩)] 127 (0, 0)) → w2.heap[gb]? = some (.cells #[.pointer (some ⟨fb, 0, none⟩)] 127 (0, 0))) (fun _ => True) (fun _ _ _ _ _ => True) xrefl trivial (phis [fun u _ => u = (.iface 127 (.pointer (some ⟨fb, 0, none⟩))), fun u _ => u = (.iface 129 (.pointer (some ⟨gb, 0, none⟩))), fun u w' => u = .bool true ∧ w'.heap[gb]? = some (.cells #[.pointer (some ⟨fb, 0, none⟩)] 127 (0, 0)), fun u w' => u = .bool true ∧ w'.heap[gb]? = some (.cells #[.pointer (some ⟨fb, 0, none⟩)] 127 (0, 0)), fun u _ => u = (.pointer (some ⟨fb, 0, none⟩)), fun u _ => u = (.pointer (some ⟨fb, 0, none⟩)), fun u _ => u = (.agg #[.int .i64 k, .int .i64 a]), fun u _ => u = (.agg #[.int .i64 k, .int .i64 a]), fun u _ => u = (.bool true), fun u _ => u = (.bool true), fun u _ => u = (.bool true), fun u _ => u = (.iface 127 (.pointer (some ⟨fb, 0, none⟩))), fun u _ => u = (.pointer (some ⟨b3, 0, none⟩)), fun u _ => u = (.int .i64 k), fun u _ => u = (.iface 30 (.int .i64 k)), fun u _ => u = (.bool true), fun u _ => u = (.bool true)]) rfl (by kernel_rfl) (by kernel_rfl) (monoV_of ⟨monoV_eq, monoV_eq, ?m2, ?m3, monoV_eq, monoV_eq, monoV_eq, monoV_eq, monoV_eq, monoV_eq, monoV_eq, monoV_eq, monoV_eq, monoV_eq, monoV_eq, monoV_eq, monoV_eq, trivial⟩) (fun _ _ _ _ _ => trivial) (fun _ _ _ _ _ _ _ _ _ _ _ => trivial) (stepsV_of 17 ⟨?s0, ?s1, ?s2, ?s3, ?s4, ?s5, ?s6, ?s7, ?s8, ?s9, ?s10, ?s11, ?s12, ?s13, ?s14, ?s15, ?s16, trivial⟩) ?_
  case m2 =>
    exact fun j hj u w1 w2 he ⟨h1, h2⟩ => ⟨h1, he.2 h2⟩
  case m3 =>
    exact fun j hj u w1 w2 he ⟨h1, h2⟩ => ⟨h1, he.2 h2⟩
  case s0 =>
    refine stepV_val (v := (.iface 127 (.pointer (some ⟨fb, 0, none⟩)))) xrefl (fun _ _ _ _ => ⟨trivial, trivial⟩) (fun D av wv hE hO hD => ?_) (fun _ => rfl)
    have h0 : av.eval (.tmp 0) = (.iface 127 (.pointer (some ⟨fb, 0, none⟩))) := hO.2.2 0 rfl
    have f0 := (ev_form av 0).symm.trans h0
    refine ⟨rfl, ?_⟩
    simp [go_sem, f0]
  case s1 =>
    refine stepV_val (v := (.iface 129 (.pointer (some ⟨gb, 0, none⟩)))) xrefl (fun _ _ _ _ => ⟨trivial, trivial⟩) (fun D av wv hE hO hD => ?_) (fun _ => rfl)
    have h5 : av.eval (.tmp 5) = (.pointer (some ⟨gb, 0, none⟩)) := hO.2.2 5 rfl
    have f5 := (ev_form av 5).symm.trans h5
    refine ⟨rfl, ?_⟩
    simp [go_sem, f5]
  case s2 =>
    refine stepV_wp (fun D av wv hPP hE hO hD => ?_)
    have d20 : av.eval (.tmp 20) = (.iface 127 (.pointer (some ⟨fb, 0, none⟩))) := hD.1 rfl _ rfl
    have f20 := (ev_form av 20).symm.trans d20
    have d21 : av.eval (.tmp 21) = (.iface 129 (.pointer (some ⟨gb, 0, none⟩))) := hD.2.1 rfl _ rfl
    have f21 := (ev_form av 21).symm.trans d21
    refine ⟨rfl, ?_⟩
    have hg0 : wv.heap[gb]? = some (.cells #[.pointer none] 127 (0, 0)) := (hE.own gb vok (lt_of_block WG.out)).trans WG.out
    have het : ErrType wv := extS_cell hE.ext (fun j => vob j _ hgg) HET.out
    refine wp_of_callR (f := 71) (args := #[.iface 127 (.pointer (some ⟨fb, 0, none⟩)), .iface 129 (.pointer (some ⟨gb, 0, none⟩))]) (R := fun u w2 => (u = .bool true ∧ w2.heap[gb]? = some (.cells #[.pointer (some ⟨fb, 0, none⟩)] 127 (0, 0))) ∧ ExtB (some gb) wv w2) (by simp [go_sem, f20, f21]) ((as_fault fb gb none wv het hg0).mono (fun e w2 ⟨h1, h2, h3⟩ => ⟨_, h1, ⟨rfl, h3⟩, h2⟩)) (fun u w2 ⟨h1, h2⟩ => ⟨u, rfl, ⟨by rw [vok]; exact h2, fun _ => h1.2⟩, h1, fun _ _ _ _ _ => ⟨trivial, trivial⟩⟩)
  case s3 =>
    refine stepV_wp (fun D av wv hPP hE hO hD => ?_)
    have d22 : (fun u w' => u = .bool true ∧ w'.heap[gb]? = some (.cells #[.pointer (some ⟨fb, 0, none⟩)] 127 (0, 0))) (av.eval (.tmp 22)) wv := hD.1 rfl _ rfl
    refine ⟨rfl, ?_⟩
    obtain ⟨g1, g2⟩ := d22
    have f22 := (ev_form av 22).symm.trans g1
    exact wp_of_run (v := .bool true) (by simp [go_sem, f22]) ⟨_, rfl, esV_of_ext (Ext_refl _) (xrefl 0 _), ⟨rfl, g2⟩, fun _ _ _ _ _ => ⟨trivial, trivial⟩⟩
  case s4 =>
    refine stepV_val (v := (.pointer (some ⟨fb, 0, none⟩))) xrefl (fun _ _ _ _ => ⟨trivial, trivial⟩) (fun D av wv hE hO hD => ?_) (fun _ => rfl)
    have h5 : av.eval (.tmp 5) = (.pointer (some ⟨gb, 0, none⟩)) := hO.2.2 5 rfl
    have f5 := (ev_form av 5).symm.trans h5
    have d23 : (fun u w' => u = .bool true ∧ w'.heap[gb]? = some (.cells #[.pointer (some ⟨fb, 0, none⟩)] 127 (0, 0))) (av.eval (.tmp 23)) wv := hD.1 rfl _ rfl
    have g23 : av.eval (.tmp 23) = .bool true := d23.1
    have f23 := (ev_form av 23).symm.trans g23
    have y0 := extS_cell hE.ext (fun j => vob j _ hyg) y0
    have y1 := extS_cell hE.ext (fun j => vob j _ hyg) y1
    have z0 := extS_cell hE.ext (fun j => vob j _ hzg) z0
    have z1 := extS_cell hE.ext (fun j => vob j _ hzg) z1
    refine ⟨(wanted_of (d := 23) (b := true) (want := true) rfl rfl rfl g23), ?_⟩
    have q0 : wv.cell? ⟨gb, 0, none⟩ = some (.pointer (some ⟨fb, 0, none⟩)) := block_cell d23.2 0
    simp [go_sem, f5, q0]
  case s5 =>
    refine stepV_val (v := (.pointer (some ⟨fb, 0, none⟩))) xrefl (fun _ _ _ _ => ⟨trivial, trivial⟩) (fun D av wv hE hO hD => ?_) (fun _ => rfl)
    have d24 : av.eval (.tmp 24) = (.pointer (some ⟨fb, 0, none⟩)) := hD.1 rfl _ rfl
    have f24 := (ev_form av 24).symm.trans d24
    have d23 : (fun u w' => u = .bool true ∧ w'.heap[gb]? = some (.cells #[.pointer (some ⟨fb, 0, none⟩)] 127 (0, 0))) (av.eval (.tmp 23)) wv := hD.2.1 rfl _ rfl
    have g23 : av.eval (.tmp 23) = .bool true := d23.1
    have f23 := (ev_form av 23).symm.trans g23
    refine ⟨(wanted_of (d := 23) (b := true) (want := true) rfl rfl rfl g23), ?_⟩
    simp [go_sem, f24, f23]
  case s6 =>
    refine stepV_val (v := (.agg #[.int .i64 k, .int .i64 a])) xrefl (fun _ _ _ _ => ⟨trivial, trivial⟩) (fun D av wv hE hO hD => ?_) (fun _ => rfl)
    have d25 : av.eval (.tmp 25) = (.pointer (some ⟨fb, 0, none⟩)) := hD.1 rfl _ rfl
    have f25 := (ev_form av 25).symm.trans d25
    have d23 : (fun u w' => u = .bool true ∧ w'.heap[gb]? = some (.cells #[.pointer (some ⟨fb, 0, none⟩)] 127 (0, 0))) (av.eval (.tmp 23)) wv := hD.2.1 rfl _ rfl
    have g23 : av.eval (.tmp 23) = .bool true := d23.1
    have f23 := (ev_form av 23).symm.trans g23
    have y0 := extS_cell hE.ext (fun j => vob j _ hyg) y0
    have y1 := extS_cell hE.ext (fun j => vob j _ hyg) y1
    have z0 := extS_cell hE.ext (fun j => vob j _ hzg) z0
    have z1 := extS_cell hE.ext (fun j => vob j _ hzg) z1
    refine ⟨(wanted_of (d := 23) (b := true) (want := true) rfl rfl rfl g23), ?_⟩
    simp [go_sem, f25, f23, y0, y1, z0, z1]
  case s7 =>
    refine stepV_val (v := (.agg #[.int .i64 k, .int .i64 a])) xrefl (fun _ _ _ _ => ⟨trivial, trivial⟩) (fun D av wv hE hO hD => ?_) (fun _ => rfl)
    have h3 : av.eval (.tmp 3) = (.pointer (some ⟨b3, 0, none⟩)) := hO.2.2 3 rfl
    have f3 := (ev_form av 3).symm.trans h3
    have d23 : (fun u w' => u = .bool true ∧ w'.heap[gb]? = some (.cells #[.pointer (some ⟨fb, 0, none⟩)] 127 (0, 0))) (av.eval (.tmp 23)) wv := hD.1 rfl _ rfl
    have g23 : av.eval (.tmp 23) = .bool true := d23.1
    have f23 := (ev_form av 23).symm.trans g23
    have y0 := extS_cell hE.ext (fun j => vob j _ hyg) y0
    have y1 := extS_cell hE.ext (fun j => vob j _ hyg) y1
    have z0 := extS_cell hE.ext (fun j => vob j _ hzg) z0
    have z1 := extS_cell hE.ext (fun j => vob j _ hzg) z1
    refine ⟨(wanted_of (d := 23) (b := true) (want := true) rfl rfl rfl g23), ?_⟩
    simp [go_sem, f3, f23, y0, y1, z0, z1]
  case s8 =>
    refine stepV_val (v := (.bool true)) xrefl (fun _ _ _ _ => ⟨trivial, trivial⟩) (fun D av wv hE hO hD => ?_) (fun _ => rfl)
    have d26 : av.eval (.tmp 26) = (.agg #[.int .i64 k, .int .i64 a]) := hD.1 rfl _ rfl
    have f26 := (ev_form av 26).symm.trans d26
    have d27 : av.eval (.tmp 27) = (.agg #[.int .i64 k, .int .i64 a]) := hD.2.1 rfl _ rfl
    have f27 := (ev_form av 27).symm.trans d27
    have d23 : (fun u w' => u = .bool true ∧ w'.heap[gb]? = some (.cells #[.pointer (some ⟨fb, 0, none⟩)] 127 (0, 0))) (av.eval (.tmp 23)) wv := hD.2.2.1 rfl _ rfl
    have g23 : av.eval (.tmp 23) = .bool true := d23.1
    have f23 := (ev_form av 23).symm.trans g23
    refine ⟨(wanted_of (d := 23) (b := true) (want := true) rfl rfl rfl g23), ?_⟩
    simp [go_sem, f26, f27, f23]
  case s9 =>
    refine stepV_val (v := (.bool true)) xrefl (fun _ _ _ _ => ⟨trivial, trivial⟩) (fun D av wv hE hO hD => ?_) (fun _ => rfl)
    have d23 : (fun u w' => u = .bool true ∧ w'.heap[gb]? = some (.cells #[.pointer (some ⟨fb, 0, none⟩)] 127 (0, 0))) (av.eval (.tmp 23)) wv := hD.1 rfl _ rfl
    have g23 : av.eval (.tmp 23) = .bool true := d23.1
    have f23 := (ev_form av 23).symm.trans g23
    have d28 : av.eval (.tmp 28) = (.bool true) := hD.2.1 rfl _ rfl
    have f28 := (ev_form av 28).symm.trans d28
    refine ⟨rfl, ?_⟩
    simp [go_sem, f23, f28]
  case s10 =>
    refine stepV_val (v := (.bool true)) xrefl (fun _ _ _ _ => ⟨trivial, trivial⟩) (fun D av wv hE hO hD => ?_) (fun _ => rfl)
    have d29 : av.eval (.tmp 29) = (.bool true) := hD.1 rfl _ rfl
    have f29 := (ev_form av 29).symm.trans d29
    refine ⟨rfl, ?_⟩
    simp [go_sem, f29]
  case s11 =>
    refine stepV_val (v := (.iface 127 (.pointer (some ⟨fb, 0, none⟩)))) xrefl (fun _ _ _ _ => ⟨trivial, trivial⟩) (fun D av wv hE hO hD => ?_) (fun _ => rfl)
    have h0 : av.eval (.tmp 0) = (.iface 127 (.pointer (some ⟨fb, 0, none⟩))) := hO.2.2 0 rfl
    have f0 := (ev_form av 0).symm.trans h0
    have d30 : av.eval (.tmp 30) = (.bool true) := hD.1 rfl _ rfl
    have f30 := (ev_form av 30).symm.trans d30
    refine ⟨(wanted_of (d := 30) (b := true) (want := true) rfl rfl rfl d30), ?_⟩
    simp [go_sem, f0, f30]
  case s12 =>
    refine stepV_val (v := (.pointer (some ⟨b3, 0, none⟩))) xrefl (fun _ _ _ _ => ⟨trivial, trivial⟩) (fun D av wv hE hO hD => ?_) (fun _ => rfl)
    have h3 : av.eval (.tmp 3) = (.pointer (some ⟨b3, 0, none⟩)) := hO.2.2 3 rfl
    have f3 := (ev_form av 3).symm.trans h3
    have d30 : av.eval (.tmp 30) = (.bool true) := hD.1 rfl _ rfl
    have f30 := (ev_form av 30).symm.trans d30
    refine ⟨(wanted_of (d := 30) (b := true) (want := true) rfl rfl rfl d30), ?_⟩
    simp [go_sem, f3, f30]
  case s13 =>
    refine stepV_val (v := (.int .i64 k)) xrefl (fun _ _ _ _ => ⟨trivial, trivial⟩) (fun D av wv hE hO hD => ?_) (fun _ => rfl)
    have d32 : av.eval (.tmp 32) = (.pointer (some ⟨b3, 0, none⟩)) := hD.1 rfl _ rfl
    have f32 := (ev_form av 32).symm.trans d32
    have d30 : av.eval (.tmp 30) = (.bool true) := hD.2.1 rfl _ rfl
    have f30 := (ev_form av 30).symm.trans d30
    have y0 := extS_cell hE.ext (fun j => vob j _ hyg) y0
    have y1 := extS_cell hE.ext (fun j => vob j _ hyg) y1
    have z0 := extS_cell hE.ext (fun j => vob j _ hzg) z0
    have z1 := extS_cell hE.ext (fun j => vob j _ hzg) z1
    refine ⟨(wanted_of (d := 30) (b := true) (want := true) rfl rfl rfl d30), ?_⟩
    simp [go_sem, f32, f30, y0, y1, z0, z1]
  case s14 =>
    refine stepV_val (v := (.iface 30 (.int .i64 k))) xrefl (fun _ _ _ _ => ⟨trivial, trivial⟩) (fun D av wv hE hO hD => ?_) (fun _ => rfl)
    have d33 : av.eval (.tmp 33) = (.int .i64 k) := hD.1 rfl _ rfl
    have f33 := (ev_form av 33).symm.trans d33
    have d30 : av.eval (.tmp 30) = (.bool true) := hD.2.1 rfl _ rfl
    have f30 := (ev_form av 30).symm.trans d30
    refine ⟨(wanted_of (d := 30) (b := true) (want := true) rfl rfl rfl d30), ?_⟩
    simp [go_sem, f33, f30]
  case s15 =>
    refine stepV_wp (fun D av wv hPP hE hO hD => ?_)
    have d31 : av.eval (.tmp 31) = (.iface 127 (.pointer (some ⟨fb, 0, none⟩))) := hD.1 rfl _ rfl
    have f31 := (ev_form av 31).symm.trans d31
    have d34 : av.eval (.tmp 34) = (.iface 30 (.int .i64 k)) := hD.2.1 rfl _ rfl
    have f34 := (ev_form av 34).symm.trans d34
    have d30 : av.eval (.tmp 30) = (.bool true) := hD.2.2.1 rfl _ rfl
    have f30 := (ev_form av 30).symm.trans d30
    refine ⟨(wanted_of (d := 30) (b := true) (want := true) rfl rfl rfl d30), ?_⟩
    refine wp_of_callR (f := 72) (args := #[.iface 127 (.pointer (some ⟨fb, 0, none⟩)), .iface 30 (.int .i64 k)]) (R := fun u w2 => u = .bool true ∧ w2 = wv) (by simp [go_sem, f31, f34]) ((is_fault fb k k wv (extS_cell hE.ext (fun j => vob j _ hyg) y0)).mono (fun e w2 ⟨h1, h2⟩ => ⟨_, h1, by simp, h2⟩)) (fun u w2 ⟨h1, h2⟩ => ⟨u, rfl, esV_of_ext (by rw [h2]; exact Ext_refl _) (by rw [h2]; exact xrefl 0 _), h1, fun _ _ _ _ _ => ⟨trivial, trivial⟩⟩)
  case s16 =>
    refine stepV_val (v := (.bool true)) xrefl (fun _ _ _ _ => ⟨trivial, trivial⟩) (fun D av wv hE hO hD => ?_) (fun _ => rfl)
    have d30 : av.eval (.tmp 30) = (.bool true) := hD.1 rfl _ rfl
    have f30 := (ev_form av 30).symm.trans d30
    have d35 : av.eval (.tmp 35) = (.bool true) := hD.2.1 rfl _ rfl
    have f35 := (ev_form av 35).symm.trans d35
    refine ⟨rfl, ?_⟩
    simp [go_sem, f30, f35]
  intro a' w' hE _ hO hall _
  have hA := act_of_outer (ds := [20, 21, 22, 23, 24, 25, 26, 27, 28, 29, 30, 31, 32, 33, 34, 35, 36]) rfl hO (by kernel_rfl)
  have e20 : (fun u _ => u = (.iface 127 (.pointer (some ⟨fb, 0, none⟩)))) (a'.eval (.tmp 20)) w' := hall.1 _ rfl
  have e21 : (fun u _ => u = (.iface 129 (.pointer (some ⟨gb, 0, none⟩)))) (a'.eval (.tmp 21)) w' := hall.2.1 _ rfl
  have e22 : (fun u w' => u = .bool true ∧ w'.heap[gb]? = some (.cells #[.pointer (some ⟨fb, 0, none⟩)] 127 (0, 0))) (a'.eval (.tmp 22)) w' := hall.2.2.1 _ rfl
  have e23 : (fun u w' => u = .bool true ∧ w'.heap[gb]? = some (.cells #[.pointer (some ⟨fb, 0, none⟩)] 127 (0, 0))) (a'.eval (.tmp 23)) w' := hall.2.2.2.1 _ rfl
  have e24 : (fun u _ => u = (.pointer (some ⟨fb, 0, none⟩))) (a'.eval (.tmp 24)) w' := hall.2.2.2.2.1 _ rfl
  have e25 : (fun u _ => u = (.pointer (some ⟨fb, 0, none⟩))) (a'.eval (.tmp 25)) w' := hall.2.2.2.2.2.1 _ rfl
  have e26 : (fun u _ => u = (.agg #[.int .i64 k, .int .i64 a])) (a'.eval (.tmp 26)) w' := hall.2.2.2.2.2.2.1 _ rfl
  have e27 : (fun u _ => u = (.agg #[.int .i64 k, .int .i64 a])) (a'.eval (.tmp 27)) w' := hall.2.2.2.2.2.2.2.1 _ rfl
  have e28 : (fun u _ => u = (.bool true)) (a'.eval (.tmp 28)) w' := hall.2.2.2.2.2.2.2.2.1 _ rfl
  have e29 : (fun u _ => u = (.bool true)) (a'.eval (.tmp 29)) w' := hall.2.2.2.2.2.2.2.2.2.1 _ rfl
  have e30 : (fun u _ => u = (.bool true)) (a'.eval (.tmp 30)) w' := hall.2.2.2.2.2.2.2.2.2.2.1 _ rfl
  have e31 : (fun u _ => u = (.iface 127 (.pointer (some ⟨fb, 0, none⟩)))) (a'.eval (.tmp 31)) w' := hall.2.2.2.2.2.2.2.2.2.2.2.1 _ rfl
  have e32 : (fun u _ => u = (.pointer (some ⟨b3, 0, none⟩))) (a'.eval (.tmp 32)) w' := hall.2.2.2.2.2.2.2.2.2.2.2.2.1 _ rfl
  have e33 : (fun u _ => u = (.int .i64 k)) (a'.eval (.tmp 33)) w' := hall.2.2.2.2.2.2.2.2.2.2.2.2.2.1 _ rfl
  have e34 : (fun u _ => u = (.iface 30 (.int .i64 k))) (a'.eval (.tmp 34)) w' := hall.2.2.2.2.2.2.2.2.2.2.2.2.2.2.1 _ rfl
  have e35 : (fun u _ => u = (.bool true)) (a'.eval (.tmp 35)) w' := hall.2.2.2.2.2.2.2.2.2.2.2.2.2.2.2.1 _ rfl
  have e36 : (fun u _ => u = (.bool true)) (a'.eval (.tmp 36)) w' := hall.2.2.2.2.2.2.2.2.2.2.2.2.2.2.2.2.1 _ rfl
  obtain ⟨v22, hv22⟩ : ∃ v, a'.eval (.tmp 22) = v := ⟨_, rfl⟩
  rw [hv22] at e22
  obtain ⟨v23, hv23⟩ : ∃ v, a'.eval (.tmp 23) = v := ⟨_, rfl⟩
  rw [hv23] at e23
  simp only [List.foldl_cons, List.foldl_nil, Act.put, List.setIfInBounds_toArray, List.set_cons_succ, List.set_cons_zero, e20, e21, hv22, hv23, e24, e25, e26, e27, e28, e29, e30, e31, e32, e33, e34, e35, e36] at hA
  clear hO hall e20 e21 hv22 hv23 e24 e25 e26 e27 e28 e29 e30 e31 e32 e33 e34 e35 e36
  subst hA
  have HX : Hid (ExtS VO W w') := Lib.hid ⟨hE.os, hE.tape, hE.output, hE.size, hE.block⟩
  have HV : Hid (∀ j b, b ≠ gb → VO j ≠ some b) := Lib.hid vob
  clear hE vob von vok voi xrefl y0 y1 z0 z1
  go_wp2
  go_ret
  exact ⟨rfl, HX.out.os.trans WB.out.os, HX.out.tape.trans WB.out.tape, HX.out.output.trans WB.out.output, Nat.le_trans WB.out.size HX.out.size, fun i hi => (HX.out.block i (Nat.lt_of_lt_of_le hi WB.out.size) (fun j => HV.out j i (by have := HGB.out; omega))).trans (WB.out.block i hi)⟩
end Go.Proofs.YtihiaopilnjonaaGreatDoor
namespace Go.Proofs
set_option linter.unusedSimpArgs false
set_option linter.unusedVariables false
open Go.Shelf
def Tryz.lays105_ren : Go.Shelf.Ren := ⟨fun | 105 => 102 | 212 => 164 | 99 => 165 | 165 => 166 | 166 => 167 | 170 => 168 | 169 => 169 | 263 => 234 | 264 => 235 | 206 => 236 | 240 => 237 | 241 => 238 | 276 => 257 | 277 => 258 | n => n, fun | 9 => 9 | 3 => 3 | 4 => 4 | 20 => 20 | 0 => 0 | 46 => 251 | 109 => 252 | 5 => 5 | 72 => 257 | 76 => 259 | 51 => 315 | 146 => 316 | 53 => 23 | 148 => 318 | 70 => 255 | 37 => 106 | 75 => 59 | 127 => 320 | 164 => 211 | 80 => 144 | n => n, fun | n => n⟩
theorem Tryz.lays105 : Go.Proofs.Lays.n105 Tryz.prog Tryz.lays105_ren := {
  mixed := by kernel_rfl
  f99 := Tryz.func165.trans (congrArg some (by kernel_rfl))
  f105 := Tryz.func102.trans (congrArg some (by kernel_rfl))
  f165 := Tryz.func166.trans (congrArg some (by kernel_rfl))
  f166 := Tryz.func167.trans (congrArg some (by kernel_rfl))
  f169 := Tryz.func169.trans (congrArg some (by kernel_rfl))
  f170 := Tryz.func168.trans (congrArg some (by kernel_rfl))
  f206 := Tryz.func236.trans (congrArg some (by kernel_rfl))
  f212 := Tryz.func164.trans (congrArg some (by kernel_rfl))
  f240 := Tryz.func237.trans (congrArg some (by kernel_rfl))
  f241 := Tryz.func238.trans (congrArg some (by kernel_rfl))
  f263 := Tryz.func234.trans (congrArg some (by kernel_rfl))
  f264 := Tryz.func235.trans (congrArg some (by kernel_rfl))
  f276 := Tryz.func257.trans (congrArg some (by kernel_rfl))
  f277 := Tryz.func258.trans (congrArg some (by kernel_rfl))
  t0 := Tryz.underlying0
  a0 := Tryz.isAgg0
  z0 := Tryz.sizeOf0
  v0 := Tryz.zeroValue0
  t3 := Tryz.underlying3
  a3 := Tryz.isAgg3
  z3 := Tryz.sizeOf3
  v3 := Tryz.zeroValue3
  t4 := Tryz.underlying4
  a4 := Tryz.isAgg4
  z4 := Tryz.sizeOf4
  v4 := Tryz.zeroValue4
  t5 := Tryz.underlying5
  a5 := Tryz.isAgg5
  z5 := Tryz.sizeOf5
  v5 := Tryz.zeroValue5
  t9 := Tryz.underlying9
  a9 := Tryz.isAgg9
  z9 := Tryz.sizeOf9
  v9 := Tryz.zeroValue9
  t20 := Tryz.underlying20
  a20 := Tryz.isAgg20
  z20 := Tryz.sizeOf20
  v20 := Tryz.zeroValue20
  t37 := Tryz.underlying106
  a37 := Tryz.isAgg106
  z37 := Tryz.sizeOf106
  v37 := Tryz.zeroValue106
  t46 := Tryz.underlying251
  a46 := Tryz.isAgg251
  z46 := Tryz.sizeOf251
  v46 := Tryz.zeroValue251
  t51 := Tryz.underlying315
  a51 := Tryz.isAgg315
  z51 := Tryz.sizeOf315
  v51 := Tryz.zeroValue315
  t53 := Tryz.underlying23
  a53 := Tryz.isAgg23
  z53 := Tryz.sizeOf23
  v53 := Tryz.zeroValue23
  t70 := Tryz.underlying255
  a70 := Tryz.isAgg255
  z70 := Tryz.sizeOf255
  v70 := Tryz.zeroValue255
  t72 := Tryz.underlying257
  a72 := Tryz.isAgg257
  z72 := Tryz.sizeOf257
  v72 := Tryz.zeroValue257
  t75 := Tryz.underlying59
  a75 := Tryz.isAgg59
  z75 := Tryz.sizeOf59
  v75 := Tryz.zeroValue59
  t76 := Tryz.underlying259
  a76 := Tryz.isAgg259
  z76 := Tryz.sizeOf259
  v76 := Tryz.zeroValue259
  t109 := Tryz.underlying252
  a109 := Tryz.isAgg252
  z109 := Tryz.sizeOf252
  v109 := Tryz.zeroValue252
  t127 := Tryz.underlying320
  a127 := Tryz.isAgg320
  z127 := Tryz.sizeOf320
  v127 := Tryz.zeroValue320
  t146 := Tryz.underlying316
  a146 := Tryz.isAgg316
  z146 := Tryz.sizeOf316
  v146 := Tryz.zeroValue316
  t148 := Tryz.underlying318
  a148 := Tryz.isAgg318
  z148 := Tryz.sizeOf318
  v148 := Tryz.zeroValue318
  t164 := Tryz.underlying211
  a164 := Tryz.isAgg211
  z164 := Tryz.sizeOf211
  v164 := Tryz.zeroValue211 }
theorem Tryz.Builder_Extra_105 : Builder.Extra Tryz.prog Tryz.lays105_ren := {
  sizeBuilder := by kernel_rfl
  liesBuilder := by kernel_rfl
  t5 := Tryz.underlying5
  a5 := Tryz.isAgg5
  z5 := Tryz.sizeOf5
  v5 := Tryz.zeroValue5
  infoByte := by kernel_rfl
  cellsByte := by kernel_rfl
  sizeByte := by kernel_rfl
  neB5 := by decide }
open Go.RowKit Go.Lib in
theorem Tryz.strings_Repeat (s : ByteArray) (c : Nat) (w : World) (hc : c ≤ 9223372036854775807) (hlen : s.size * c ≤ 140737488355328) :
    Calls Tryz.prog 102 #[.string s, .int .i64 c] w fun e w' => e = .returned (.string ⟨(Lib.repeatL s.data.toList c).toArray⟩) ∧ Below w.heap.size w w' := Any.strings_Repeat Tryz.lays105 Tryz.Builder_Extra_105 s c w hc hlen
end Go.Proofs
namespace Go.Proofs.YtihiaopilnjonaaGreatDoor
open Go.RowKit
set_option linter.unusedSimpArgs false
set_option linter.unusedVariables false
def fullR : ByteArray := ⟨(Go.Lib.repeatL [114] 32).toArray⟩
theorem full_any (w : World) : Calls Tryz.prog 54 #[.string ⟨#[114]⟩] w fun e w' => e = .returned (.string fullR) ∧ Below w.heap.size w w' := by
  go_enter Tryz.func54, Tryz.ntmps54
  go_wp2_with fail
  refine (Tryz.strings_Repeat ⟨#[114]⟩ 32 _ (by decide) (by decide)).mono ?_
  rintro e w1 ⟨rfl, hb⟩
  go_wp2
  go_ret
  exact ⟨rfl, hb⟩
end Go.Proofs.YtihiaopilnjonaaGreatDoor
namespace Go.Proofs.YtihiaopilnjonaaGreatDoor
open Go.RowKit
set_option linter.unusedSimpArgs false
set_option linter.unusedVariables false
theorem wk_may1 : allMay (partSpecs fullR 300 0 2 3) = true := by kernel_rfl
theorem wk_lay1 : layP (partSpecs fullR 300 0 2 3) = ⟨#[132, 161, 107, 3, 161, 108, 2, 161, 114, 196, 32, 114, 114, 114, 114, 114, 114, 114, 114, 114, 114, 114, 114, 114, 114, 114, 114, 114, 114, 114, 114, 114, 114, 114, 114, 114, 114, 114, 114, 114, 114, 114, 114, 161, 119, 205, 1, 44]⟩ := by kernel_rfl
theorem wk_same1 : ((⟨#[132, 161, 107, 3, 161, 108, 2, 161, 114, 196, 32, 114, 114, 114, 114, 114, 114, 114, 114, 114, 114, 114, 114, 114, 114, 114, 114, 114, 114, 114, 114, 114, 114, 114, 114, 114, 114, 114, 114, 114, 114, 114, 114, 161, 119, 205, 1, 44]⟩ : ByteArray).toList == ((⟨#[132, 161, 107, 3, 161, 108, 2, 161, 114, 196, 32]⟩ : ByteArray) ++ fullR ++ ⟨#[161, 119, 205, 1, 44]⟩).toList) = true := by kernel_rfl
theorem wk_may2 : allMay (slotSpecs 0 false 0 [] []) = true := by kernel_rfl
theorem wk_lay2 : layP (slotSpecs 0 false 0 [] []) = ⟨#[128]⟩ := by kernel_rfl
theorem wk_may3 : allMay (slotSpecs 5 true 0 [] []) = true := by kernel_rfl
theorem wk_lay3 : layP (slotSpecs 5 true 0 [] []) = ⟨#[130, 161, 108, 5, 161, 115, 1]⟩ := by kernel_rfl
theorem wk_may4 : allMay (partSpecs (fullR.extract 1 fullR.size) 0 0 0 0) = false := by kernel_rfl
theorem wk_may5 : allMay (msgSpecs ⟨#[]⟩ ⟨#[]⟩ 0 0 0 0) = false := by kernel_rfl
theorem wk_rd1 : readR ⟨#[128]⟩ (slotGs ⟨#[128]⟩ 0) slot0 = .ok slot0 := by kernel_rfl
theorem wk_rd2 : readR ⟨#[129, 161, 108, 0]⟩ (slotGs ⟨#[129, 161, 108, 0]⟩ 0) slot0 = .error (5, 0) := by kernel_rfl
theorem wk_rd3 : readR ⟨#[130, 161, 115, 1, 161, 108, 5]⟩ (slotGs ⟨#[130, 161, 115, 1, 161, 108, 5]⟩ 0) slot0 = .error (5, 0) := by kernel_rfl
theorem wk_rd4 : readR ⟨#[129, 161, 115, 2]⟩ (slotGs ⟨#[129, 161, 115, 2]⟩ 0) slot0 = .error (5, 0) := by kernel_rfl
theorem wk_rd5 : readR ⟨#[128, 128]⟩ (slotGs ⟨#[128, 128]⟩ 0) slot0 = .error (5, 1) := by kernel_rfl
theorem wk_rd6 : readR ⟨#[128]⟩ (partGs ⟨#[128]⟩ 0) part0 = .error (5, 0) := by kernel_rfl
theorem wk_rd7 : readR ⟨#[]⟩ (partGs ⟨#[]⟩ 0) part0 = .error (4, 0) := by kernel_rfl
theorem wk_rd8 : readR ⟨#[129, 161, 119, 204, 5]⟩ (partGs ⟨#[129, 161, 119, 204, 5]⟩ 0) part0 = .error (5, 3) := by kernel_rfl
def bdS : Nat → ByteArray
  | 0 => ⟨#[129, 161, 108, 0]⟩
  | 1 => ⟨#[130, 161, 115, 1, 161, 108, 5]⟩
  | _ => ⟨#[129, 161, 115, 2]⟩
theorem bdS_rd (m : Nat) : readR (bdS m) (slotGs (bdS m) 0) slot0 = .error (5, 0) := by
  match m with
  | 0 => exact wk_rd2
  | 1 => exact wk_rd3
  | _ + 2 => exact wk_rd4
theorem bdS_size (m : Nat) : (bdS m).size ≤ 9223372036854775807 := by
  match m with
  | 0 => decide
  | 1 => decide
  | _ + 2 => exact (show (4 : Nat) ≤ 9223372036854775807 by decide)
theorem bdS_at (m : Nat) (h : m < 3) : (#[Value.string ⟨#[129, 161, 108, 0]⟩, .string ⟨#[130, 161, 115, 1, 161, 108, 5]⟩, .string ⟨#[129, 161, 115, 2]⟩] : Array Value)[m]? = some (.string (bdS m)) := by
  match m, h with
  | 0, _ => rfl
  | 1, _ => rfl
  | 2, _ => rfl
end Go.Proofs.YtihiaopilnjonaaGreatDoor
namespace Go.Proofs.YtihiaopilnjonaaGreatDoor
open Go.RowKit
set_option linter.unusedSimpArgs false
set_option linter.unusedVariables false
structure TE7 (B : Nat) (w : World) : Prop where
  p : PTab B w
  t : Tabs B w
  e : ErrType w
  s : B ≤ w.heap.size
  g : 0 < B
theorem TE7.below {B : Nat} {w w' : World} (h : TE7 B w) (hb : Below w.heap.size w w') : TE7 B w' := ⟨h.p.keep hb h.s, h.t.below hb, h.e.below hb, Nat.le_trans h.s hb.size, h.g⟩
theorem readSlot_no (B : Nat) (s : ByteArray) (k : Int) (a : Nat) (w : World) (h : TE7 B w) (hs : s.size ≤ 9223372036854775807) (hr : readR s (slotGs s 0) slot0 = .error (k, a)) :
    Calls Tryz.prog 35 #[.string s] w fun e w' => ∃ fb, e = .returned (.tuple #[zeroSlot, .iface 127 (.pointer (some ⟨fb, 0, none⟩))]) ∧ FltB w' fb k a ∧ Below w.heap.size w w' := by
  refine (reaSlot_any B s w h.t h.e h.s h.g hs).mono ?_
  rintro e w' ⟨hb, hh⟩
  rw [hr] at hh
  obtain ⟨fb, he, hf⟩ := hh
  exact ⟨fb, he, hf, hb⟩
theorem readPart_no (B : Nat) (s : ByteArray) (k : Int) (a : Nat) (w : World) (h : TE7 B w) (hs : s.size ≤ 9223372036854775807) (hr : readR s (partGs s 0) part0 = .error (k, a)) :
    Calls Tryz.prog 29 #[.string s] w fun e w' => ∃ fb, e = .returned (.tuple #[zeroPart, .iface 127 (.pointer (some ⟨fb, 0, none⟩))]) ∧ FltB w' fb k a ∧ Below w.heap.size w w' := by
  refine (reaPart_any B s w h.t h.e h.s h.g hs).mono ?_
  rintro e w' ⟨hb, hh⟩
  rw [hr] at hh
  obtain ⟨fb, he, hf⟩ := hh
  exact ⟨fb, he, hf, hb⟩
theorem laid_yes {fs : List FSpec} {s : ByteArray} (h1 : allMay fs = true) (h2 : layP fs = s) {w w' : World} {e : Ending} (h : LaidIs fs w e w') : e = .returned (.tuple #[.string s, .int .i64 0]) ∧ Below w.heap.size w w' := by
  obtain ⟨h3, h4⟩ := h; rw [h1, if_pos rfl, h2] at h3; exact ⟨h3, h4⟩
theorem laid_no {fs : List FSpec} (h1 : allMay fs = false) {w w' : World} {e : Ending} (h : LaidIs fs w e w') : e = .returned (.tuple #[.string ⟨#[]⟩, .int .i64 2]) ∧ Below w.heap.size w w' := by
  obtain ⟨h3, h4⟩ := h; rw [h1, if_neg (by decide)] at h3; exact ⟨h3, h4⟩
set_option maxRecDepth 100000 in
set_option maxHeartbeats 4000000 in
theorem works7_any (B : Nat) (w : World) (h : TE7 B w) : Calls Tryz.prog 32 #[] w fun e w' => e = .returned (.bool true) ∧ Below w.heap.size w w' := by
  have HE := Lib.hid h
  clear h
  have hfs : (1 : Int) ≤ (fullR.size : Int) := by decide
  have hfn : (1 ≤ fullR.size) = True := by decide
  go_enter Tryz.func32, Tryz.ntmps32
  go_wp2_with fail
  refine (full_any w).mono ?_
  rintro e w1 ⟨rfl, hb⟩
  have HB := Lib.hid hb
  have HE := Lib.hid (HE.out.below hb)
  clear hb
  go_wp2_with fail
  refine (wpart_any B fullR 300 0 2 3 w1 HE.out.p (by decide) ⟨by decide, by decide⟩ ⟨by decide, by decide⟩ ⟨by decide, by decide⟩ ⟨by decide, by decide⟩ (by rw [wk_lay1]; decide)).mono ?_
  rintro e w2 hh
  obtain ⟨S1, hS1⟩ : ∃ S, layP (partSpecs fullR 300 0 2 3) = S := ⟨_, rfl⟩
  have HS1 := Lib.hid (hS1.symm.trans wk_lay1)
  obtain ⟨rfl, hb⟩ := laid_yes wk_may1 hS1 hh
  clear hS1
  have tS : (S1.toList == ((⟨#[132, 161, 107, 3, 161, 108, 2, 161, 114, 196, 32]⟩ : ByteArray) ++ fullR ++ ⟨#[161, 119, 205, 1, 44]⟩).toList) = true := by rw [HS1.out]; exact wk_same1
  have HB := Lib.hid (bnext HB.out hb)
  have HE := Lib.hid (HE.out.below hb)
  clear hb hh
  go_wp2_with fail
  refine (wslot_any B 0 false 0 none none 0 0 [] [] w2 HE.out.p (fun i hi => absurd hi (by simp [len])) (fun i hi => absurd hi (by simp [len])) (by decide) (by decide) (by decide) (by decide) (by decide) (by decide) (by rw [wk_lay2]; decide)).mono ?_
  rintro e w3 hh
  obtain ⟨rfl, hb⟩ := laid_yes wk_may2 wk_lay2 hh
  have HB := Lib.hid (bnext HB.out hb)
  have HE := Lib.hid (HE.out.below hb)
  clear hb hh
  go_wp2_with fail
  refine (wslot_any B 5 true 0 none none 0 0 [] [] w3 HE.out.p (fun i hi => absurd hi (by simp [len])) (fun i hi => absurd hi (by simp [len])) (by decide) (by decide) (by decide) (by decide) (by decide) (by decide) (by rw [wk_lay3]; decide)).mono ?_
  rintro e w4 hh
  obtain ⟨rfl, hb⟩ := laid_yes wk_may3 wk_lay3 hh
  have HB := Lib.hid (bnext HB.out hb)
  have HE := Lib.hid (HE.out.below hb)
  clear hb hh
  go_wp2_with fail
  refine (wpart_any B (fullR.extract 1 fullR.size) 0 0 0 0 w4 HE.out.p (by decide) ⟨by decide, by decide⟩ ⟨by decide, by decide⟩ ⟨by decide, by decide⟩ ⟨by decide, by decide⟩ (by decide)).mono ?_
  rintro e w5 hh
  obtain ⟨rfl, hb⟩ := laid_no wk_may4 hh
  have HB := Lib.hid (bnext HB.out hb)
  have HE := Lib.hid (HE.out.below hb)
  clear hb hh
  go_wp2_with fail
  refine (wmsg2_any B ⟨#[]⟩ ⟨#[]⟩ 0 0 0 0 w5 HE.out.p (by decide) (by decide) ⟨by decide, by decide⟩ ⟨by decide, by decide⟩ ⟨by decide, by decide⟩ ⟨by decide, by decide⟩ (by decide)).mono ?_
  rintro e w6 hh
  obtain ⟨rfl, hb⟩ := laid_no wk_may5 hh
  have HB := Lib.hid (bnext HB.out hb)
  have HE := Lib.hid (HE.out.below hb)
  clear hb hh
  go_wp2_with fail
  refine (reaSlot_any B ⟨#[128]⟩ w6 HE.out.t HE.out.e HE.out.s HE.out.g (by decide)).mono ?_
  rintro e w7 ⟨hb, hh⟩
  rw [wk_rd1] at hh
  obtain ⟨-, a3, c3, a4, c4, -, rfl⟩ := hh
  have HB := Lib.hid (bnext HB.out hb)
  have HE := Lib.hid (HE.out.below hb)
  clear hb tS
  go_wp2_with fail
  obtain ⟨sb, hsb⟩ : ∃ sb, w7.heap.size + 1 = sb := ⟨_, rfl⟩
  obtain ⟨W, hW⟩ : ∃ W, (w7.alloc (.cells #[.int .u64 0, .bool false, .int .u64 (slot0 2).n, .slice a3 (len (slot0 3).l) c3, .slice a4 (len (slot0 4).l) c4] 44)).alloc (.cells #[.string ⟨#[129, 161, 108, 0]⟩, .string ⟨#[130, 161, 115, 1, 161, 108, 5]⟩, .string ⟨#[129, 161, 115, 2]⟩] 9) = W := ⟨_, rfl⟩
  have HB : Hid (Below w.heap.size w W) := Lib.hid (by rw [← hW]; exact balloc (balloc HB.out _) _)
  have HE : Hid (TE7 B W) := Lib.hid (by rw [← hW]; exact HE.out.below (balloc (balloc (Below.refl _ _) _) _))
  have HS : Hid (W.heap[sb]? = some (.cells #[.string ⟨#[129, 161, 108, 0]⟩, .string ⟨#[130, 161, 115, 1, 161, 108, 5]⟩, .string ⟨#[129, 161, 115, 2]⟩] 9 (0, 0))) := Lib.hid (by rw [← hW, ← hsb]; exact alloc_new_at _ (by simp))
  rw [hW, hsb]
  clear hW hsb
  go_loopg [15] 3 (fun g i wr => ∃ m : Nat, g + m = 3 ∧ i = .int .i64 m ∧ Hid (Below W.heap.size W wr))
  case atStart => exact ⟨0, rfl, rfl, Below.refl _ _⟩
  case round =>
    obtain ⟨m, hg, rfl, HW⟩ := hrel
    by_cases hlt : m < 3
    · have c0 : wr.cell? ⟨sb, m, none⟩ = some (.string (bdS m)) := (block_cell ((HW.out.block sb (lt_of_block HS.out)).trans HS.out) m).trans (bdS_at m hlt)
      have i1 : decide (m < 3) = true := by simp; exact hlt
      have i2 : (m : Int) < 3 := by omega
      have HEr := Lib.hid (HE.out.below HW.out)
      have HR := Lib.hid (fun w' (h : TE7 B w') => readSlot_no B (bdS m) 5 0 w' h (bdS_size m) (bdS_rd m))
      generalize bdS m = v at c0 HR
      go_wp2_with fail
      refine (HR.out _ HEr.out).mono ?_
      rintro e w8 ⟨fb, rfl, hf, hb⟩
      have HF := Lib.hid hf
      have HB8 := Lib.hid hb
      have HE8 := Lib.hid (HEr.out.below hb)
      clear hb c0 hf
      go_wp2_with fail
      have HE9 := Lib.hid (HE8.out.below (balloc (Below.refl _ _) (.cells #[.int .u64 0, .bool false, .int .u64 0, .slice none 0 0, .slice none 0 0] 44)))
      have HF9 := Lib.hid (HF.out.below (balloc (Below.refl _ _) (.cells #[.int .u64 0, .bool false, .int .u64 0, .slice none 0 0, .slice none 0 0] 44)))
      have HB9 := Lib.hid (balloc (bnext HW.out HB8.out) (.cells #[.int .u64 0, .bool false, .int .u64 0, .slice none 0 0, .slice none 0 0] 44))
      refine (told_fault fb 5 0 _ HE9.out.e HF9.out (by decide) (Nat.lt_of_lt_of_le HE9.out.g HE9.out.s)).mono ?_
      rintro e w9 ⟨rfl, hb⟩
      have HB9 := Lib.hid (bnext HB9.out hb)
      clear hb
      go_wp2
      go_roundg (2 - m)
      case rel => exact ⟨m + 1, by omega, by go_num, HB9⟩
      case measure => omega
    · obtain rfl : m = 3 := by omega
      have HB := Lib.hid (bnext HB.out HW.out)
      have HE := Lib.hid (HE.out.below HW.out)
      clear HW
      go_wp2_with fail
      refine (readSlot_no B ⟨#[128, 128]⟩ 5 1 _ HE.out (by decide) wk_rd5).mono ?_
      rintro e x1 ⟨f1, rfl, hf, hb⟩
      have HB := Lib.hid (balloc (bnext HB.out hb) (.cells #[.int .u64 0, .bool false, .int .u64 0, .slice none 0 0, .slice none 0 0] 44))
      have HE := Lib.hid (HE.out.below (balloc hb (.cells #[.int .u64 0, .bool false, .int .u64 0, .slice none 0 0, .slice none 0 0] 44)))
      have HF1 := Lib.hid (hf.below (balloc (Below.refl _ _) (.cells #[.int .u64 0, .bool false, .int .u64 0, .slice none 0 0, .slice none 0 0] 44)))
      clear hb hf
      go_wp2_with fail
      refine (readPart_no B ⟨#[128]⟩ 5 0 _ HE.out (by decide) wk_rd6).mono ?_
      rintro e x2 ⟨f2, rfl, hf, hb⟩
      have HB := Lib.hid (balloc (bnext HB.out hb) (.cells #[.string ⟨#[]⟩, .int .u64 0, .int .u64 0, .int .u64 0, .int .u64 0] 46))
      have hb' := balloc hb (.cells #[.string ⟨#[]⟩, .int .u64 0, .int .u64 0, .int .u64 0, .int .u64 0] 46)
      have HE := Lib.hid (HE.out.below hb')
      have HF1 := Lib.hid (HF1.out.below hb')
      have HF2 := Lib.hid (hf.below (balloc (Below.refl _ _) (.cells #[.string ⟨#[]⟩, .int .u64 0, .int .u64 0, .int .u64 0, .int .u64 0] 46)))
      clear hb hf hb'
      go_wp2_with fail
      refine (readPart_no B ⟨#[]⟩ 4 0 _ HE.out (by decide) wk_rd7).mono ?_
      rintro e x3 ⟨f3, rfl, hf, hb⟩
      have HB := Lib.hid (balloc (bnext HB.out hb) (.cells #[.string ⟨#[]⟩, .int .u64 0, .int .u64 0, .int .u64 0, .int .u64 0] 46))
      have hb' := balloc hb (.cells #[.string ⟨#[]⟩, .int .u64 0, .int .u64 0, .int .u64 0, .int .u64 0] 46)
      have HE := Lib.hid (HE.out.below hb')
      have HF1 := Lib.hid (HF1.out.below hb')
      have HF2 := Lib.hid (HF2.out.below hb')
      have HF3 := Lib.hid (hf.below (balloc (Below.refl _ _) (.cells #[.string ⟨#[]⟩, .int .u64 0, .int .u64 0, .int .u64 0, .int .u64 0] 46)))
      clear hb hf hb'
      go_wp2_with fail
      refine (readPart_no B ⟨#[129, 161, 119, 204, 5]⟩ 5 3 _ HE.out (by decide) wk_rd8).mono ?_
      rintro e x4 ⟨f4, rfl, hf, hb⟩
      have HB := Lib.hid (balloc (bnext HB.out hb) (.cells #[.string ⟨#[]⟩, .int .u64 0, .int .u64 0, .int .u64 0, .int .u64 0] 46))
      have hb' := balloc hb (.cells #[.string ⟨#[]⟩, .int .u64 0, .int .u64 0, .int .u64 0, .int .u64 0] 46)
      have HE := Lib.hid (HE.out.below hb')
      have HF1 := Lib.hid (HF1.out.below hb')
      have HF2 := Lib.hid (HF2.out.below hb')
      have HF3 := Lib.hid (HF3.out.below hb')
      have HF4 := Lib.hid (hf.below (balloc (Below.refl _ _) (.cells #[.string ⟨#[]⟩, .int .u64 0, .int .u64 0, .int .u64 0, .int .u64 0] 46)))
      clear hb hf hb'
      go_wp2_with fail
      refine (told_fault f1 5 1 _ HE.out.e HF1.out (by decide) (Nat.lt_of_lt_of_le HE.out.g HE.out.s)).mono ?_
      rintro e y1 ⟨rfl, hb⟩
      have HB := Lib.hid (bnext HB.out hb)
      have HE := Lib.hid (HE.out.below hb)
      have HF2 := Lib.hid (HF2.out.below hb)
      have HF3 := Lib.hid (HF3.out.below hb)
      have HF4 := Lib.hid (HF4.out.below hb)
      clear hb
      go_wp2_with fail
      refine (told_fault f2 5 0 _ HE.out.e HF2.out (by decide) (Nat.lt_of_lt_of_le HE.out.g HE.out.s)).mono ?_
      rintro e y2 ⟨rfl, hb⟩
      have HB := Lib.hid (bnext HB.out hb)
      have HE := Lib.hid (HE.out.below hb)
      have HF3 := Lib.hid (HF3.out.below hb)
      have HF4 := Lib.hid (HF4.out.below hb)
      clear hb
      go_wp2_with fail
      refine (told_fault f3 4 0 _ HE.out.e HF3.out (by decide) (Nat.lt_of_lt_of_le HE.out.g HE.out.s)).mono ?_
      rintro e y3 ⟨rfl, hb⟩
      have HB := Lib.hid (bnext HB.out hb)
      have HE := Lib.hid (HE.out.below hb)
      have HF4 := Lib.hid (HF4.out.below hb)
      clear hb
      go_wp2_with fail
      refine (told_fault f4 5 3 _ HE.out.e HF4.out (by decide) (Nat.lt_of_lt_of_le HE.out.g HE.out.s)).mono ?_
      rintro e y4 ⟨rfl, hb⟩
      have HB := Lib.hid (bnext HB.out hb)
      clear hb
      go_wp2
      go_ret
      exact ⟨rfl, HB.out⟩
end Go.Proofs.YtihiaopilnjonaaGreatDoor
namespace Go.Proofs.YtihiaopilnjonaaGreatDoor
set_option linter.unusedSimpArgs false
set_option linter.unusedVariables false
open Go.RowKit
def RefB (w : World) (b : Nat) (s : ByteArray) (a : Nat) (most : Int) : Prop := w.heap[b]? = some (.cells #[.string s, .int .i64 a, .int .i64 most] 210 (0, 0))
end Go.Proofs.YtihiaopilnjonaaGreatDoor
namespace Go.Proofs.YtihiaopilnjonaaGreatDoor
open Go.RowKit
set_option linter.unusedSimpArgs false
set_option linter.unusedVariables false
abbrev Cst := Except Flt Nat
def Cst.flt : Cst → Flt
  | .ok _ => (0, 0)
  | .error f => f
def CurB (w : World) (cb rb : Nat) (f : Flt) : Prop := w.heap[cb]? = some (.cells #[.pointer (some ⟨rb, 0, none⟩), .int .i64 f.1, .int .i64 f.2] 205 (0, 0))
structure CurIs (w : World) (cb rb : Nat) (s : ByteArray) (σ : Cst) : Prop where
  c : CurB w cb rb σ.flt
  ne : cb ≠ rb
  sz : s.size ≤ 140737488355328
  st : match σ with | .ok a => RefB w rb s a 10240 ∧ a ≤ s.size | .error f => f.1 ≠ 0 ∧ ∃ a, RefB w rb s a 10240 ∧ a ≤ s.size
theorem CurIs.below {w w' : World} {cb rb : Nat} {s : ByteArray} {σ : Cst} (h : CurIs w cb rb s σ) (hb : Below w.heap.size w w') : CurIs w' cb rb s σ := by
  refine ⟨(hb.block _ (lt_of_block h.c)).trans h.c, h.ne, h.sz, ?_⟩
  have hs := h.st
  cases σ with
  | ok a => exact ⟨(hb.block _ (lt_of_block hs.1)).trans hs.1, hs.2⟩
  | error f => obtain ⟨h1, a, h2, h3⟩ := hs; exact ⟨h1, a, (hb.block _ (lt_of_block h2)).trans h2, h3⟩
theorem CurIs.rd {w : World} {cb rb : Nat} {s : ByteArray} {σ : Cst} (h : CurIs w cb rb s σ) : ∃ a, RefB w rb s a 10240 ∧ a ≤ s.size := by
  have hs := h.st
  cases σ with
  | ok a => exact ⟨a, hs⟩
  | error f => exact hs.2
theorem CurIs.set {w : World} {cb rb : Nat} {s : ByteArray} {σ : Cst} (h : CurIs w cb rb s σ) (f : Flt) (hf : f.1 ≠ 0) : CurIs ((w.setCell ⟨cb, 1, none⟩ (.int .i64 f.1)).setCell ⟨cb, 2, none⟩ (.int .i64 f.2)) cb rb s (.error f) := by
  obtain ⟨a, h1, h2⟩ := h.rd
  exact ⟨block_setCell (block_setCell h.c _) _, h.ne, h.sz, hf, a, block_setCell_ne (block_setCell_ne h1 (by exact fun e => h.ne e.symm) _) (by exact fun e => h.ne e.symm) _, h2⟩
end Go.Proofs.YtihiaopilnjonaaGreatDoor
namespace Go.Proofs.YtihiaopilnjonaaGreatDoor
open Go.RowKit
set_option linter.unusedSimpArgs false
set_option linter.unusedVariables false
def isKey (all k : ByteArray) (n : Nat) : Bool := (List.range n).any fun i => (all.extract i (i + 1)).toList == k.toList
end Go.Proofs.YtihiaopilnjonaaGreatDoor
namespace Go.Proofs.YtihiaopilnjonaaGreatDoor
open Go.RowKit
set_option linter.unusedSimpArgs false
set_option linter.unusedVariables false
abbrev RStep := Rcd → Cst → Rcd × Cst
theorem CurIs.keep {w w' : World} {cb rb : Nat} {s : ByteArray} {σ : Cst} (h : CurIs w cb rb s σ) (h1 : w'.heap[cb]? = w.heap[cb]?) (h2 : w'.heap[rb]? = w.heap[rb]?) : CurIs w' cb rb s σ := by
  refine ⟨h1.trans h.c, h.ne, h.sz, ?_⟩
  have hst := h.st
  cases σ with
  | ok a => exact ⟨h2.trans hst.1, hst.2⟩
  | error f => obtain ⟨h3, a, h4, h5⟩ := hst; exact ⟨h3, a, h2.trans h4, h5⟩
theorem CurIs.rlt {w : World} {cb rb : Nat} {s : ByteArray} {σ : Cst} (h : CurIs w cb rb s σ) : rb < w.heap.size := by obtain ⟨a, h2, -⟩ := h.rd; exact lt_of_block h2
end Go.Proofs.YtihiaopilnjonaaGreatDoor
namespace Go.Proofs.YtihiaopilnjonaaGreatDoor
open Go.RowKit
set_option linter.unusedSimpArgs false
set_option linter.unusedVariables false
structure StepOk (x0 : Rcd) (g : GSpec) (f : RStep) : Prop where
  good : ∀ x a, fresh x0 g x → match g.read x a with
    | .error e => (f x (.ok a)).2 = .error e
    | .ok y => if g.empty y.1 = true then (f x (.ok a)).2 = .error (5, 0) else f x (.ok a) = (y.1, .ok y.2)
  bad : ∀ x e, (f x (.error e)).2 = .error e
def rth (l : List (UInt8 × RStep)) (i : Nat) : UInt8 × RStep := l.getD i (0, fun x σ => (x, σ))
structure SpecsOk (x0 : Rcd) (all : ByteArray) (specs : List (UInt8 × RStep)) (gs : List GSpec) : Prop where
  len : specs.length = gs.length
  keys : ∀ i, i < gs.length → (gth gs i).key.toList = [(rth specs i).1]
  all : ∀ k : ByteArray, isKey all k all.size = true ↔ ∃ i, i < gs.length ∧ k.toList = [(rth specs i).1]
  rise : ∀ i j, i < j → j < gs.length → (rth specs i).1 < (rth specs j).1
  steps : ∀ i, i < gs.length → StepOk x0 (gth gs i) (rth specs i).2
section
variable {x0 : Rcd} {s all : ByteArray} {specs : List (UInt8 × RStep)} {gs : List GSpec}
theorem SpecsOk.inj (h : SpecsOk x0 all specs gs) {i j : Nat} (hi : i < gs.length) (hj : j < gs.length) (e : (rth specs i).1 = (rth specs j).1) : i = j := by
  rcases Nat.lt_trichotomy i j with h1 | h1 | h1
  · have := h.rise i j h1 hj; rw [e] at this; exact absurd this (UInt8.lt_irrefl _)
  · exact h1
  · have := h.rise j i h1 hi; rw [e] at this; exact absurd this (UInt8.lt_irrefl _)
end
end Go.Proofs.YtihiaopilnjonaaGreatDoor
namespace Go.Proofs.YtihiaopilnjonaaGreatDoor
open Go.RowKit
set_option linter.unusedSimpArgs false
set_option linter.unusedVariables false
theorem Chg.low {rb cb : Nat} {w w1 w' : World} (h : Below w.heap.size w w1) (hc : Chg rb cb w1 w') (h1 : w.heap.size ≤ rb) (h2 : w.heap.size ≤ cb) : Below w.heap.size w w' :=
  ⟨hc.os.trans h.os, hc.tape.trans h.tape, hc.output.trans h.output, Nat.le_trans h.size hc.size, fun i hi => (hc.block i (Nat.lt_of_lt_of_le hi h.size) (by omega) (by omega)).trans (h.block i hi)⟩
end Go.Proofs.YtihiaopilnjonaaGreatDoor
namespace Go.Proofs.YtihiaopilnjonaaGreatDoor
open Go.RowKit
set_option linter.unusedSimpArgs false
set_option linter.unusedVariables false
theorem part_size (root : ByteArray) (weight first life keys : Int) (h : allMay (partSpecs root weight first life keys) = true) : (layP (partSpecs root weight first life keys)).size ≤ 1000 := by
  rw [may_part] at h
  have hr : root.size = 32 := of_decide_eq_true h
  rw [part_same root weight first life keys (by omega)]
  have e : partPs root weight first life keys = ((((([] : BPs) ++ [(⟨#[102]⟩, numR first)]) ++ [(⟨#[107]⟩, numR keys)]) ++ [(⟨#[108]⟩, numR life)]) ++ [(⟨#[114]⟩, binP root)]) ++ [(⟨#[119]⟩, numR weight)] := rfl
  have h0 := rlayP_len (partPs root weight first life keys)
  rw [e] at h0 ⊢
  have h1 := catK_le (((([] ++ [(⟨#[102]⟩, numR first)]) ++ [(⟨#[107]⟩, numR keys)]) ++ [(⟨#[108]⟩, numR life)]) ++ [(⟨#[114]⟩, binP root)]) ⟨#[119]⟩ (numR weight)
  have h2 := catK_le ((([] ++ [(⟨#[102]⟩, numR first)]) ++ [(⟨#[107]⟩, numR keys)]) ++ [(⟨#[108]⟩, numR life)]) ⟨#[114]⟩ (binP root)
  have h3 := catK_le (([] ++ [(⟨#[102]⟩, numR first)]) ++ [(⟨#[107]⟩, numR keys)]) ⟨#[108]⟩ (numR life)
  have h4 := catK_le ([] ++ [(⟨#[102]⟩, numR first)]) ⟨#[107]⟩ (numR keys)
  have h5 := catK_le [] ⟨#[102]⟩ (numR first)
  have h6 : (catK []).size = 0 := rfl
  have n1 := numR_len first
  have n2 := numR_len keys
  have n3 := numR_len life
  have n4 := numR_len weight
  have n5 := binP_len root
  have k1 : (⟨#[102]⟩ : ByteArray).size = 1 := rfl
  have k2 : (⟨#[107]⟩ : ByteArray).size = 1 := rfl
  have k3 : (⟨#[108]⟩ : ByteArray).size = 1 := rfl
  have k4 : (⟨#[114]⟩ : ByteArray).size = 1 := rfl
  have k5 : (⟨#[119]⟩ : ByteArray).size = 1 := rfl
  omega
def TextOf (fs : List FSpec) : ByteArray := if allMay fs then layP fs else ⟨#[]⟩
def CodeOf (fs : List FSpec) : Int := if allMay fs then 0 else 2
theorem LaidIs.both {fs : List FSpec} {w w' : World} {e : Ending} (h : LaidIs fs w e w') : e = .returned (.tuple #[.string (TextOf fs), .int .i64 (CodeOf fs)]) ∧ Below w.heap.size w w' := by
  obtain ⟨h1, h2⟩ := h
  refine ⟨h1.trans ?_, h2⟩
  unfold TextOf CodeOf
  cases allMay fs <;> rfl
end Go.Proofs.YtihiaopilnjonaaGreatDoor
namespace Go.Proofs.YtihiaopilnjonaaGreatDoor
set_option linter.unusedSimpArgs false
set_option linter.unusedVariables false
open Go.RowKit Go.ChangeShapes Go.WideShapes Go.ChangeAt Go.Deep
section
variable {H : Type} {enc : TypeId × Value → H} {P : Program} {w : World}
theorem below_trodAll (hl : laidOutB P = true) {W W' : World} (hb : Below W.heap.size W W') : ∀ {ts : List TypeId} {vs : List Value} {ds : List (DataW H)} {ps : List MemPlace},
    (∀ t ∈ ts, P.readableRec t = true ∧ t < P.types.size) → DataW.TrodAll enc P W 0 (fun _ => true) true ts vs ds ps → DataW.TrodAll enc P W' 0 (fun b => decide (b < W.heap.size)) true ts vs ds ps
  | [], vs, ds, ps, _, h => by
    obtain ⟨rfl, rfl, rfl⟩ := trodAll_nil h
    exact trodAll_mk0
  | t :: ts, vs, ds, ps, ht, h => by
    obtain ⟨v, vs', d, ds', p, q, rfl, rfl, rfl, h0, r0⟩ := trodAll_cons h
    have lt0 : ∀ x ∈ p, x.block < W.heap.size := by obtain ⟨m, hm⟩ := h0; exact DataW.trod_lt m _ _ _ hm
    exact trodAll_cons_mk (Below.trod hl (ht t (List.mem_cons_self ..)).1 (ht t (List.mem_cons_self ..)).2 h0 hb lt0) (below_trodAll hl hb (fun t' h' => ht t' (List.mem_cons_of_mem _ h')) r0)
theorem list_of {α : Type} {n : Nat} {p : Nat → α → Prop} (h : ∀ i, i < n → ∃ x, p i x) : ∃ l : List α, l.length = n ∧ ∀ i (hi : i < l.length), p i l[i] := by
  induction n with
  | zero => exact ⟨[], rfl, fun i hi => by simp at hi⟩
  | succ n ih =>
    obtain ⟨l, hl, hp⟩ := ih (fun i hi => h i (by omega))
    obtain ⟨x, hx⟩ := h n (by omega)
    refine ⟨l ++ [x], by simp [hl], fun i hi => ?_⟩
    rcases Nat.lt_or_ge i l.length with h' | h'
    · rw [List.getElem_append_left h']; exact hp i h'
    · have e : i = l.length := by simp at hi; omega
      subst e
      simp only [List.getElem_append_right (Nat.le_refl _), Nat.sub_self, List.getElem_cons_zero]
      rw [hl]; exact hx
theorem cell_read {n : Nat} {e : TypeId} {k : IntKind} {v : Value} {y : DataW H × List MemPlace} (he : P.underlying e = some (.int k)) (h : DataW.trod enc P w 0 (fun _ => true) true n e [v] = some y) : ∃ x, v = .int k x ∧ (Lit.int k x).wf = true := by
  obtain ⟨x, hx, _, hw⟩ := DataW.trod_int he h
  exact ⟨x, by simpa using hx, hw⟩
end
end Go.Proofs.YtihiaopilnjonaaGreatDoor
namespace Go.Proofs.YtihiaopilnjonaaGreatDoor
set_option linter.unusedSimpArgs false
set_option linter.unusedVariables false
open Go.RowKit Go.ChangeShapes Go.WideShapes Go.ChangeAt
theorem own : ownKnob Tryz.prog.godebug = none := by kernel_rfl
theorem laidOut : laidOutB Tryz.prog = true := by kernel_rfl
end Go.Proofs.YtihiaopilnjonaaGreatDoor
namespace Go.Proofs.YtihiaopilnjonaaGreatDoor
set_option linter.unusedSimpArgs false
set_option linter.unusedVariables false
open Go.RowKit Go.ChangeShapes Go.WideShapes Go.ChangeAt Go.ChangeMaps
section
variable {P : Program} {H : Type} {enc : TypeId × Value → H} {w : World}
theorem open_str {t : TypeId} (ht : P.underlying t = some .string) {v : Value} {d : DataW H} {p : List MemPlace} {r : Reach} {base : Nat} (hv : Value.okWide P w r base t v) (h : DataW.Trod enc P w 0 (fun _ => true) true t v d p) :
    ∃ s : ByteArray, v = .string s ∧ d = .lit (.string s.data.toList) ∧ p = [] ∧ s.size ≤ 9223372036854775807 := by
  obtain ⟨s, rfl, h1, h2, h3⟩ := open_string ht hv h
  exact ⟨s, rfl, h1, h2, by unfold maxLen at h3; exact h3⟩
end
end Go.Proofs.YtihiaopilnjonaaGreatDoor
namespace Go.Proofs.YtihiaopilnjonaaGreatDoor
open Go.RowKit Go.ChangeShapes Go.WideShapes Go.ChangeAt
set_option linter.unusedSimpArgs false
set_option linter.unusedVariables false
section
variable {P : Program} {H : Type} {enc : TypeId × Value → H} {w : World}
theorem str_readw {n : Nat} {e : TypeId} {v : Value} {y : DataW H × List MemPlace} (he : P.underlying e = some .string) (h : DataW.trod enc P w 0 (fun _ => true) true n e [v] = some y) : ∃ s : ByteArray, v = .string s ∧ s.size ≤ maxLen := by
  obtain ⟨s, hx, _, hw⟩ := DataW.trod_string he h
  exact ⟨s, by simpa using hx, hw⟩
theorem wfi_u64 {n : Int} (h : (Lit.int .u64 n).wf = true) : U64i n := by simp [Lit.wf, IntKind.min, IntKind.max, IntKind.signed, IntKind.bits] at h; unfold U64i; omega
end
end Go.Proofs.YtihiaopilnjonaaGreatDoor
namespace Go.Proofs.YtihiaopilnjonaaGreatDoor
open Go.RowKit Go.ChangeShapes Go.WideShapes Go.ChangeAt Go.Deep
set_option linter.unusedSimpArgs false
set_option linter.unusedVariables false
def CW (w : World) : CP := fun b o x => w.cell? ⟨b, o, none⟩ = some x
theorem CW.at {w : World} {b o : Nat} {x : Value} (h : CW w b o x) : CellAt w.heap.size w b o x := ⟨h, .inl (lt_of_cell h)⟩
section
variable {H : Type} {enc : TypeId × Value → H} {P : Program} {w : World}
theorem slice_read {α : Type} {t e : TypeId} (k : Nat) (cells : α → List Value) (ok : α → Prop) (ht : P.underlying t = some (.slice e)) (hC : P.cellsOf e = k) (hk : 0 < k)
    (hel : ∀ n cs' y, cs'.length = k → DataW.trod enc P w 0 (fun _ => true) true n e cs' = some y → ∃ x, cs' = cells x ∧ ok x)
    {n : Nat} {v : Value} {y : DataW H × List MemPlace} (h : DataW.trod enc P w 0 (fun _ => true) true n t [v] = some y) :
    ∃ a c, ∃ l : List α, v = .slice a (len l) c ∧ len l ≤ c ∧ c ≤ maxLen ∧ ∀ i (hi : i < l.length), ok l[i] ∧ ∃ b off, a = some ⟨b, off, none⟩ ∧ ∀ j, j < k → w.cell? ⟨b, off + i * k + j, none⟩ = (cells l[i])[j]? := by
  rcases open_slice ht h with ⟨hcs, _⟩ | ⟨a, n0, c0, m, q, D, Pl, hcs, _, hl, hm, hmm, _, hi⟩
  · simp at hcs
    subst hcs
    exact ⟨none, 0, [], rfl, Nat.le_refl _, Nat.zero_le _, fun i hi => by simp at hi⟩
  · simp at hcs
    subst hcs
    have hnm : n0 ≤ m := by rw [hmm]; simp; exact hl
    have each : ∀ i, i < n0 → ∃ x, ok x ∧ ∃ b off, some a = some ⟨b, off, none⟩ ∧ ∀ j, j < k → w.cell? ⟨b, off + i * k + j, none⟩ = (cells x)[j]? := by
      intro i hin
      obtain ⟨cs', hc, htr⟩ := hi i (by omega)
      rw [hC] at hc
      obtain ⟨_, hcl, hat⟩ := World.cells?_some hc
      obtain ⟨x, rfl, hx⟩ := hel q cs' _ hcl htr
      obtain ⟨b, off, spot⟩ := a
      have hspot : spot = none := by
        obtain ⟨cs0, hc0, htr0⟩ := hi 0 (by omega)
        rw [hC] at hc0
        obtain ⟨_, hcl0, hat0⟩ := World.cells?_some hc0
        have h1 := hat0 0 hk
        have h2 : cs0[0]? = some (cs0[0]'(by omega)) := List.getElem?_eq_getElem (by omega)
        rw [h2] at h1
        simpa [Addr.add] using World.cell?_spot h1
      subst hspot
      refine ⟨x, hx, b, off, rfl, fun j hj => ?_⟩
      have h1 := hat j hj
      rw [Go.Deep.add_add] at h1
      have e : (⟨b, off, none⟩ : Addr).add (i * k + j) = ⟨b, off + i * k + j, none⟩ := by
        unfold Addr.add; split
        · rename_i h0; simp <;> omega
        · simp [Nat.add_assoc]
      rw [e] at h1; exact h1
    obtain ⟨l, hll, hp⟩ := list_of each
    subst hll
    exact ⟨some a, c0, l, rfl, hl, hm, hp⟩
theorem strs_read {t e : TypeId} (ht : P.underlying t = some (.slice e)) (he : P.underlying e = some .string) (hC : P.cellsOf e = 1) {n : Nat} {v : Value} {y : DataW H × List MemPlace} (h : DataW.trod enc P w 0 (fun _ => true) true n t [v] = some y) :
    ∃ a c, ∃ l : List ByteArray, v = .slice a (len l) c ∧ len l ≤ c ∧ c ≤ maxLen ∧ StrsC (CW w) a l ∧ ∀ i, i < len l → (sth l i).size ≤ maxLen := by
  obtain ⟨a, c, l, rfl, h1, h2, h3⟩ := slice_read 1 (fun x => [Value.string x]) (fun x : ByteArray => x.size ≤ maxLen) ht hC (by decide) (fun n cs' y hl hy => by
    match cs', hl with
    | [v0], _ =>
      obtain ⟨x, rfl, hw⟩ := str_readw he hy
      exact ⟨x, rfl, hw⟩) h
  refine ⟨a, c, l, rfl, h1, h2, fun i hi => ?_, fun i hi => ?_⟩
  · obtain ⟨_, b, off, e1, e2⟩ := h3 i hi
    refine ⟨b, off, e1, ?_⟩
    have := e2 0 (by decide)
    rw [Nat.mul_one, Nat.add_zero] at this
    show w.cell? ⟨b, off + i, none⟩ = _
    rw [this, sth_eq l i hi]; rfl
  · rw [sth_eq l i hi]; exact (h3 i hi).1
theorem bool_readw {n : Nat} {e : TypeId} {v : Value} {y : DataW H × List MemPlace} (he : P.underlying e = some .bool) (h : DataW.trod enc P w 0 (fun _ => true) true n e [v] = some y) : ∃ b, v = .bool b := by
  obtain ⟨b, hx, _⟩ := DataW.trod_bool he h
  exact ⟨b, by simpa using hx⟩
end
section
variable {H : Type} {enc : TypeId × Value → H} {w : World}
set_option maxRecDepth 100000 in
theorem cells_msg {n : Nat} {v0 v1 v2 v3 v4 v5 : Value} {y : DataW H × List MemPlace} (h : DataW.trod enc Tryz.prog w 0 (fun _ => true) true n 76 [v0, v1, v2, v3, v4, v5] = some y) :
    ∃ (x0 : ByteArray) (x1 : ByteArray) (x2 : Int) (x3 : Int) (x4 : Int) (x5 : Int), v0 = .string x0 ∧ v1 = .string x1 ∧ v2 = .int .u64 x2 ∧ v3 = .int .u64 x3 ∧ v4 = .int .u64 x4 ∧ v5 = .int .u64 x5 ∧ x0.size ≤ maxLen ∧ x1.size ≤ maxLen ∧ U64i x2 ∧ U64i x3 ∧ U64i x4 ∧ U64i x5 := by
  obtain ⟨xs, m, _, _, _, hxl, hx⟩ := DataW.trod_struct Tryz.underlying76 h
  have hxl' : xs.length = 6 := hxl
  have h0 : DataW.trod enc Tryz.prog w 0 (fun _ => true) true m 9 (([v0, v1, v2, v3, v4, v5].drop 0).take (Tryz.prog.cellsOf 9)) = xs[0]? := hx 0 _ rfl
  rw [show Tryz.prog.cellsOf 9 = 1 by kernel_rfl] at h0
  have h1 : DataW.trod enc Tryz.prog w 0 (fun _ => true) true m 9 (([v0, v1, v2, v3, v4, v5].drop 1).take (Tryz.prog.cellsOf 9)) = xs[1]? := hx 1 _ rfl
  rw [show Tryz.prog.cellsOf 9 = 1 by kernel_rfl] at h1
  have h2 : DataW.trod enc Tryz.prog w 0 (fun _ => true) true m 23 (([v0, v1, v2, v3, v4, v5].drop 2).take (Tryz.prog.cellsOf 23)) = xs[2]? := hx 2 _ rfl
  rw [show Tryz.prog.cellsOf 23 = 1 by kernel_rfl] at h2
  have h3 : DataW.trod enc Tryz.prog w 0 (fun _ => true) true m 23 (([v0, v1, v2, v3, v4, v5].drop 3).take (Tryz.prog.cellsOf 23)) = xs[3]? := hx 3 _ rfl
  rw [show Tryz.prog.cellsOf 23 = 1 by kernel_rfl] at h3
  have h4 : DataW.trod enc Tryz.prog w 0 (fun _ => true) true m 23 (([v0, v1, v2, v3, v4, v5].drop 4).take (Tryz.prog.cellsOf 23)) = xs[4]? := hx 4 _ rfl
  rw [show Tryz.prog.cellsOf 23 = 1 by kernel_rfl] at h4
  have h5 : DataW.trod enc Tryz.prog w 0 (fun _ => true) true m 23 (([v0, v1, v2, v3, v4, v5].drop 5).take (Tryz.prog.cellsOf 23)) = xs[5]? := hx 5 _ rfl
  rw [show Tryz.prog.cellsOf 23 = 1 by kernel_rfl] at h5
  obtain ⟨z0, rfl, w0⟩ := str_readw Tryz.underlying9 (h0.trans (List.getElem?_eq_getElem (show 0 < xs.length by omega)))
  obtain ⟨z1, rfl, w1⟩ := str_readw Tryz.underlying9 (h1.trans (List.getElem?_eq_getElem (show 1 < xs.length by omega)))
  obtain ⟨z2, rfl, w2⟩ := cell_read Tryz.underlying23 (h2.trans (List.getElem?_eq_getElem (show 2 < xs.length by omega)))
  obtain ⟨z3, rfl, w3⟩ := cell_read Tryz.underlying23 (h3.trans (List.getElem?_eq_getElem (show 3 < xs.length by omega)))
  obtain ⟨z4, rfl, w4⟩ := cell_read Tryz.underlying23 (h4.trans (List.getElem?_eq_getElem (show 4 < xs.length by omega)))
  obtain ⟨z5, rfl, w5⟩ := cell_read Tryz.underlying23 (h5.trans (List.getElem?_eq_getElem (show 5 < xs.length by omega)))
  exact ⟨z0, z1, z2, z3, z4, z5, rfl, rfl, rfl, rfl, rfl, rfl, w0, w1, wfi_u64 w2, wfi_u64 w3, wfi_u64 w4, wfi_u64 w5⟩
set_option maxRecDepth 100000 in
theorem cells_header {n : Nat} {v0 v1 v2 v3 : Value} {y : DataW H × List MemPlace} (h : DataW.trod enc Tryz.prog w 0 (fun _ => true) true n 78 [v0, v1, v2, v3] = some y) :
    ∃ (x0 : Int) (x1 : ByteArray) (x2 : ByteArray) (x3 : ByteArray), v0 = .int .u64 x0 ∧ v1 = .string x1 ∧ v2 = .string x2 ∧ v3 = .string x3 ∧ U64i x0 ∧ x1.size ≤ maxLen ∧ x2.size ≤ maxLen ∧ x3.size ≤ maxLen := by
  obtain ⟨xs, m, _, _, _, hxl, hx⟩ := DataW.trod_struct Tryz.underlying78 h
  have hxl' : xs.length = 4 := hxl
  have h0 : DataW.trod enc Tryz.prog w 0 (fun _ => true) true m 23 (([v0, v1, v2, v3].drop 0).take (Tryz.prog.cellsOf 23)) = xs[0]? := hx 0 _ rfl
  rw [show Tryz.prog.cellsOf 23 = 1 by kernel_rfl] at h0
  have h1 : DataW.trod enc Tryz.prog w 0 (fun _ => true) true m 9 (([v0, v1, v2, v3].drop 1).take (Tryz.prog.cellsOf 9)) = xs[1]? := hx 1 _ rfl
  rw [show Tryz.prog.cellsOf 9 = 1 by kernel_rfl] at h1
  have h2 : DataW.trod enc Tryz.prog w 0 (fun _ => true) true m 9 (([v0, v1, v2, v3].drop 2).take (Tryz.prog.cellsOf 9)) = xs[2]? := hx 2 _ rfl
  rw [show Tryz.prog.cellsOf 9 = 1 by kernel_rfl] at h2
  have h3 : DataW.trod enc Tryz.prog w 0 (fun _ => true) true m 9 (([v0, v1, v2, v3].drop 3).take (Tryz.prog.cellsOf 9)) = xs[3]? := hx 3 _ rfl
  rw [show Tryz.prog.cellsOf 9 = 1 by kernel_rfl] at h3
  obtain ⟨z0, rfl, w0⟩ := cell_read Tryz.underlying23 (h0.trans (List.getElem?_eq_getElem (show 0 < xs.length by omega)))
  obtain ⟨z1, rfl, w1⟩ := str_readw Tryz.underlying9 (h1.trans (List.getElem?_eq_getElem (show 1 < xs.length by omega)))
  obtain ⟨z2, rfl, w2⟩ := str_readw Tryz.underlying9 (h2.trans (List.getElem?_eq_getElem (show 2 < xs.length by omega)))
  obtain ⟨z3, rfl, w3⟩ := str_readw Tryz.underlying9 (h3.trans (List.getElem?_eq_getElem (show 3 < xs.length by omega)))
  exact ⟨z0, z1, z2, z3, rfl, rfl, rfl, rfl, wfi_u64 w0, w1, w2, w3⟩
set_option maxRecDepth 100000 in
theorem cells_part {n : Nat} {v0 v1 v2 v3 v4 : Value} {y : DataW H × List MemPlace} (h : DataW.trod enc Tryz.prog w 0 (fun _ => true) true n 46 [v0, v1, v2, v3, v4] = some y) :
    ∃ (x0 : ByteArray) (x1 : Int) (x2 : Int) (x3 : Int) (x4 : Int), v0 = .string x0 ∧ v1 = .int .u64 x1 ∧ v2 = .int .u64 x2 ∧ v3 = .int .u64 x3 ∧ v4 = .int .u64 x4 ∧ x0.size ≤ maxLen ∧ U64i x1 ∧ U64i x2 ∧ U64i x3 ∧ U64i x4 := by
  obtain ⟨xs, m, _, _, _, hxl, hx⟩ := DataW.trod_struct Tryz.underlying46 h
  have hxl' : xs.length = 5 := hxl
  have h0 : DataW.trod enc Tryz.prog w 0 (fun _ => true) true m 9 (([v0, v1, v2, v3, v4].drop 0).take (Tryz.prog.cellsOf 9)) = xs[0]? := hx 0 _ rfl
  rw [show Tryz.prog.cellsOf 9 = 1 by kernel_rfl] at h0
  have h1 : DataW.trod enc Tryz.prog w 0 (fun _ => true) true m 23 (([v0, v1, v2, v3, v4].drop 1).take (Tryz.prog.cellsOf 23)) = xs[1]? := hx 1 _ rfl
  rw [show Tryz.prog.cellsOf 23 = 1 by kernel_rfl] at h1
  have h2 : DataW.trod enc Tryz.prog w 0 (fun _ => true) true m 23 (([v0, v1, v2, v3, v4].drop 2).take (Tryz.prog.cellsOf 23)) = xs[2]? := hx 2 _ rfl
  rw [show Tryz.prog.cellsOf 23 = 1 by kernel_rfl] at h2
  have h3 : DataW.trod enc Tryz.prog w 0 (fun _ => true) true m 23 (([v0, v1, v2, v3, v4].drop 3).take (Tryz.prog.cellsOf 23)) = xs[3]? := hx 3 _ rfl
  rw [show Tryz.prog.cellsOf 23 = 1 by kernel_rfl] at h3
  have h4 : DataW.trod enc Tryz.prog w 0 (fun _ => true) true m 23 (([v0, v1, v2, v3, v4].drop 4).take (Tryz.prog.cellsOf 23)) = xs[4]? := hx 4 _ rfl
  rw [show Tryz.prog.cellsOf 23 = 1 by kernel_rfl] at h4
  obtain ⟨z0, rfl, w0⟩ := str_readw Tryz.underlying9 (h0.trans (List.getElem?_eq_getElem (show 0 < xs.length by omega)))
  obtain ⟨z1, rfl, w1⟩ := cell_read Tryz.underlying23 (h1.trans (List.getElem?_eq_getElem (show 1 < xs.length by omega)))
  obtain ⟨z2, rfl, w2⟩ := cell_read Tryz.underlying23 (h2.trans (List.getElem?_eq_getElem (show 2 < xs.length by omega)))
  obtain ⟨z3, rfl, w3⟩ := cell_read Tryz.underlying23 (h3.trans (List.getElem?_eq_getElem (show 3 < xs.length by omega)))
  obtain ⟨z4, rfl, w4⟩ := cell_read Tryz.underlying23 (h4.trans (List.getElem?_eq_getElem (show 4 < xs.length by omega)))
  exact ⟨z0, z1, z2, z3, z4, rfl, rfl, rfl, rfl, rfl, w0, wfi_u64 w1, wfi_u64 w2, wfi_u64 w3, wfi_u64 w4⟩
set_option maxRecDepth 100000 in
theorem cells_sig {n : Nat} {v0 v1 v2 : Value} {y : DataW H × List MemPlace} (h : DataW.trod enc Tryz.prog w 0 (fun _ => true) true n 42 [v0, v1, v2] = some y) :
    ∃ (x0 : Int) (x1a : Option Addr) (x1c : Nat) (x1 : List ByteArray) (x2a : Option Addr) (x2c : Nat) (x2 : List ByteArray), v0 = .int .u64 x0 ∧ v1 = .slice x1a (len x1) x1c ∧ v2 = .slice x2a (len x2) x2c ∧ U64i x0 ∧ (len x1 ≤ maxLen ∧ StrsC (CW w) x1a x1 ∧ ∀ i, i < len x1 → (sth x1 i).size ≤ maxLen) ∧ (len x2 ≤ maxLen ∧ StrsC (CW w) x2a x2 ∧ ∀ i, i < len x2 → (sth x2 i).size ≤ maxLen) := by
  obtain ⟨xs, m, _, _, _, hxl, hx⟩ := DataW.trod_struct Tryz.underlying42 h
  have hxl' : xs.length = 3 := hxl
  have h0 : DataW.trod enc Tryz.prog w 0 (fun _ => true) true m 23 (([v0, v1, v2].drop 0).take (Tryz.prog.cellsOf 23)) = xs[0]? := hx 0 _ rfl
  rw [show Tryz.prog.cellsOf 23 = 1 by kernel_rfl] at h0
  have h1 : DataW.trod enc Tryz.prog w 0 (fun _ => true) true m 26 (([v0, v1, v2].drop 1).take (Tryz.prog.cellsOf 26)) = xs[1]? := hx 1 _ rfl
  rw [show Tryz.prog.cellsOf 26 = 1 by kernel_rfl] at h1
  have h2 : DataW.trod enc Tryz.prog w 0 (fun _ => true) true m 26 (([v0, v1, v2].drop 2).take (Tryz.prog.cellsOf 26)) = xs[2]? := hx 2 _ rfl
  rw [show Tryz.prog.cellsOf 26 = 1 by kernel_rfl] at h2
  obtain ⟨z0, rfl, w0⟩ := cell_read Tryz.underlying23 (h0.trans (List.getElem?_eq_getElem (show 0 < xs.length by omega)))
  obtain ⟨z1a, z1c, z1, rfl, w1, w1', w1S, w1Z⟩ := strs_read Tryz.underlying26 Tryz.underlying9 (by kernel_rfl) (h1.trans (List.getElem?_eq_getElem (show 1 < xs.length by omega)))
  obtain ⟨z2a, z2c, z2, rfl, w2, w2', w2S, w2Z⟩ := strs_read Tryz.underlying26 Tryz.underlying9 (by kernel_rfl) (h2.trans (List.getElem?_eq_getElem (show 2 < xs.length by omega)))
  exact ⟨z0, z1a, z1c, z1, z2a, z2c, z2, rfl, rfl, rfl, wfi_u64 w0, ⟨Nat.le_trans w1 w1', w1S, w1Z⟩, ⟨Nat.le_trans w2 w2', w2S, w2Z⟩⟩
set_option maxRecDepth 100000 in
theorem cells_slot {n : Nat} {v0 v1 v2 v3 v4 : Value} {y : DataW H × List MemPlace} (h : DataW.trod enc Tryz.prog w 0 (fun _ => true) true n 44 [v0, v1, v2, v3, v4] = some y) :
    ∃ (x0 : Int) (x1 : Bool) (x2 : Int) (x3a : Option Addr) (x3c : Nat) (x3 : List ByteArray) (x4a : Option Addr) (x4c : Nat) (x4 : List ByteArray), v0 = .int .u64 x0 ∧ v1 = .bool x1 ∧ v2 = .int .u64 x2 ∧ v3 = .slice x3a (len x3) x3c ∧ v4 = .slice x4a (len x4) x4c ∧ U64i x0 ∧ True ∧ U64i x2 ∧ (len x3 ≤ maxLen ∧ StrsC (CW w) x3a x3 ∧ ∀ i, i < len x3 → (sth x3 i).size ≤ maxLen) ∧ (len x4 ≤ maxLen ∧ StrsC (CW w) x4a x4 ∧ ∀ i, i < len x4 → (sth x4 i).size ≤ maxLen) := by
  obtain ⟨xs, m, _, _, _, hxl, hx⟩ := DataW.trod_struct Tryz.underlying44 h
  have hxl' : xs.length = 3 := hxl
  have h0 : DataW.trod enc Tryz.prog w 0 (fun _ => true) true m 23 (([v0, v1, v2, v3, v4].drop 0).take (Tryz.prog.cellsOf 23)) = xs[0]? := hx 0 _ rfl
  rw [show Tryz.prog.cellsOf 23 = 1 by kernel_rfl] at h0
  have h1 : DataW.trod enc Tryz.prog w 0 (fun _ => true) true m 4 (([v0, v1, v2, v3, v4].drop 1).take (Tryz.prog.cellsOf 4)) = xs[1]? := hx 1 _ rfl
  rw [show Tryz.prog.cellsOf 4 = 1 by kernel_rfl] at h1
  have h2 : DataW.trod enc Tryz.prog w 0 (fun _ => true) true m 42 (([v0, v1, v2, v3, v4].drop 2).take (Tryz.prog.cellsOf 42)) = xs[2]? := hx 2 _ rfl
  rw [show Tryz.prog.cellsOf 42 = 3 by kernel_rfl] at h2
  obtain ⟨z0, rfl, w0⟩ := cell_read Tryz.underlying23 (h0.trans (List.getElem?_eq_getElem (show 0 < xs.length by omega)))
  obtain ⟨z1, rfl⟩ := bool_readw Tryz.underlying4 (h1.trans (List.getElem?_eq_getElem (show 1 < xs.length by omega)))
  obtain ⟨z2_0, z2_1a, z2_1c, z2_1, z2_2a, z2_2c, z2_2, rfl, rfl, rfl, w2_0, w2_1, w2_2⟩ := cells_sig (h2.trans (List.getElem?_eq_getElem (show 2 < xs.length by omega)))
  exact ⟨z0, z1, z2_0, z2_1a, z2_1c, z2_1, z2_2a, z2_2c, z2_2, rfl, rfl, rfl, rfl, rfl, wfi_u64 w0, trivial, w2_0, w2_1, w2_2⟩
structure RvX where
  d : RevD
  wa : Option Addr
  wc : Nat
  pa : Option Addr
  pc : Nat
def RvX.cells (x : RvX) : List Value := [.int .u64 x.d.pos, .int .u64 x.d.L, .bool x.d.signed, .int .u64 x.d.idx, .slice x.wa (len x.d.ws) x.wc, .slice x.pa (len x.d.ps) x.pc, .string x.d.root, .int .u64 x.d.wt, .int .u64 x.d.first, .int .u64 x.d.life, .int .u64 x.d.keys]
set_option maxRecDepth 100000 in
theorem cells_small {n : Nat} {v0 v1 v2 v3 v4 v5 v6 v7 v8 v9 v10 v11 v12 v13 v14 v15 v16 v17 v18 v19 : Value} {y : DataW H × List MemPlace} (h : DataW.trod enc Tryz.prog w 0 (fun _ => true) true n 94 [v0, v1, v2, v3, v4, v5, v6, v7, v8, v9, v10, v11, v12, v13, v14, v15, v16, v17, v18, v19] = some y) :
    ∃ (x0 : ByteArray) (x1 : Int) (x2 : Int) (x3 : Int) (x4 : Int) (x5 : Int) (x6 : Bool) (x7 : Int) (x8a : Option Addr) (x8c : Nat) (x8 : List ByteArray) (x9a : Option Addr) (x9c : Nat) (x9 : List ByteArray) (x10 : ByteArray) (x11 : ByteArray) (x12 : Int) (x13 : Int) (x14 : Int) (x15 : Int) (x16 : Int) (x17 : ByteArray) (x18 : ByteArray) (x19 : ByteArray), v0 = .string x0 ∧ v1 = .int .u64 x1 ∧ v2 = .int .u64 x2 ∧ v3 = .int .u64 x3 ∧ v4 = .int .u64 x4 ∧ v5 = .int .u64 x5 ∧ v6 = .bool x6 ∧ v7 = .int .u64 x7 ∧ v8 = .slice x8a (len x8) x8c ∧ v9 = .slice x9a (len x9) x9c ∧ v10 = .string x10 ∧ v11 = .string x11 ∧ v12 = .int .u64 x12 ∧ v13 = .int .u64 x13 ∧ v14 = .int .u64 x14 ∧ v15 = .int .u64 x15 ∧ v16 = .int .u64 x16 ∧ v17 = .string x17 ∧ v18 = .string x18 ∧ v19 = .string x19 ∧ x0.size ≤ maxLen ∧ U64i x1 ∧ U64i x2 ∧ U64i x3 ∧ U64i x4 ∧ U64i x5 ∧ True ∧ U64i x7 ∧ (len x8 ≤ maxLen ∧ StrsC (CW w) x8a x8 ∧ ∀ i, i < len x8 → (sth x8 i).size ≤ maxLen) ∧ (len x9 ≤ maxLen ∧ StrsC (CW w) x9a x9 ∧ ∀ i, i < len x9 → (sth x9 i).size ≤ maxLen) ∧ x10.size ≤ maxLen ∧ x11.size ≤ maxLen ∧ U64i x12 ∧ U64i x13 ∧ U64i x14 ∧ U64i x15 ∧ U64i x16 ∧ x17.size ≤ maxLen ∧ x18.size ≤ maxLen ∧ x19.size ≤ maxLen := by
  obtain ⟨xs, m, _, _, _, hxl, hx⟩ := DataW.trod_struct Tryz.underlying94 h
  have hxl' : xs.length = 4 := hxl
  have h0 : DataW.trod enc Tryz.prog w 0 (fun _ => true) true m 46 (([v0, v1, v2, v3, v4, v5, v6, v7, v8, v9, v10, v11, v12, v13, v14, v15, v16, v17, v18, v19].drop 0).take (Tryz.prog.cellsOf 46)) = xs[0]? := hx 0 _ rfl
  rw [show Tryz.prog.cellsOf 46 = 5 by kernel_rfl] at h0
  have h1 : DataW.trod enc Tryz.prog w 0 (fun _ => true) true m 44 (([v0, v1, v2, v3, v4, v5, v6, v7, v8, v9, v10, v11, v12, v13, v14, v15, v16, v17, v18, v19].drop 5).take (Tryz.prog.cellsOf 44)) = xs[1]? := hx 1 _ rfl
  rw [show Tryz.prog.cellsOf 44 = 5 by kernel_rfl] at h1
  have h2 : DataW.trod enc Tryz.prog w 0 (fun _ => true) true m 76 (([v0, v1, v2, v3, v4, v5, v6, v7, v8, v9, v10, v11, v12, v13, v14, v15, v16, v17, v18, v19].drop 10).take (Tryz.prog.cellsOf 76)) = xs[2]? := hx 2 _ rfl
  rw [show Tryz.prog.cellsOf 76 = 6 by kernel_rfl] at h2
  have h3 : DataW.trod enc Tryz.prog w 0 (fun _ => true) true m 78 (([v0, v1, v2, v3, v4, v5, v6, v7, v8, v9, v10, v11, v12, v13, v14, v15, v16, v17, v18, v19].drop 16).take (Tryz.prog.cellsOf 78)) = xs[3]? := hx 3 _ rfl
  rw [show Tryz.prog.cellsOf 78 = 4 by kernel_rfl] at h3
  obtain ⟨z0_0, z0_1, z0_2, z0_3, z0_4, rfl, rfl, rfl, rfl, rfl, w0_0, w0_1, w0_2, w0_3, w0_4⟩ := cells_part (h0.trans (List.getElem?_eq_getElem (show 0 < xs.length by omega)))
  obtain ⟨z1_0, z1_1, z1_2, z1_3a, z1_3c, z1_3, z1_4a, z1_4c, z1_4, rfl, rfl, rfl, rfl, rfl, w1_0, w1_1, w1_2, w1_3, w1_4⟩ := cells_slot (h1.trans (List.getElem?_eq_getElem (show 1 < xs.length by omega)))
  obtain ⟨z2_0, z2_1, z2_2, z2_3, z2_4, z2_5, rfl, rfl, rfl, rfl, rfl, rfl, w2_0, w2_1, w2_2, w2_3, w2_4, w2_5⟩ := cells_msg (h2.trans (List.getElem?_eq_getElem (show 2 < xs.length by omega)))
  obtain ⟨z3_0, z3_1, z3_2, z3_3, rfl, rfl, rfl, rfl, w3_0, w3_1, w3_2, w3_3⟩ := cells_header (h3.trans (List.getElem?_eq_getElem (show 3 < xs.length by omega)))
  exact ⟨z0_0, z0_1, z0_2, z0_3, z0_4, z1_0, z1_1, z1_2, z1_3a, z1_3c, z1_3, z1_4a, z1_4c, z1_4, z2_0, z2_1, z2_2, z2_3, z2_4, z2_5, z3_0, z3_1, z3_2, z3_3, rfl, rfl, rfl, rfl, rfl, rfl, rfl, rfl, rfl, rfl, rfl, rfl, rfl, rfl, rfl, rfl, rfl, rfl, rfl, rfl, w0_0, w0_1, w0_2, w0_3, w0_4, w1_0, w1_1, w1_2, w1_3, w1_4, w2_0, w2_1, w2_2, w2_3, w2_4, w2_5, w3_0, w3_1, w3_2, w3_3⟩
set_option maxRecDepth 100000 in
theorem open_small {v : Value} {d : DataW H} {p : List MemPlace} {r : Reach} {base : Nat} (hv : Value.okWide Tryz.prog w r base 94 v) (h : DataW.Trod enc Tryz.prog w 0 (fun _ => true) true 94 v d p) :
    ∃ (x0 : ByteArray) (x1 : Int) (x2 : Int) (x3 : Int) (x4 : Int) (x5 : Int) (x6 : Bool) (x7 : Int) (x8a : Option Addr) (x8c : Nat) (x8 : List ByteArray) (x9a : Option Addr) (x9c : Nat) (x9 : List ByteArray) (x10 : ByteArray) (x11 : ByteArray) (x12 : Int) (x13 : Int) (x14 : Int) (x15 : Int) (x16 : Int) (x17 : ByteArray) (x18 : ByteArray) (x19 : ByteArray), v = .agg #[.string x0, .int .u64 x1, .int .u64 x2, .int .u64 x3, .int .u64 x4, .int .u64 x5, .bool x6, .int .u64 x7, .slice x8a (len x8) x8c, .slice x9a (len x9) x9c, .string x10, .string x11, .int .u64 x12, .int .u64 x13, .int .u64 x14, .int .u64 x15, .int .u64 x16, .string x17, .string x18, .string x19] ∧ x0.size ≤ maxLen ∧ U64i x1 ∧ U64i x2 ∧ U64i x3 ∧ U64i x4 ∧ U64i x5 ∧ True ∧ U64i x7 ∧ (len x8 ≤ maxLen ∧ StrsC (CW w) x8a x8 ∧ ∀ i, i < len x8 → (sth x8 i).size ≤ maxLen) ∧ (len x9 ≤ maxLen ∧ StrsC (CW w) x9a x9 ∧ ∀ i, i < len x9 → (sth x9 i).size ≤ maxLen) ∧ x10.size ≤ maxLen ∧ x11.size ≤ maxLen ∧ U64i x12 ∧ U64i x13 ∧ U64i x14 ∧ U64i x15 ∧ U64i x16 ∧ x17.size ≤ maxLen ∧ x18.size ≤ maxLen ∧ x19.size ≤ maxLen := by
  obtain ⟨cs', rfl, hsz⟩ := okWide_struct Tryz.underlying94 hv
  have hsz' : cs'.size = 20 := hsz.trans (by kernel_rfl)
  obtain ⟨l⟩ := cs'
  match l, hsz' with
  | [v0, v1, v2, v3, v4, v5, v6, v7, v8, v9, v10, v11, v12, v13, v14, v15, v16, v17, v18, v19], _ =>
    obtain ⟨fuel, hf⟩ := h
    simp only [Value.cells] at hf
    obtain ⟨x0, x1, x2, x3, x4, x5, x6, x7, x8a, x8c, x8, x9a, x9c, x9, x10, x11, x12, x13, x14, x15, x16, x17, x18, x19, rfl, rfl, rfl, rfl, rfl, rfl, rfl, rfl, rfl, rfl, rfl, rfl, rfl, rfl, rfl, rfl, rfl, rfl, rfl, rfl, w0, w1, w2, w3, w4, w5, w6, w7, w8, w9, w10, w11, w12, w13, w14, w15, w16, w17, w18, w19⟩ := cells_small hf
    exact ⟨x0, x1, x2, x3, x4, x5, x6, x7, x8a, x8c, x8, x9a, x9c, x9, x10, x11, x12, x13, x14, x15, x16, x17, x18, x19, rfl, w0, w1, w2, w3, w4, w5, w6, w7, w8, w9, w10, w11, w12, w13, w14, w15, w16, w17, w18, w19⟩
end
end Go.Proofs.YtihiaopilnjonaaGreatDoor
namespace Go.Proofs.YtihiaopilnjonaaGreatDoor
set_option linter.unusedSimpArgs false
set_option linter.unusedVariables false
open Go.RowKit Go.ChangeShapes Go.WideShapes Go.ChangeAt
def rowD (r : URow) : DataW Unit := .agg [.lit (.int .u8 r.lo), .lit (.int .u8 r.hi), .lit (.int .i64 r.size), .lit (.int .u64 r.least)]
set_option maxRecDepth 100000 in
theorem laid_row {w : World} {fuel : Nat} {cs' : List Value} {r : URow} {q : List MemPlace} (hl : cs'.length = 4) (h : DataW.trod (fun _ => ()) Tryz.prog w 0 (fun _ => true) false fuel 338 cs' = some (rowD r, q)) : cs' = r.cells := by
  match cs', hl with
  | [v0, v1, v2, v3], _ =>
    obtain ⟨xs, m, _, e, _, hxl, hx⟩ := DataW.trod_struct Tryz.underlying338 h
    have cu : Tryz.prog.cellsOf 5 = 1 := by kernel_rfl
    have ci : Tryz.prog.cellsOf 3 = 1 := by kernel_rfl
    have cq : Tryz.prog.cellsOf 23 = 1 := by kernel_rfl
    have hxl' : xs.length = 4 := hxl
    have h0 : DataW.trod (fun _ => ()) Tryz.prog w 0 (fun _ => true) false m 5 (([v0, v1, v2, v3].drop 0).take (Tryz.prog.cellsOf 5)) = xs[0]? := hx 0 _ rfl
    have h1 : DataW.trod (fun _ => ()) Tryz.prog w 0 (fun _ => true) false m 5 (([v0, v1, v2, v3].drop 1).take (Tryz.prog.cellsOf 5)) = xs[1]? := hx 1 _ rfl
    have h2 : DataW.trod (fun _ => ()) Tryz.prog w 0 (fun _ => true) false m 3 (([v0, v1, v2, v3].drop 2).take (Tryz.prog.cellsOf 3)) = xs[2]? := hx 2 _ rfl
    have h3 : DataW.trod (fun _ => ()) Tryz.prog w 0 (fun _ => true) false m 23 (([v0, v1, v2, v3].drop 3).take (Tryz.prog.cellsOf 23)) = xs[3]? := hx 3 _ rfl
    rw [cu] at h0 h1
    rw [ci] at h2
    rw [cq] at h3
    match xs, hxl' with
    | [x0, x1, x2, x3], _ =>
      obtain ⟨n0, e0, y0, _⟩ := DataW.trod_int Tryz.underlying5 (show DataW.trod (fun _ => ()) Tryz.prog w 0 (fun _ => true) false m 5 [v0] = some x0 from h0)
      obtain ⟨n1, e1, y1, _⟩ := DataW.trod_int Tryz.underlying5 (show DataW.trod (fun _ => ()) Tryz.prog w 0 (fun _ => true) false m 5 [v1] = some x1 from h1)
      obtain ⟨n2, e2, y2, _⟩ := DataW.trod_int Tryz.underlying3 (show DataW.trod (fun _ => ()) Tryz.prog w 0 (fun _ => true) false m 3 [v2] = some x2 from h2)
      obtain ⟨n3, e3, y3, _⟩ := DataW.trod_int Tryz.underlying23 (show DataW.trod (fun _ => ()) Tryz.prog w 0 (fun _ => true) false m 23 [v3] = some x3 from h3)
      subst y0 y1 y2 y3
      simp [rowD] at e e0 e1 e2 e3
      obtain ⟨⟨a0, a1, a2, a3⟩, _⟩ := e
      subst e0 e1 e2 e3
      unfold URow.cells
      rw [a0, a1, a2, a3]
set_option maxRecDepth 100000 in
theorem laid_rows {w : World} {fuel : Nat} {cs : List Value} {l : List URow} {p : List MemPlace} (h : DataW.trod (fun _ => ()) Tryz.prog w 0 (fun _ => true) false fuel 313 cs = some (.slice (l.map rowD) [], p)) (hl : 0 < len l) :
    ∃ tb tq rc, cs = [.slice (some ⟨tb, tq, none⟩) (len l) rc] ∧ URows w (some ⟨tb, tq, none⟩) l := by
  have hC : Tryz.prog.cellsOf 338 = 4 := by kernel_rfl
  rcases Go.Deep.open_slice Tryz.underlying313 h with ⟨_, hx⟩ | ⟨a, n, c, m, q, D, Pl, hcs, _, hln, hm, hmm, hx, hi⟩
  · simp at hx
  · simp only [Prod.mk.injEq, DataW.slice.injEq] at hx
    obtain ⟨⟨hD, _⟩, _⟩ := hx
    have hn : len l = n := by have := congrArg List.length hD; simpa [len] using this
    have hnm : n ≤ m := by rw [hmm]; simp; exact hln
    have each : ∀ i, i < len l → ∃ b off, a = ⟨b, off, none⟩ ∧ URowAt w b (off + i * 4) (unth l i) := fun i hil => by
      obtain ⟨cs', hc, htr⟩ := hi i (by omega)
      rw [hC] at hc
      obtain ⟨_, hcl, hat⟩ := World.cells?_some hc
      have hDi : D i = rowD (unth l i) := by
        have h1 : (l.map rowD)[i]? = ((List.range n).map D)[i]? := by rw [hD]
        have hil' : i < l.length := hil
        rw [List.getElem?_map, List.getElem?_map, List.getElem?_eq_getElem hil', List.getElem?_range (by omega)] at h1
        rw [unth_eq l i hil]
        exact (Option.some.inj h1).symm
      rw [hDi] at htr
      have hcs' := laid_row hcl htr
      obtain ⟨b, off, spot⟩ := a
      have hat0 := hat 0 (by decide)
      rw [hcs'] at hat
      have hspot : spot = none := by
        obtain ⟨cs0, hc0, htr0⟩ := hi 0 (by omega)
        rw [hC] at hc0
        obtain ⟨_, hcl0, hat0⟩ := World.cells?_some hc0
        have h1 := hat0 0 (by decide)
        have h2 : cs0[0]? = some (cs0[0]'(by omega)) := List.getElem?_eq_getElem (by omega)
        rw [h2] at h1
        simpa [Addr.add] using World.cell?_spot h1
      subst hspot
      have key : ∀ j, j < 4 → w.cell? ⟨b, off + i * 4 + j, none⟩ = (unth l i).cells[j]? := fun j hj => by
        have h1 := hat j hj
        rw [Go.Deep.add_add] at h1
        have e : (⟨b, off, none⟩ : Addr).add (i * 4 + j) = ⟨b, off + i * 4 + j, none⟩ := by
          unfold Addr.add; split
          · rename_i h0; simp <;> omega
          · simp [Nat.add_assoc]
        rw [e] at h1; exact h1
      exact ⟨b, off, rfl, key 0 (by decide), key 1 (by decide), key 2 (by decide), key 3 (by decide)⟩
    obtain ⟨b, off, rfl, _⟩ := each 0 hl
    refine ⟨b, off, c, by rw [hn]; exact hcs, fun i hil => ?_⟩
    obtain ⟨b', off', e, hR⟩ := each i hil
    cases e
    exact ⟨b, off, rfl, hR⟩
theorem tab_of {W : World} {nm : String} {g : Nat} {l : List URow} {cs : Array Value} {fuel : Nat} {p : List MemPlace} (hl : 0 < len l) (hg : Tryz.prog.globalNamed nm = some g) (hv : W.var? Tryz.prog nm = some cs)
    (h : DataW.trod (fun _ => ()) Tryz.prog W 0 (fun _ => true) false fuel 313 cs.toList = some (.slice (l.map rowD) [], p)) : TabAt W.heap.size W g l := by
  obtain ⟨tb, tq, rc, hcs, hr⟩ := laid_rows h hl
  have hc : W.cell? ⟨g, 0, none⟩ = some (.slice (some ⟨tb, tq, none⟩) (len l) rc) := by
    have := World.var?_cell hg hv 0
    rw [Array.eq_one_of_toList hcs] at this
    simpa using this
  obtain ⟨b', off', e, hR⟩ := hr 0 hl
  cases e
  exact ⟨tb, tq, rc, lt_of_cell hc, lt_of_cell hR.c0, Nat.le_refl _, hc, hr⟩
theorem oneRow : ((List.range Tryz.prog.types.size).filter fun t => Tryz.prog.rowNamed t [101, 114, 114, 111, 114]) = [59] := by kernel_rfl
end Go.Proofs.YtihiaopilnjonaaGreatDoor
namespace Go.Proofs.YtihiaopilnjonaaGreatDoor
set_option linter.unusedSimpArgs false
set_option linter.unusedVariables false
open Go.RowKit Go.ChangeShapes Go.WideShapes Go.ChangeAt
def rowD5 (r : PRow) : DataW Unit := .agg [.lit (.int .u64 r.below), .lit (.int .u8 r.first), .lit (.int .i64 r.size)]
set_option maxRecDepth 100000 in
theorem laid_prow {w : World} {fuel : Nat} {cs' : List Value} {r : PRow} {q : List MemPlace} (hl : cs'.length = 3) (h : DataW.trod (fun _ => ()) Tryz.prog w 0 (fun _ => true) false fuel 332 cs' = some (rowD5 r, q)) : cs' = r.cells := by
  match cs', hl with
  | [v0, v1, v2], _ =>
    obtain ⟨xs, m, _, e, _, hxl, hx⟩ := DataW.trod_struct Tryz.underlying332 h
    have cu : Tryz.prog.cellsOf 5 = 1 := by kernel_rfl
    have ci : Tryz.prog.cellsOf 3 = 1 := by kernel_rfl
    have cq : Tryz.prog.cellsOf 23 = 1 := by kernel_rfl
    have hxl' : xs.length = 3 := hxl
    have h0 : DataW.trod (fun _ => ()) Tryz.prog w 0 (fun _ => true) false m 23 (([v0, v1, v2].drop 0).take (Tryz.prog.cellsOf 23)) = xs[0]? := hx 0 _ rfl
    have h1 : DataW.trod (fun _ => ()) Tryz.prog w 0 (fun _ => true) false m 5 (([v0, v1, v2].drop 1).take (Tryz.prog.cellsOf 5)) = xs[1]? := hx 1 _ rfl
    have h2 : DataW.trod (fun _ => ()) Tryz.prog w 0 (fun _ => true) false m 3 (([v0, v1, v2].drop 2).take (Tryz.prog.cellsOf 3)) = xs[2]? := hx 2 _ rfl
    rw [cq] at h0
    rw [cu] at h1
    rw [ci] at h2
    match xs, hxl' with
    | [x0, x1, x2], _ =>
      obtain ⟨n0, e0, y0, _⟩ := DataW.trod_int Tryz.underlying23 (show DataW.trod (fun _ => ()) Tryz.prog w 0 (fun _ => true) false m 23 [v0] = some x0 from h0)
      obtain ⟨n1, e1, y1, _⟩ := DataW.trod_int Tryz.underlying5 (show DataW.trod (fun _ => ()) Tryz.prog w 0 (fun _ => true) false m 5 [v1] = some x1 from h1)
      obtain ⟨n2, e2, y2, _⟩ := DataW.trod_int Tryz.underlying3 (show DataW.trod (fun _ => ()) Tryz.prog w 0 (fun _ => true) false m 3 [v2] = some x2 from h2)
      subst y0 y1 y2
      simp [rowD5] at e e0 e1 e2
      obtain ⟨⟨a0, a1, a2⟩, _⟩ := e
      subst e0 e1 e2
      unfold PRow.cells
      rw [a0, a1, a2]
set_option maxRecDepth 100000 in
theorem laid_prows {w : World} {fuel : Nat} {cs : List Value} {l : List PRow} {p : List MemPlace} (h : DataW.trod (fun _ => ()) Tryz.prog w 0 (fun _ => true) false fuel 334 cs = some (.slice (l.map rowD5) [], p)) (hl : 0 < len l) :
    ∃ tb tq rc, cs = [.slice (some ⟨tb, tq, none⟩) (len l) rc] ∧ PRows w (some ⟨tb, tq, none⟩) l := by
  have hC : Tryz.prog.cellsOf 332 = 3 := by kernel_rfl
  rcases Go.Deep.open_slice Tryz.underlying334 h with ⟨_, hx⟩ | ⟨a, n, c, m, q, D, Pl, hcs, _, hln, hm, hmm, hx, hi⟩
  · simp at hx
  · simp only [Prod.mk.injEq, DataW.slice.injEq] at hx
    obtain ⟨⟨hD, _⟩, _⟩ := hx
    have hn : len l = n := by have := congrArg List.length hD; simpa [len] using this
    have hnm : n ≤ m := by rw [hmm]; simp; exact hln
    have each : ∀ i, i < len l → ∃ b off, a = ⟨b, off, none⟩ ∧ PRowAt w b (off + i * 3) (prth l i) := fun i hil => by
      obtain ⟨cs', hc, htr⟩ := hi i (by omega)
      rw [hC] at hc
      obtain ⟨_, hcl, hat⟩ := World.cells?_some hc
      have hDi : D i = rowD5 (prth l i) := by
        have h1 : (l.map rowD5)[i]? = ((List.range n).map D)[i]? := by rw [hD]
        have hil' : i < l.length := hil
        rw [List.getElem?_map, List.getElem?_map, List.getElem?_eq_getElem hil', List.getElem?_range (by omega)] at h1
        rw [prth_eq l i hil]
        exact (Option.some.inj h1).symm
      rw [hDi] at htr
      have hcs' := laid_prow hcl htr
      obtain ⟨b, off, spot⟩ := a
      have hat0 := hat 0 (by decide)
      rw [hcs'] at hat
      have hspot : spot = none := by
        obtain ⟨cs0, hc0, htr0⟩ := hi 0 (by omega)
        rw [hC] at hc0
        obtain ⟨_, hcl0, hat0⟩ := World.cells?_some hc0
        have h1 := hat0 0 (by decide)
        have h2 : cs0[0]? = some (cs0[0]'(by omega)) := List.getElem?_eq_getElem (by omega)
        rw [h2] at h1
        simpa [Addr.add] using World.cell?_spot h1
      subst hspot
      have key : ∀ j, j < 3 → w.cell? ⟨b, off + i * 3 + j, none⟩ = (prth l i).cells[j]? := fun j hj => by
        have h1 := hat j hj
        rw [Go.Deep.add_add] at h1
        have e : (⟨b, off, none⟩ : Addr).add (i * 3 + j) = ⟨b, off + i * 3 + j, none⟩ := by
          unfold Addr.add; split
          · rename_i h0; simp <;> omega
          · simp [Nat.add_assoc]
        rw [e] at h1; exact h1
      exact ⟨b, off, rfl, key 0 (by decide), key 1 (by decide), key 2 (by decide)⟩
    obtain ⟨b, off, rfl, _⟩ := each 0 hl
    refine ⟨b, off, c, by rw [hn]; exact hcs, fun i hil => ?_⟩
    obtain ⟨b', off', e, hR⟩ := each i hil
    cases e
    exact ⟨b, off, rfl, hR⟩
def tabD5 : DataW Unit := .agg ([0, 1, 2, 3, 4].map fun k => .slice ((rowsP k).map rowD5) [])
set_option maxRecDepth 100000 in
theorem ptab_of {W : World} {g : Nat} {cs : Array Value} {fuel : Nat} {p : List MemPlace} (hgg : g = 4) (hg : Tryz.prog.globalNamed "sextant/pack.rows" = some g) (hv : W.var? Tryz.prog "sextant/pack.rows" = some cs)
    (h : DataW.trod (fun _ => ()) Tryz.prog W 0 (fun _ => true) false fuel 335 cs.toList = some (tabD5, p)) : PTab W.heap.size W := by
  obtain ⟨xs, m, _, e, hcl, hxl, hx⟩ := DataW.trod_array Tryz.underlying335 h
  have hC : Tryz.prog.cellsOf 334 = 1 := by kernel_rfl
  have hC5 : Tryz.prog.cellsOf 335 = 5 := by kernel_rfl
  rw [hC5] at hcl
  rw [hC] at hx
  have hd : tabD5 = .agg (xs.map (·.1)) := congrArg Prod.fst e
  unfold tabD5 at hd
  have hd2 : ([0, 1, 2, 3, 4].map fun k => (DataW.slice ((rowsP k).map rowD5) [] : DataW Unit)) = xs.map (·.1) := by injection hd
  subst hgg
  have key : ∀ k, k < 5 → ∃ tb tq rc, cs[k]? = some (.slice (some ⟨tb, tq, none⟩) (len (rowsP k)) rc) ∧ PRows W (some ⟨tb, tq, none⟩) (rowsP k) := fun k hk => by
    have hxk : k < xs.length := by omega
    have h1 := hx k hk
    rw [List.getElem?_eq_getElem hxk] at h1
    have h2 : (xs[k]'hxk).1 = .slice ((rowsP k).map rowD5) [] := by
      have h3 : (xs.map (·.1))[k]? = some (xs[k]'hxk).1 := by rw [List.getElem?_map, List.getElem?_eq_getElem hxk]; rfl
      rw [← hd2, List.getElem?_map] at h3
      have h4 : [0, 1, 2, 3, 4][k]? = some k := by
        have : k = 0 ∨ k = 1 ∨ k = 2 ∨ k = 3 ∨ k = 4 := by omega
        rcases this with rfl | rfl | rfl | rfl | rfl <;> rfl
      rw [h4] at h3
      exact (Option.some.inj h3).symm
    have h5 : DataW.trod (fun _ => ()) Tryz.prog W 0 (fun _ => true) false m 334 ((cs.toList.drop (k * 1)).take 1) = some (.slice ((rowsP k).map rowD5) [], (xs[k]'hxk).2) := by rw [h1, ← h2]
    obtain ⟨tb, tq, rc, hcs, hr⟩ := laid_prows h5 (rowsP_pos k)
    refine ⟨tb, tq, rc, ?_, hr⟩
    have h6 : ((cs.toList.drop (k * 1)).take 1)[0]? = some (.slice (some ⟨tb, tq, none⟩) (len (rowsP k)) rc) := by rw [hcs]; rfl
    rw [List.getElem?_take, if_pos (by decide), List.getElem?_drop] at h6
    simpa using h6
  have hlt : 4 < W.heap.size := by
    obtain ⟨tb, tq, rc, h1, h2⟩ := key 0 (by decide)
    have := World.var?_cell hg hv 0
    exact lt_of_cell (this.trans h1)
  refine ⟨hlt, Nat.le_refl _, fun k hk => ?_⟩
  obtain ⟨tb, tq, rc, h1, h2⟩ := key k hk
  refine ⟨tb, tq, rc, ?_, (World.var?_cell hg hv k).trans h1, h2⟩
  obtain ⟨b, off, e, hR⟩ := h2 0 (rowsP_pos k)
  cases e
  exact lt_of_cell hR.c0
end Go.Proofs.YtihiaopilnjonaaGreatDoor
namespace Go.Proofs.YtihiaopilnjonaaGreatDoor
set_option linter.unusedSimpArgs false
set_option linter.unusedVariables false
open Go.RowKit Go.ChangeShapes Go.WideShapes Go.ChangeAt
set_option maxRecDepth 100000 in
theorem of_laidW {W : World} (h : laidMetH Tryz.prog Rows.wirePartsRow.laid W) : TE7 W.heap.size W := by
  have h' : laidMet Tryz.prog (Rows.wirePartsRow.laid.filter fun x => x.2.handleName?.isNone) W ∧ handlesMet Tryz.prog (Rows.wirePartsRow.laid.filter fun x => x.2.handleName?.isSome) W := h
  obtain ⟨⟨ps, ⟨gp, tp, csp, fp, pp, qp, hgp, htp, hvp, hdp, ⟨g0, t0, cs0, f0, p0, q0, hg0, ht0, hv0, hd0, ⟨g1, t1, cs1, f1, p1, q1, hg1, ht1, hv1, hd1, ⟨g2, t2, cs2, f2, p2, q2, hg2, ht2, hv2, hd2, ⟨g3, t3, cs3, f3, p3, q3, hg3, ht3, hv3, hd3, ⟨g4, t4, cs4, f4, p4, q4, hg4, ht4, hv4, hd4, _⟩, _⟩, _⟩, _⟩, _⟩, _⟩, _, _⟩, hH⟩ := h'
  obtain rfl : 4 = gp := Option.some.inj ((show _ = some 4 by kernel_rfl).symm.trans hgp)
  obtain rfl : 335 = tp := Option.some.inj ((show _ = some 335 by kernel_rfl).symm.trans htp)
  obtain rfl : 1 = g0 := Option.some.inj ((show _ = some 1 by kernel_rfl).symm.trans hg0)
  obtain rfl : 313 = t0 := Option.some.inj ((show _ = some 313 by kernel_rfl).symm.trans ht0)
  obtain rfl : 5 = g1 := Option.some.inj ((show _ = some 5 by kernel_rfl).symm.trans hg1)
  obtain rfl : 313 = t1 := Option.some.inj ((show _ = some 313 by kernel_rfl).symm.trans ht1)
  obtain rfl : 3 = g2 := Option.some.inj ((show _ = some 3 by kernel_rfl).symm.trans hg2)
  obtain rfl : 313 = t2 := Option.some.inj ((show _ = some 313 by kernel_rfl).symm.trans ht2)
  obtain rfl : 6 = g3 := Option.some.inj ((show _ = some 6 by kernel_rfl).symm.trans hg3)
  obtain rfl : 313 = t3 := Option.some.inj ((show _ = some 313 by kernel_rfl).symm.trans ht3)
  obtain rfl : 2 = g4 := Option.some.inj ((show _ = some 2 by kernel_rfl).symm.trans hg4)
  obtain rfl : 313 = t4 := Option.some.inj ((show _ = some 313 by kernel_rfl).symm.trans ht4)
  have hET : ErrType W := by
    obtain ⟨name, u, ty, e1, e2, e3, e4, e5⟩ := hH Rows.wirePartsRow.laid[1] (List.mem_singleton.2 rfl)
    have en : name = [101, 114, 114, 111, 114] := (Option.some.inj e1).symm
    subst en
    obtain rfl : 284 = u := Option.some.inj ((show _ = some 284 by kernel_rfl).symm.trans e2)
    have hm : ty ∈ (List.range Tryz.prog.types.size).filter fun t => Tryz.prog.rowNamed t [101, 114, 114, 111, 114] := List.mem_filter.2 ⟨List.mem_range.2 e3, e4⟩
    rw [oneRow] at hm
    obtain rfl := List.mem_singleton.1 hm
    have hg : Tryz.prog.globalNamed Rows.wirePartsRow.laid[1].1 = some 0 := (by kernel_rfl)
    exact World.var?_cell hg e5 0
  exact ⟨ptab_of rfl hgp hvp hdp, ⟨tab_of (by decide) hg0 hv0 hd0, tab_of (by decide) hg3 hv3 hd3, tab_of (by decide) hg1 hv1 hd1, tab_of (by decide) hg2 hv2 hd2, tab_of (by decide) hg4 hv4 hd4⟩, hET, Nat.le_refl _, lt_of_cell hET⟩
end Go.Proofs.YtihiaopilnjonaaGreatDoor
namespace Go.Proofs.YtihiaopilnjonaaGreatDoor
open Go.RowKit
set_option linter.unusedSimpArgs false
set_option linter.unusedVariables false
def cut40 (x : ByteArray) : ByteArray := x.extract 0 (min x.size 40)
def textsP (l : List ByteArray) (n : Nat) : List ByteArray := (l.take n).map cut40
theorem textsP_len (l : List ByteArray) (n : Nat) : len (textsP l n) = min (len l) n := by unfold textsP; simp only [len, List.length_map, List.length_take]; omega
def CWS (w : World) : CP := fun b o x => w.cell? ⟨b, o, none⟩ = some x ∧ ∃ cs, w.heap[b]? = some (.cells cs 9 (0, 0))
theorem cws_keep {w w' : World} (h : ∀ (b : Nat) (cs : Array Value), w.heap[b]? = some (.cells cs 9 (0, 0)) → w'.heap[b]? = w.heap[b]?) (b o : Nat) (x : Value) (hc : CWS w b o x) : CWS w' b o x := by
  obtain ⟨h1, cs, h2⟩ := hc
  have e := h b cs h2
  refine ⟨?_, cs, e.trans h2⟩
  have : w'.cell? ⟨b, o, none⟩ = w.cell? ⟨b, o, none⟩ := by unfold World.cell?; rw [e]
  rw [this]; exact h1
theorem StrsC.wkeep {w w' : World} {a : Option Addr} {l : List ByteArray} (hs : StrsC (CWS w) a l) (h : ∀ (b : Nat) (cs : Array Value), w.heap[b]? = some (.cells cs 9 (0, 0)) → w'.heap[b]? = w.heap[b]?) : StrsC (CWS w') a l := hs.imp (cws_keep h)
theorem StrsC.wlow {w w' : World} {a : Option Addr} {l : List ByteArray} (hs : StrsC (CWS w) a l) (hb : Below w.heap.size w w') : StrsC (CWS w') a l := hs.wkeep fun b cs h => hb.block b (lt_of_block h)
theorem StrsC.wset {w : World} {t j : Nat} {cs : Array Value} {T : TypeId} {fr : Nat × Nat} {a : Option Addr} {l : List ByteArray} (hs : StrsC (CWS w) a l) (h : w.heap[t]? = some (.cells cs T fr)) (hT : T ≠ 9) (v : Value) : StrsC (CWS (w.setCell ⟨t, j, none⟩ v)) a l := hs.wkeep fun b cs' hb => Below.heap_setCell _ _ _ _ (show b ≠ t from fun e => by subst e; rw [h] at hb; cases hb; exact hT rfl)
theorem StrsC.wstrs {w : World} {a : Option Addr} {l : List ByteArray} (hs : StrsC (CWS w) a l) (B : Nat) : Strs B w a l := fun i hi => by
  obtain ⟨b, off, e, h1, cs, h2⟩ := hs i hi
  exact ⟨b, off, e, h1, .inr ⟨_, h2, not8_cells (by decide)⟩⟩
theorem strs_of_own {w : World} {base n : Nat} {v : Value} {l : List ByteArray} (h : w.ownsRow base 9 1 v n (l.map Value.string)) : ∃ a c, v = .slice a (len l) c ∧ StrsC (CWS w) a l ∧ ∀ b off, a = some ⟨b, off, none⟩ → base ≤ b := by
  obtain ⟨a, c, rfl, h1⟩ := own_txs h
  refine ⟨a, c, rfl, fun i hi => ?_, fun b off e => (h.lt b (by rw [e]; rfl)).1⟩
  obtain ⟨b, off, rfl, hc⟩ := h1 i hi
  obtain ⟨cs, hcs⟩ := own_type h b rfl
  exact ⟨b, off, rfl, hc, cs, hcs⟩
def TextsIs (l : List ByteArray) (w : World) (e : Ending) (w' : World) : Prop := ∃ a' c', e = .returned (.slice a' (len l) c') ∧ StrsC (CWS w') a' l ∧ (∀ b off, a' = some ⟨b, off, none⟩ → w.heap.size ≤ b) ∧ Below w.heap.size w w'
set_option maxRecDepth 100000 in
set_option maxHeartbeats 4000000 in
theorem texts_any (a : Option Addr) (c : Nat) (l : List ByteArray) (n : Nat) (w : World) (hl : StrsC (CW w) a l) (hn : len l ≤ 9223372036854775807) (hk : n ≤ 1000) :
    Calls Tryz.prog 73 #[.slice a (len l) c, .int .i64 n] w (TextsIs (textsP l n) w) := by
  have HL := Lib.hid hl
  clear hl
  obtain ⟨N, hN⟩ : ∃ N, min (len l) n = N := ⟨_, rfl⟩
  have HTL : Hid (textsP l N = textsP l n) := Lib.hid (by
    unfold textsP
    rw [← hN]
    by_cases h : len l ≤ n
    · rw [Nat.min_eq_left h, List.take_of_length_le (by rw [len_eq]; exact Nat.le_refl _), List.take_of_length_le (by rw [← len_eq]; exact h)]
    · rw [Nat.min_eq_right (by omega)])
  obtain ⟨i0, hi, hz0, hz1, hz2⟩ := info_parts info_str
  have hN1 : N ≤ len l ∧ N ≤ n ∧ (N = len l ∨ N = n) := by omega
  clear hN
  go_enter Tryz.func73, Tryz.ntmps73
  go_wp2
  go_loopg [5, 6] N (fun g lv i wr => ∃ (m : Nat) (acc : List ByteArray), g + m = N ∧ i = .int .i64 m ∧ Hid (acc = textsP l m) ∧ Hid (Below w.heap.size w wr) ∧ Hid (wr.ownsRow w.heap.size 9 1 lv m (acc.map Value.string)))
  case atStart => exact ⟨0, [], rfl, rfl, rfl, Below.refl _ _, World.ownsRow_nil _ _ _ _⟩
  case round =>
    obtain ⟨m, acc, hm, rfl, HA, HB, HO⟩ := hrel
    by_cases hlt : m < N
    · have i1 : (m : Int) < len l := by omega
      have i2 : (m : Int) < n := by omega
      obtain ⟨gb, go, rfl, hc⟩ := HL.out m (by omega)
      have hcx : wr.cell? ⟨gb, go + m, none⟩ = some (.string (sth l m)) := (HB.out.cell (p := ⟨gb, go + m, none⟩) (lt_of_cell hc)).trans hc
      have hgw := lt_of_cell hc
      have hnx : some gb ≠ u5.ownBlock := own_apart_lt HO.out hgw
      have HAN : Hid (textsP l (m + 1) = acc ++ [cut40 (sth l m)]) := Lib.hid (by
        have hml : m < l.length := by have := len_eq l; omega
        rw [HA.out]; unfold textsP
        rw [List.take_succ_eq_append_getElem hml, List.map_append, sth_eq l m hml]; rfl)
      generalize sth l m = x at hcx HAN
      obtain ⟨k, hk2⟩ : ∃ k, min x.size 40 = k := ⟨_, rfl⟩
      have mn : min (x.size : Int) 40 = (k : Int) := by rw [← hk2]; omega
      have sl : k ≤ x.size := by rw [← hk2]; exact Nat.min_le_left _ _
      obtain ⟨y, hy0⟩ : ∃ y, x.extract 0 k = y := ⟨_, rfl⟩
      have HAN : Hid (textsP l (m + 1) = acc ++ [y]) := Lib.hid (by rw [HAN.out, ← hy0, ← hk2]; rfl)
      clear hk2 hc
      have cx := hcx
      clear hcx
      have hwr : w.heap.size ≤ wr.heap.size := HB.out.size
      go_upto_region 5 with fail
      refine wp_region_tail 14 13 (u5.ownBlock) (phis [fun u _ => u = (u5), fun u _ => u = (.slice (some ⟨gb, go, none⟩) (len l) c), fun u _ => u = (.int .i64 m), fun u _ => u = (.pointer (some ⟨gb, go + m, none⟩)), fun u _ => u = (.string x), fun u _ => u = (.slice (some ⟨gb, go, none⟩) (len l) c), fun u _ => u = (.int .i64 m), fun u _ => u = (.pointer (some ⟨gb, go + m, none⟩)), fun u _ => u = (.string x), fun u _ => u = (.int .i64 x.size), fun u _ => u = (.int .i64 k), fun u _ => u = (.string y), fun u w' => ∃ b, u = .slice (some ⟨b, 0, none⟩) 1 1 ∧ some b ≠ u5.ownBlock ∧ w'.heap[b]? = some (.cells #[.string y] 9 (0, 0)), fun u w' => w'.ownsRow w.heap.size 9 1 u (m + 1) ((acc.map Value.string) ++ [.string y])]) rfl (by kernel_rfl) (by kernel_rfl) (mono_of ⟨mono_eq, mono_eq, mono_eq, mono_eq, mono_eq, mono_eq, mono_eq, mono_eq, mono_eq, mono_eq, mono_eq, mono_eq, ?m12, ?m13, trivial⟩) (steps_of 14 ⟨?s0, ?s1, ?s2, ?s3, ?s4, ?s5, ?s6, ?s7, ?s8, ?s9, ?s10, ?s11, ?s12, ?s13, trivial⟩) ?_
      case m12 =>
        exact ⟨fun u w1 w' h ⟨b, h1, hb, hb'⟩ => ⟨b, h1, hb, ext_block h hb'⟩, fun _ u w1 w' h ⟨b, h1, hb, hb'⟩ => ⟨b, h1, hb, extB_block h hb hb'⟩⟩
      case m13 =>
        exact ⟨fun u w1 w' h hu => own_below hu h, fun hn => absurd rfl hn⟩
      case s0 =>
        refine step_val (v := (u5)) (fun av wv hE hS hO hD => ?_) (fun _ => rfl)
        have h5 : av.eval (.tmp 5) = (u5) := hO.2.2 5 rfl
        have f5 := (ev_form av 5).symm.trans h5
        refine ⟨rfl, ?_⟩
        simp [go_sem, f5, i1, mn, sl, hy0]
      case s1 =>
        refine step_val (v := (.slice (some ⟨gb, go, none⟩) (len l) c)) (fun av wv hE hS hO hD => ?_) (fun _ => rfl)
        have h0 : av.eval (.tmp 0) = (.slice (some ⟨gb, go, none⟩) (len l) c) := hO.2.2 0 rfl
        have f0 := (ev_form av 0).symm.trans h0
        refine ⟨rfl, ?_⟩
        simp [go_sem, f0, i1, mn, sl, hy0]
      case s2 =>
        refine step_val (v := (.int .i64 m)) (fun av wv hE hS hO hD => ?_) (fun _ => rfl)
        have h6 : av.eval (.tmp 6) = (.int .i64 m) := hO.2.2 6 rfl
        have f6 := (ev_form av 6).symm.trans h6
        refine ⟨rfl, ?_⟩
        simp [go_sem, f6, i1, mn, sl, hy0]
      case s3 =>
        refine step_val (v := (.pointer (some ⟨gb, go + m, none⟩))) (fun av wv hE hS hO hD => ?_) (fun _ => rfl)
        have d19 : av.eval (.tmp 19) = (.slice (some ⟨gb, go, none⟩) (len l) c) := hD.1 rfl _ rfl
        have f19 := (ev_form av 19).symm.trans d19
        have d20 : av.eval (.tmp 20) = (.int .i64 m) := hD.2.1 rfl _ rfl
        have f20 := (ev_form av 20).symm.trans d20
        refine ⟨rfl, ?_⟩
        simp [go_sem, f19, f20, i1, mn, sl, hy0]
      case s4 =>
        refine step_val (v := (.string x)) (fun av wv hE hS hO hD => ?_) (fun _ => rfl)
        have d21 : av.eval (.tmp 21) = (.pointer (some ⟨gb, go + m, none⟩)) := hD.1 rfl _ rfl
        have f21 := (ev_form av 21).symm.trans d21
        have cx := extB_cell hE hnx cx
        refine ⟨rfl, ?_⟩
        simp [go_sem, f21, cx, i1, mn, sl, hy0]
      case s5 =>
        refine step_val (v := (.slice (some ⟨gb, go, none⟩) (len l) c)) (fun av wv hE hS hO hD => ?_) (fun _ => rfl)
        have h0 : av.eval (.tmp 0) = (.slice (some ⟨gb, go, none⟩) (len l) c) := hO.2.2 0 rfl
        have f0 := (ev_form av 0).symm.trans h0
        refine ⟨rfl, ?_⟩
        simp [go_sem, f0, i1, mn, sl, hy0]
      case s6 =>
        refine step_val (v := (.int .i64 m)) (fun av wv hE hS hO hD => ?_) (fun _ => rfl)
        have h6 : av.eval (.tmp 6) = (.int .i64 m) := hO.2.2 6 rfl
        have f6 := (ev_form av 6).symm.trans h6
        refine ⟨rfl, ?_⟩
        simp [go_sem, f6, i1, mn, sl, hy0]
      case s7 =>
        refine step_val (v := (.pointer (some ⟨gb, go + m, none⟩))) (fun av wv hE hS hO hD => ?_) (fun _ => rfl)
        have d23 : av.eval (.tmp 23) = (.slice (some ⟨gb, go, none⟩) (len l) c) := hD.1 rfl _ rfl
        have f23 := (ev_form av 23).symm.trans d23
        have d24 : av.eval (.tmp 24) = (.int .i64 m) := hD.2.1 rfl _ rfl
        have f24 := (ev_form av 24).symm.trans d24
        refine ⟨rfl, ?_⟩
        simp [go_sem, f23, f24, i1, mn, sl, hy0]
      case s8 =>
        refine step_val (v := (.string x)) (fun av wv hE hS hO hD => ?_) (fun _ => rfl)
        have d25 : av.eval (.tmp 25) = (.pointer (some ⟨gb, go + m, none⟩)) := hD.1 rfl _ rfl
        have f25 := (ev_form av 25).symm.trans d25
        have cx := extB_cell hE hnx cx
        refine ⟨rfl, ?_⟩
        simp [go_sem, f25, cx, i1, mn, sl, hy0]
      case s9 =>
        refine step_val (v := (.int .i64 x.size)) (fun av wv hE hS hO hD => ?_) (fun _ => rfl)
        have d26 : av.eval (.tmp 26) = (.string x) := hD.1 rfl _ rfl
        have f26 := (ev_form av 26).symm.trans d26
        refine ⟨rfl, ?_⟩
        simp [go_sem, f26, i1, mn, sl, hy0]
      case s10 =>
        refine step_val (v := (.int .i64 k)) (fun av wv hE hS hO hD => ?_) (fun _ => rfl)
        have d27 : av.eval (.tmp 27) = (.int .i64 x.size) := hD.1 rfl _ rfl
        have f27 := (ev_form av 27).symm.trans d27
        refine ⟨rfl, ?_⟩
        simp [go_sem, f27, i1, mn, sl, hy0]
      case s11 =>
        refine step_val (v := (.string y)) (fun av wv hE hS hO hD => ?_) (fun _ => rfl)
        have d22 : av.eval (.tmp 22) = (.string x) := hD.1 rfl _ rfl
        have f22 := (ev_form av 22).symm.trans d22
        have d28 : av.eval (.tmp 28) = (.int .i64 k) := hD.2.1 rfl _ rfl
        have f28 := (ev_form av 28).symm.trans d28
        refine ⟨rfl, ?_⟩
        simp [go_sem, f22, f28, i1, mn, sl, hy0]
      case s12 =>
        refine step_wp (fun av wv hE hS hO hD => ?_)
        have d29 : av.eval (.tmp 29) = (.string y) := hD.1 rfl _ rfl
        have f29 := (ev_form av 29).symm.trans d29
        refine ⟨rfl, ?_⟩
        refine wp_of_run (v := .slice (some ⟨wv.heap.size, 0, none⟩) 1 1) (w' := wv.alloc (.cells #[.string y] 9)) (by simp [go_sem, f29]) ⟨_, rfl, es_of_ext (balloc (Ext_refl _) _), wv.heap.size, rfl, ?_, heap_alloc_new _ _⟩
        exact own_apart_ge HO.out (by have := hE.size; simp at this; omega)
      case s13 =>
        refine step_wp (fun av wv hE hS hO hD => ?_)
        have d18 : av.eval (.tmp 18) = (u5) := hD.1 rfl _ rfl
        have f18 := (ev_form av 18).symm.trans d18
        have d30 : (fun u w' => ∃ b, u = .slice (some ⟨b, 0, none⟩) 1 1 ∧ some b ≠ u5.ownBlock ∧ w'.heap[b]? = some (.cells #[.string y] 9 (0, 0))) (av.eval (.tmp 30)) wv := hD.2.1 rfl _ rfl
        refine ⟨rfl, ?_⟩
        obtain ⟨b19, h19, hb19, hc19⟩ := d30
        have hown1 : wv.ownsRow w.heap.size 9 1 u5 m (acc.map Value.string) := own_below (w := wr.drew) HO.out (hS rfl)
        refine wp_append_lies wv _ _ _ rfl w.heap.size 9 i0 (.string ⟨#[]⟩) 1 16 Tryz.underlying26 hi hz0 hz1 hz2 rfl (by decide) u5 m _ d18 hown1 ⟨b19, 0, none⟩ 1 1 [.string y] (by exact h19) rfl (World.news_of_block hc19) (by intro u hu; simp at hu; rcases hu with rfl <;> rfl) (by decide) (by unfold maxLen; omega) (by omega) (by have := hE.size; simp at this; omega) _ rfl ?_
        intro g2 cap2 w2 hown2 hgrow hat hlt2
        exact ⟨_, rfl, es_sp hgrow, hown2⟩
      intro a' w' hE hO hall
      have hA := act_of_outer (ds := [18, 19, 20, 21, 22, 23, 24, 25, 26, 27, 28, 29, 30, 31]) rfl hO (by kernel_rfl)
      have e18 : (fun u _ => u = (u5)) (a'.eval (.tmp 18)) w' := hall.1 _ rfl
      have e19 : (fun u _ => u = (.slice (some ⟨gb, go, none⟩) (len l) c)) (a'.eval (.tmp 19)) w' := hall.2.1 _ rfl
      have e20 : (fun u _ => u = (.int .i64 m)) (a'.eval (.tmp 20)) w' := hall.2.2.1 _ rfl
      have e21 : (fun u _ => u = (.pointer (some ⟨gb, go + m, none⟩))) (a'.eval (.tmp 21)) w' := hall.2.2.2.1 _ rfl
      have e22 : (fun u _ => u = (.string x)) (a'.eval (.tmp 22)) w' := hall.2.2.2.2.1 _ rfl
      have e23 : (fun u _ => u = (.slice (some ⟨gb, go, none⟩) (len l) c)) (a'.eval (.tmp 23)) w' := hall.2.2.2.2.2.1 _ rfl
      have e24 : (fun u _ => u = (.int .i64 m)) (a'.eval (.tmp 24)) w' := hall.2.2.2.2.2.2.1 _ rfl
      have e25 : (fun u _ => u = (.pointer (some ⟨gb, go + m, none⟩))) (a'.eval (.tmp 25)) w' := hall.2.2.2.2.2.2.2.1 _ rfl
      have e26 : (fun u _ => u = (.string x)) (a'.eval (.tmp 26)) w' := hall.2.2.2.2.2.2.2.2.1 _ rfl
      have e27 : (fun u _ => u = (.int .i64 x.size)) (a'.eval (.tmp 27)) w' := hall.2.2.2.2.2.2.2.2.2.1 _ rfl
      have e28 : (fun u _ => u = (.int .i64 k)) (a'.eval (.tmp 28)) w' := hall.2.2.2.2.2.2.2.2.2.2.1 _ rfl
      have e29 : (fun u _ => u = (.string y)) (a'.eval (.tmp 29)) w' := hall.2.2.2.2.2.2.2.2.2.2.2.1 _ rfl
      have e30 : (fun u w' => ∃ b, u = .slice (some ⟨b, 0, none⟩) 1 1 ∧ some b ≠ u5.ownBlock ∧ w'.heap[b]? = some (.cells #[.string y] 9 (0, 0))) (a'.eval (.tmp 30)) w' := hall.2.2.2.2.2.2.2.2.2.2.2.2.1 _ rfl
      have e31 : (fun u w' => w'.ownsRow w.heap.size 9 1 u (m + 1) ((acc.map Value.string) ++ [.string y])) (a'.eval (.tmp 31)) w' := hall.2.2.2.2.2.2.2.2.2.2.2.2.2.1 _ rfl
      obtain ⟨v30, hv30⟩ : ∃ v, a'.eval (.tmp 30) = v := ⟨_, rfl⟩
      rw [hv30] at e30
      obtain ⟨v31, hv31⟩ : ∃ v, a'.eval (.tmp 31) = v := ⟨_, rfl⟩
      rw [hv31] at e31
      simp only [List.foldl_cons, List.foldl_nil, Act.put, List.setIfInBounds_toArray, List.set_cons_succ, List.set_cons_zero, e18, e19, e20, e21, e22, e23, e24, e25, e26, e27, e28, e29, hv30, hv31] at hA
      clear hO hall e18 e19 e20 e21 e22 e23 e24 e25 e26 e27 e28 e29 hv30 hv31
      subst hA
      have HB2 : Hid (Below w.heap.size w w') := Lib.hid (grownBy_below HB.out (of_drewE hE) (fun k hk => by have := (HO.out.lt k hk).1; omega))
      have HO2 : Hid (w'.ownsRow w.heap.size 9 1 v31 (m + 1) ((acc ++ [y]).map Value.string)) := Lib.hid (by rw [List.map_append]; exact e31)
      clear hE e31 e30 cx mn sl hy0
      go_wp2
      go_roundg (N - (m + 1))
      case rel => exact ⟨m + 1, acc ++ [y], by omega, by go_num, HAN.out.symm, HB2.out, HO2.out⟩
      case measure => omega
    · obtain rfl : m = N := by omega
      have HF : Hid (acc = textsP l n) := Lib.hid (by rw [HA.out, HTL.out])
      by_cases hq : m < len l
      · have i1 : (m : Int) < len l := by omega
        have i2 : ¬ (m : Int) < n := by omega
        go_wp2
        go_ret
        obtain ⟨a', c', h1, h2, h3⟩ := strs_of_own HO.out
        rw [HF.out] at h1 h2
        exact ⟨a', c', by rw [h1]; rfl, h2, h3, HB.out⟩
      · have i1 : ¬ (m : Int) < len l := by omega
        go_wp2
        go_ret
        obtain ⟨a', c', h1, h2, h3⟩ := strs_of_own HO.out
        rw [HF.out] at h1 h2
        exact ⟨a', c', by rw [h1]; rfl, h2, h3, HB.out⟩
end Go.Proofs.YtihiaopilnjonaaGreatDoor
namespace Go.Proofs.YtihiaopilnjonaaGreatDoor
open Go.RowKit
set_option linter.unusedSimpArgs false
set_option linter.unusedVariables false
theorem StrsC.low {w w' : World} {a : Option Addr} {l : List ByteArray} (h : StrsC (CW w) a l) (hb : Below w.heap.size w w') : StrsC (CW w') a l := h.imp fun b o x hc => (hb.cell (p := ⟨b, o, none⟩) (lt_of_cell hc)).trans hc
theorem Strs.cw {B : Nat} {w : World} {a : Option Addr} {l : List ByteArray} (h : Strs B w a l) : StrsC (CW w) a l := StrsC.imp (C := CellAt B w) (fun _ _ _ h => h.cell) h
def SlotIs (L : Int) (q : Bool) (idx : Int) (ws ps : List ByteArray) (w : World) (e : Ending) (w' : World) : Prop := ∃ a1 k1 a2 k2, e = .returned (.agg #[.int .u64 L, .bool q, .int .u64 idx, .slice a1 (len ws) k1, .slice a2 (len ps) k2]) ∧ StrsC (CWS w') a1 ws ∧ StrsC (CWS w') a2 ps ∧ Below w.heap.size w w'
set_option maxRecDepth 100000 in
set_option maxHeartbeats 4000000 in
theorem slot_any (L : Int) (q : Bool) (idx : Int) (a1 a2 : Option Addr) (k1 k2 : Nat) (ws ps : List ByteArray) (w : World) (h1 : StrsC (CW w) a1 ws) (h2 : StrsC (CW w) a2 ps) (n1 : len ws ≤ 9223372036854775807) (n2 : len ps ≤ 9223372036854775807) :
    Calls Tryz.prog 33 #[.agg #[.int .u64 L, .bool q, .int .u64 idx, .slice a1 (len ws) k1, .slice a2 (len ps) k2]] w (SlotIs L q idx (textsP ws 70) (textsP ps 20) w) := by
  have H1 := Lib.hid (fun (w' : World) (hb : Below w.heap.size w w') => texts_any a1 k1 ws 70 w' (h1.low hb) n1 (by decide))
  have H2 := Lib.hid (fun (w' : World) (hb : Below w.heap.size w w') => texts_any a2 k2 ps 20 w' (h2.low hb) n2 (by decide))
  clear h1 h2
  generalize textsP ws 70 = ws' at H1
  generalize textsP ps 20 = ps' at H2
  go_enter Tryz.func33, Tryz.ntmps33
  go_upto_region 1 with fail
  obtain ⟨sb, hsb⟩ : ∃ sb, w.heap.size = sb := ⟨_, rfl⟩
  obtain ⟨V, hV⟩ : ∃ V, (w.alloc (.cells #[.int .u64 L, .bool q, .int .u64 idx, .slice a1 (len ws) k1, .slice a2 (len ps) k2] 44)).alloc (.cells #[.int .u64 0, .bool false, .int .u64 0, .slice none 0 0, .slice none 0 0] 44) = V := ⟨_, rfl⟩
  have HB : Hid (Below w.heap.size w V) := Lib.hid (by rw [← hV]; exact balloc (balloc (Below.refl _ _) _) _)
  have HS : Hid (V.heap[sb]? = some (.cells #[.int .u64 L, .bool q, .int .u64 idx, .slice a1 (len ws) k1, .slice a2 (len ps) k2] 44 (0, 0))) := Lib.hid (by rw [← hV, ← hsb]; exact block_alloc (heap_alloc_new _ _) _)
  have HR : Hid (V.heap[sb + 1]? = some (.cells #[.int .u64 0, .bool false, .int .u64 0, .slice none 0 0, .slice none 0 0] 44 (0, 0))) := Lib.hid (by rw [← hV]; exact alloc_new_at _ (by simp [hsb]))
  have HSB := Lib.hid hsb
  try rw [hV]
  try simp only [hsb]
  clear hV hsb
  have cS : ∀ o, V.cell? ⟨sb, o, none⟩ = _ := block_cell HS.out
  go_wp2_with fail
  refine (H1.out V HB.out).mono ?_
  rintro e w1 ⟨b1, c1, rfl, hs, hf, hb⟩
  have HS1 := Lib.hid hs
  have HB1 := Lib.hid (bnext HB.out hb)
  have HSa := Lib.hid ((hb.block _ (lt_of_block HS.out)).trans HS.out)
  have HRa := Lib.hid ((hb.block _ (lt_of_block HR.out)).trans HR.out)
  clear hs hf hb cS HS HR HB
  have cS : ∀ o, w1.cell? ⟨sb, o, none⟩ = _ := block_cell HSa.out
  have fS : ∀ o, w1.frozen? ⟨sb, o, none⟩ = false := block_free HSa.out
  have lS : sb < w1.heap.size := lt_of_block HSa.out
  go_upto_region 2 with fail
  obtain ⟨W1, hW1⟩ : ∃ W1, w1.setCell ⟨sb, 3, none⟩ (.slice b1 (len ws') c1) = W1 := ⟨_, rfl⟩
  have HSb : Hid (W1.heap[sb]? = some (.cells #[.int .u64 L, .bool q, .int .u64 idx, .slice b1 (len ws') c1, .slice a2 (len ps) k2] 44 (0, 0))) := Lib.hid (by rw [← hW1]; exact block_setCell HSa.out _)
  have HRb : Hid (W1.heap[sb + 1]? = some (.cells #[.int .u64 0, .bool false, .int .u64 0, .slice none 0 0, .slice none 0 0] 44 (0, 0))) := Lib.hid (by rw [← hW1]; exact block_setCell_ne HRa.out (show sb + 1 ≠ sb by omega) _)
  have HB2 : Hid (Below w.heap.size w W1) := Lib.hid (by rw [← hW1]; exact bset HB1.out (show w.heap.size ≤ sb by rw [HSB.out]; exact Nat.le_refl _) _)
  have HS2 : Hid (StrsC (CWS W1) b1 ws') := Lib.hid (by rw [← hW1]; exact HS1.out.wset HSa.out (by decide) _)
  clear cS fS lS HSa HRa HB1 HS1
  rw [hW1]
  clear hW1
  have cS : ∀ o, W1.cell? ⟨sb, o, none⟩ = _ := block_cell HSb.out
  go_wp2_with fail
  refine (H2.out W1 HB2.out).mono ?_
  rintro e w2 ⟨b2, c2, rfl, hs, hf, hb⟩
  have HT1 := Lib.hid hs
  have HB3 := Lib.hid (bnext HB2.out hb)
  have HSc := Lib.hid ((hb.block _ (lt_of_block HSb.out)).trans HSb.out)
  have HRc := Lib.hid ((hb.block _ (lt_of_block HRb.out)).trans HRb.out)
  have HS3 : Hid (StrsC (CWS w2) b1 ws') := Lib.hid (HS2.out.wlow hb)
  clear hs hf hb cS HSb HRb HB2 HS2
  have cS : ∀ o, w2.cell? ⟨sb, o, none⟩ = _ := block_cell HSc.out
  have fS : ∀ o, w2.frozen? ⟨sb, o, none⟩ = false := block_free HSc.out
  have lS : sb < w2.heap.size := lt_of_block HSc.out
  go_upto_region 3 with fail
  obtain ⟨W2, hW2⟩ : ∃ W2, w2.setCell ⟨sb, 4, none⟩ (.slice b2 (len ps') c2) = W2 := ⟨_, rfl⟩
  have HSd : Hid (W2.heap[sb]? = some (.cells #[.int .u64 L, .bool q, .int .u64 idx, .slice b1 (len ws') c1, .slice b2 (len ps') c2] 44 (0, 0))) := Lib.hid (by rw [← hW2]; exact block_setCell HSc.out _)
  have HRd : Hid (W2.heap[sb + 1]? = some (.cells #[.int .u64 0, .bool false, .int .u64 0, .slice none 0 0, .slice none 0 0] 44 (0, 0))) := Lib.hid (by rw [← hW2]; exact block_setCell_ne HRc.out (show sb + 1 ≠ sb by omega) _)
  have HB4 : Hid (Below w.heap.size w W2) := Lib.hid (by rw [← hW2]; exact bset HB3.out (show w.heap.size ≤ sb by rw [HSB.out]; exact Nat.le_refl _) _)
  have HS4 : Hid (StrsC (CWS W2) b1 ws') := Lib.hid (by rw [← hW2]; exact HS3.out.wset HSc.out (by decide) _)
  have HT2 : Hid (StrsC (CWS W2) b2 ps') := Lib.hid (by rw [← hW2]; exact HT1.out.wset HSc.out (by decide) _)
  clear cS fS lS HSc HRc HB3 HS3 HT1
  rw [hW2]
  clear hW2
  have cS : ∀ o, W2.cell? ⟨sb, o, none⟩ = _ := block_cell HSd.out
  have g0 : ∀ o, W2.cell? ⟨sb + 1, o, none⟩ = _ := block_cell HRd.out
  have g1 : ∀ o, W2.frozen? ⟨sb + 1, o, none⟩ = false := block_free HRd.out
  have g2 : sb + 1 < W2.heap.size := lt_of_block HRd.out
  go_wp2
  have hb5 := block_setCell (block_setCell (block_setCell (block_setCell (block_setCell HRd.out (o := 0) (.int .u64 L)) (o := 1) (.bool q)) (o := 2) (.int .u64 idx)) (o := 3) (.slice b1 (len ws') c1)) (o := 4) (.slice b2 (len ps') c2)
  have d : ∀ o, _ = _ := block_cell hb5
  have hset : ∀ {a : Option Addr} {l : List ByteArray}, StrsC (CWS W2) a l → StrsC (CWS (((((W2.setCell ⟨sb + 1, 0, none⟩ (.int .u64 L)).setCell ⟨sb + 1, 1, none⟩ (.bool q)).setCell ⟨sb + 1, 2, none⟩ (.int .u64 idx)).setCell ⟨sb + 1, 3, none⟩ (.slice b1 (len ws') c1)).setCell ⟨sb + 1, 4, none⟩ (.slice b2 (len ps') c2))) a l := fun h =>
    ((((h.wset HRd.out (by decide) _).wset (block_setCell HRd.out _) (by decide) _).wset (block_setCell (block_setCell HRd.out _) _) (by decide) _).wset (block_setCell (block_setCell (block_setCell HRd.out _) _) _) (by decide) _).wset (block_setCell (block_setCell (block_setCell (block_setCell HRd.out _) _) _) _) (by decide) _
  have hle : w.heap.size ≤ sb + 1 := by rw [HSB.out]; omega
  refine bodyPost_ret (v := .agg #[.int .u64 L, .bool q, .int .u64 idx, .slice b1 (len ws') c1, .slice b2 (len ps') c2]) ?_ rfl ⟨b1, c1, b2, c2, rfl, hset HS4.out, hset HT2.out, bset (bset (bset (bset (bset HB4.out hle _) hle _) hle _) hle _) hle _⟩
  simp [results, Tryz.results33, go_sem, d]
set_option maxRecDepth 100000 in
set_option maxHeartbeats 4000000 in
theorem same_yes (a b : Option Addr) (c d : Nat) (l : List ByteArray) (w : World) (ha : StrsC (CW w) a l) (hb : StrsC (CW w) b l) (hn : len l ≤ 9223372036854775807) :
    Calls Tryz.prog 92 #[.slice a (len l) c, .slice b (len l) d] w fun e w' => e = .returned (.bool true) ∧ Below w.heap.size w w' := by
  have HA := Lib.hid ha
  have HB := Lib.hid hb
  clear ha hb
  go_enter Tryz.func92, Tryz.ntmps92
  go_wp2
  go_loopg [5] (len l) (fun g i wr => ∃ m : Nat, g + m = len l ∧ i = .int .i64 m ∧ Hid (Below w.heap.size w wr))
  case atStart => exact ⟨0, rfl, rfl, Below.refl _ _⟩
  case round =>
    obtain ⟨m, hm, rfl, HW⟩ := hrel
    by_cases hlt : m < len l
    · have i1 : (m : Int) < len l := by omega
      obtain ⟨ga, oa, rfl, hca⟩ := (HA.out.low HW.out) m hlt
      obtain ⟨gb, ob, rfl, hcb⟩ := (HB.out.low HW.out) m hlt
      have c0 : wr.cell? ⟨ga, oa + m, none⟩ = some (.string (sth l m)) := hca
      have c1 : wr.cell? ⟨gb, ob + m, none⟩ = some (.string (sth l m)) := hcb
      clear hca hcb
      generalize sth l m = x at c0 c1
      go_upto_region 6 with fail
      go_quiet (fail)
      have HW2 := Lib.hid (bdrew HW.out)
      go_wp2
      go_roundg (len l - (m + 1))
      case rel => exact ⟨m + 1, by omega, by go_num, Lib.hid (bdrewN HW.out _)⟩
      case measure => omega
    · obtain rfl : m = len l := by omega
      have i1 : ¬ ((len l : Nat) : Int) < len l := by omega
      go_wp2
      go_ret
      exact ⟨rfl, HW.out⟩
set_option maxRecDepth 100000 in
set_option maxHeartbeats 4000000 in
theorem sameSlot_yes (L : Int) (q : Bool) (idx : Int) (a1 a2 b1 b2 : Option Addr) (k1 k2 c1 c2 : Nat) (ws ps : List ByteArray) (w : World) (ha1 : StrsC (CW w) a1 ws) (ha2 : StrsC (CW w) a2 ps) (hb1 : StrsC (CW w) b1 ws) (hb2 : StrsC (CW w) b2 ps) (n1 : len ws ≤ 9223372036854775807) (n2 : len ps ≤ 9223372036854775807) :
    Calls Tryz.prog 46 #[.agg #[.int .u64 L, .bool q, .int .u64 idx, .slice a1 (len ws) k1, .slice a2 (len ps) k2], .agg #[.int .u64 L, .bool q, .int .u64 idx, .slice b1 (len ws) c1, .slice b2 (len ps) c2]] w fun e w' => e = .returned (.bool true) ∧ Below w.heap.size w w' := by
  have HQ1 := Lib.hid (fun (w' : World) (h : Below w.heap.size w w') => same_yes a1 b1 k1 c1 ws w' (ha1.low h) (hb1.low h) n1)
  have HQ2 := Lib.hid (fun (w' : World) (h : Below w.heap.size w w') => same_yes a2 b2 k2 c2 ps w' (ha2.low h) (hb2.low h) n2)
  clear ha1 ha2 hb1 hb2
  generalize len ws = l1 at HQ1 ⊢
  generalize len ps = l2 at HQ2 ⊢
  go_enter Tryz.func46, Tryz.ntmps46
  go_upto_region 1 with fail
  obtain ⟨sb, hsb⟩ : ∃ sb, w.heap.size = sb := ⟨_, rfl⟩
  obtain ⟨tb, htb⟩ : ∃ tb, sb + 1 = tb := ⟨_, rfl⟩
  obtain ⟨V, hV⟩ : ∃ V, (w.alloc (.cells #[.int .u64 L, .bool q, .int .u64 idx, .slice a1 l1 k1, .slice a2 l2 k2] 44)).alloc (.cells #[.int .u64 L, .bool q, .int .u64 idx, .slice b1 l1 c1, .slice b2 l2 c2] 44) = V := ⟨_, rfl⟩
  have HB : Hid (Below w.heap.size w V) := Lib.hid (by rw [← hV]; exact balloc (balloc (Below.refl _ _) _) _)
  have HS : Hid (V.heap[sb]? = some (.cells #[.int .u64 L, .bool q, .int .u64 idx, .slice a1 l1 k1, .slice a2 l2 k2] 44 (0, 0))) := Lib.hid (by rw [← hV, ← hsb]; exact block_alloc (heap_alloc_new _ _) _)
  have HT : Hid (V.heap[tb]? = some (.cells #[.int .u64 L, .bool q, .int .u64 idx, .slice b1 l1 c1, .slice b2 l2 c2] 44 (0, 0))) := Lib.hid (by rw [← hV, ← htb, ← hsb]; exact alloc_new_at _ (by simp))
  simp only [hV, hsb, htb]
  clear hV hsb htb
  have cS : ∀ o, V.cell? ⟨sb, o, none⟩ = _ := block_cell HS.out
  have cT : ∀ o, V.cell? ⟨tb, o, none⟩ = _ := block_cell HT.out
  go_wp2_with fail
  refine (HQ1.out V HB.out).mono ?_
  rintro e w1 ⟨rfl, hb⟩
  have HB1 := Lib.hid (bnext HB.out hb)
  have HS := Lib.hid ((hb.block _ (lt_of_block HS.out)).trans HS.out)
  have HT := Lib.hid ((hb.block _ (lt_of_block HT.out)).trans HT.out)
  clear hb cS cT
  have cS : ∀ o, w1.cell? ⟨sb, o, none⟩ = _ := block_cell HS.out
  have cT : ∀ o, w1.cell? ⟨tb, o, none⟩ = _ := block_cell HT.out
  go_wp2_with fail
  refine (HQ2.out w1 HB1.out).mono ?_
  rintro e w2 ⟨rfl, hb⟩
  have HB2 := Lib.hid (bnext HB1.out hb)
  clear hb cS cT
  go_wp2
  go_ret
  exact ⟨rfl, HB2.out⟩
end Go.Proofs.YtihiaopilnjonaaGreatDoor
namespace Go.Proofs.YtihiaopilnjonaaGreatDoor
open Go.RowKit
set_option linter.unusedSimpArgs false
set_option linter.unusedVariables false
def recV (r : Except Flt Rcd) (x0 : Rcd) : Rcd := match r with | .ok x => x | .error _ => x0
def fltV (r : Except Flt Rcd) : Flt := match r with | .ok _ => (0, 0) | .error f => f
def NeV (r : Except Flt Rcd) : Prop := match r with | .ok _ => True | .error f => f.1 ≠ 0
def Tells (B : Nat) (ev : Value) (r : Except Flt Rcd) (w : World) : Prop := NeV r → ∀ w', Below w.heap.size w w' → TE7 B w' → Calls Tryz.prog 31 #[ev, .agg #[.int .i64 (fltV r).1, .int .i64 (fltV r).2]] w' fun e w'' => e = .returned (.bool true) ∧ Below w'.heap.size w' w''
theorem tells_ok (B : Nat) (x : Rcd) (w : World) : Tells B .nilIface (.ok x) w := fun _ w' _ _ => told_none w'
theorem tells_no {B fb : Nat} {f : Flt} {w : World} (h : FltB w fb f.1 f.2) : Tells B (.iface 127 (.pointer (some ⟨fb, 0, none⟩))) (.error f) w := fun hn w' hb ht =>
  told_fault fb f.1 f.2 w' ht.e (h.below hb) hn (Nat.lt_of_lt_of_le ht.g ht.s)
theorem Tells.below {B : Nat} {ev : Value} {r : Except Flt Rcd} {w w' : World} (h : Tells B ev r w) (hb : Below w.heap.size w w') : Tells B ev r w' := fun hn w'' hb2 ht => h hn w'' (bnext hb hb2) ht
end Go.Proofs.YtihiaopilnjonaaGreatDoor
namespace Go.Proofs.YtihiaopilnjonaaGreatDoor
open Go.RowKit
set_option linter.unusedSimpArgs false
set_option linter.unusedVariables false
def isOkR (r : Except Flt Rcd) : Bool := match r with | .ok _ => true | .error _ => false
theorem textOf_yes {fs : List FSpec} (h : allMay fs = true) : TextOf fs = layP fs := by unfold TextOf; rw [h]; rfl
theorem codeOf_yes {fs : List FSpec} (h : allMay fs = true) : CodeOf fs = 0 := by unfold CodeOf; rw [h]; rfl
theorem codeOf_no {fs : List FSpec} (h : allMay fs = false) : CodeOf fs = 2 := by unfold CodeOf; rw [h]; rfl
def EvOf (r : Except Flt Rcd) (ev : Value) : Prop := match r with
  | .ok _ => ev = .nilIface
  | .error _ => ∃ fb, ev = .iface 127 (.pointer (some ⟨fb, 0, none⟩))
theorem TE7.up {B : Nat} {w : World} (h : TE7 B w) : PTab w.heap.size w := ⟨Nat.lt_of_lt_of_le h.p.glob h.p.size, Nat.le_refl _, fun k hk => by
  obtain ⟨tb, tq, rc, h1, h2, h3⟩ := h.p.tab k hk
  exact ⟨tb, tq, rc, Nat.lt_of_lt_of_le h1 h.p.size, h2, h3⟩⟩
theorem StrsC.at {w : World} {a : Option Addr} {l : List ByteArray} (h : StrsC (CW w) a l) : Strs w.heap.size w a l := h.imp fun b o x hc => CW.at hc
def NmsC (C : CP) (a : Option Addr) (l : List Int) : Prop := ∀ i, i < len l → ∃ b off, a = some ⟨b, off, none⟩ ∧ C b (off + i) (.int .u64 (nth l i))
theorem NmsC.imp {C D : CP} (h : ∀ b o x, C b o x → D b o x) {a : Option Addr} {l : List Int} (hs : NmsC C a l) : NmsC D a l := fun i hi => by
  obtain ⟨b, off, e, hc⟩ := hs i hi; exact ⟨b, off, e, h _ _ _ hc⟩
theorem dok_n {d : DV} (h : DOk d) : U64i d.n := by cases d <;> first | exact h | exact (show U64i 0 from ⟨by decide, by decide⟩)
theorem holds_strs {rb tb : Nat} {w : World} {a : Option Addr} {c n : Nat} {d : DV} (hk : kindD d = 3) (h : HoldsD rb tb w (.slice a n c) d) : StrsC (CW w) a d.l := by
  cases d <;> first | cases hk | skip
  obtain ⟨a', c', e, _, _, ht⟩ := h
  cases e
  exact fun i hi => ht.1 i hi
theorem strsC_nil (C : CP) (a : Option Addr) : StrsC C a [] := fun i hi => absurd hi (by simp [len])
theorem rqPart_any (B : Nat) (s : ByteArray) (w : World) (h : TE7 B w) (hs : s.size ≤ 9223372036854775807) : Calls Tryz.prog 29 #[.string s] w fun e w' => ∃ ev, e = .returned (.tuple #[.agg (cellsPart (recV (readR s (partGs s 0) part0) part0)), ev]) ∧ EvOf (readR s (partGs s 0) part0) ev ∧ Below w.heap.size w w' := by
  refine (reaPart_any B s w h.t h.e h.s h.g hs).mono ?_
  rintro e w' ⟨hb, hh⟩
  cases hr : readR s (partGs s 0) part0 with
  | error f =>
    rw [hr] at hh
    obtain ⟨fb, he, hf⟩ := hh
    exact ⟨_, he, ⟨fb, rfl⟩, hb⟩
  | ok y =>
    rw [hr] at hh
    exact ⟨_, hh.2.2, rfl, hb⟩
theorem rqMsg_any (B : Nat) (s : ByteArray) (w : World) (h : TE7 B w) (hs : s.size ≤ 9223372036854775807) : Calls Tryz.prog 42 #[.string s] w fun e w' => ∃ ev, e = .returned (.tuple #[.agg (cellsMsg (recV (readR s (msgGs s) msg0) msg0)), ev]) ∧ EvOf (readR s (msgGs s) msg0) ev ∧ Below w.heap.size w w' := by
  refine (reaMsg_any B s w h.t h.e h.s h.g hs).mono ?_
  rintro e w' ⟨hb, hh⟩
  cases hr : readR s (msgGs s) msg0 with
  | error f =>
    rw [hr] at hh
    obtain ⟨fb, he, hf⟩ := hh
    exact ⟨_, he, ⟨fb, rfl⟩, hb⟩
  | ok y =>
    rw [hr] at hh
    exact ⟨_, hh.2.2, rfl, hb⟩
theorem rqHeader_any (B : Nat) (s : ByteArray) (w : World) (h : TE7 B w) (hs : s.size ≤ 9223372036854775807) : Calls Tryz.prog 44 #[.string s] w fun e w' => ∃ ev, e = .returned (.tuple #[.agg (cellsHeader (recV (readR s (headerGs s) header0) header0)), ev]) ∧ EvOf (readR s (headerGs s) header0) ev ∧ Below w.heap.size w w' := by
  refine (reaHeader_any B s w h.t h.e h.s h.g hs).mono ?_
  rintro e w' ⟨hb, hh⟩
  cases hr : readR s (headerGs s) header0 with
  | error f =>
    rw [hr] at hh
    obtain ⟨fb, he, hf⟩ := hh
    exact ⟨_, he, ⟨fb, rfl⟩, hb⟩
  | ok y =>
    rw [hr] at hh
    exact ⟨_, hh.2.2, rfl, hb⟩
theorem rqSlot_any (B : Nat) (s : ByteArray) (w : World) (h : TE7 B w) (hs : s.size ≤ 9223372036854775807) : Calls Tryz.prog 35 #[.string s] w fun e w' => ∃ ev a3 c3 a4 c4, e = .returned (.tuple #[.agg (cellsSlot (recV (readR s (slotGs s 0) slot0) slot0) a3 c3 a4 c4), ev]) ∧ EvOf (readR s (slotGs s 0) slot0) ev ∧ Tells B ev (readR s (slotGs s 0) slot0) w' ∧ StrsC (CW w') a3 (recV (readR s (slotGs s 0) slot0) slot0 3).l ∧ StrsC (CW w') a4 (recV (readR s (slotGs s 0) slot0) slot0 4).l ∧ Below w.heap.size w w' := by
  refine (reaSlot_any B s w h.t h.e h.s h.g hs).mono ?_
  rintro e w' ⟨hb, hh⟩
  cases hr : readR s (slotGs s 0) slot0 with
  | error f =>
    rw [hr] at hh
    obtain ⟨fb, he, hf⟩ := hh
    exact ⟨_, none, 0, none, 0, he, ⟨fb, rfl⟩, tells_no hf, strsC_nil _ _, strsC_nil _ _, hb⟩
  | ok y =>
    rw [hr] at hh
    obtain ⟨hk, a3, c3, a4, c4, ⟨rb, tb, hL⟩, he⟩ := hh
    exact ⟨_, a3, c3, a4, c4, he, rfl, tells_ok B y w', holds_strs (hk 3) hL.1, holds_strs (hk 4) hL.2, hb⟩
end Go.Proofs.YtihiaopilnjonaaGreatDoor
namespace Go.Proofs.YtihiaopilnjonaaGreatDoor
open Go.RowKit
set_option linter.unusedSimpArgs false
set_option linter.unusedVariables false
theorem msgSz {hd pt : ByteArray} {cnt prv fst lst : Int} (h : allMay (msgSpecs hd pt cnt prv fst lst) = true) : (layP (msgSpecs hd pt cnt prv fst lst)).size ≤ 1000 := by
  have h1 : hd.size = 32 := of_decide_eq_true (may_all h ⟨⟨#[104]⟩, true, false, decide (hd.size = 32), binP hd⟩ (by unfold msgSpecs; simp))
  have h2 : pt.size = 32 := of_decide_eq_true (may_all h ⟨⟨#[118]⟩, true, false, decide (pt.size = 32), binP pt⟩ (by unfold msgSpecs; simp))
  have b1 := binP_len hd
  have b2 := binP_len pt
  refine Nat.le_trans (layP_size _ 41 fun f hf => ?_) (show 9 + 6 * 51 ≤ 1000 by decide)
  unfold msgSpecs at hf
  simp only [List.mem_cons, List.not_mem_nil, or_false] at hf
  rcases hf with rfl | rfl | rfl | rfl | rfl | rfl
  · exact ⟨Nat.le_refl _, Nat.le_trans (numP_size _) (by decide)⟩
  · exact ⟨Nat.le_refl _, by show (binP hd).size ≤ 41; omega⟩
  · exact ⟨Nat.le_refl _, Nat.le_trans (numP_size _) (by decide)⟩
  · exact ⟨Nat.le_refl _, Nat.le_trans (numP_size _) (by decide)⟩
  · exact ⟨Nat.le_refl _, by show (binP pt).size ≤ 41; omega⟩
  · exact ⟨Nat.le_refl _, Nat.le_trans (numP_size _) (by decide)⟩
theorem headerSz {rnd : Int} {prev txns seed : ByteArray} (h : allMay (headerSpecs rnd prev txns seed) = true) : (layP (headerSpecs rnd prev txns seed)).size ≤ 1000 := by
  have h1 : prev.size = 32 := of_decide_eq_true (may_all h ⟨⟨#[112]⟩, true, false, decide (prev.size = 32), binP prev⟩ (by unfold headerSpecs; simp))
  have h2 : seed.size = 32 := of_decide_eq_true (may_all h ⟨⟨#[115]⟩, true, false, decide (seed.size = 32), binP seed⟩ (by unfold headerSpecs; simp))
  have h3 : txns.size = 32 := of_decide_eq_true (may_all h ⟨⟨#[116]⟩, true, false, decide (txns.size = 32), binP txns⟩ (by unfold headerSpecs; simp))
  have b1 := binP_len prev
  have b2 := binP_len seed
  have b3 := binP_len txns
  refine Nat.le_trans (layP_size _ 41 fun f hf => ?_) (show 9 + 4 * 51 ≤ 1000 by decide)
  unfold headerSpecs at hf
  simp only [List.mem_cons, List.not_mem_nil, or_false] at hf
  rcases hf with rfl | rfl | rfl | rfl
  · exact ⟨Nat.le_refl _, by show (binP prev).size ≤ 41; omega⟩
  · exact ⟨Nat.le_refl _, Nat.le_trans (numP_size _) (by decide)⟩
  · exact ⟨Nat.le_refl _, by show (binP seed).size ≤ 41; omega⟩
  · exact ⟨Nat.le_refl _, by show (binP txns).size ≤ 41; omega⟩
end Go.Proofs.YtihiaopilnjonaaGreatDoor
namespace Go.Proofs.YtihiaopilnjonaaGreatDoor
open Go.RowKit
set_option linter.unusedSimpArgs false
set_option linter.unusedVariables false
set_option linter.constructorNameAsVariable false
theorem slotStrs {w : World} {a : Option Addr} {l : List ByteArray} (h : ∀ B, Strs B w a l) : StrsC (CW w) a l := (h 0).cw
theorem part_root {root : ByteArray} {weight first life keys : Int} (h : allMay (partSpecs root weight first life keys) = true) : root.size ≤ 9223372036854775807 := by
  have hr : root.size = 32 := of_decide_eq_true (may_all h ⟨⟨#[114]⟩, true, false, decide (root.size = 32), binP root⟩ (by unfold partSpecs; simp))
  omega
theorem msg_roots {hd pt : ByteArray} {cnt prv fst lst : Int} (h : allMay (msgSpecs hd pt cnt prv fst lst) = true) : hd.size ≤ 9223372036854775807 ∧ pt.size ≤ 9223372036854775807 := by
  have h1 : hd.size = 32 := of_decide_eq_true (may_all h ⟨⟨#[104]⟩, true, false, decide (hd.size = 32), binP hd⟩ (by unfold msgSpecs; simp))
  have h2 : pt.size = 32 := of_decide_eq_true (may_all h ⟨⟨#[118]⟩, true, false, decide (pt.size = 32), binP pt⟩ (by unfold msgSpecs; simp))
  omega
theorem header_roots {rnd : Int} {prev txns seed : ByteArray} (h : allMay (headerSpecs rnd prev txns seed) = true) : prev.size ≤ 9223372036854775807 ∧ txns.size ≤ 9223372036854775807 ∧ seed.size ≤ 9223372036854775807 := by
  have h1 : prev.size = 32 := of_decide_eq_true (may_all h ⟨⟨#[112]⟩, true, false, decide (prev.size = 32), binP prev⟩ (by unfold headerSpecs; simp))
  have h2 : seed.size = 32 := of_decide_eq_true (may_all h ⟨⟨#[115]⟩, true, false, decide (seed.size = 32), binP seed⟩ (by unfold headerSpecs; simp))
  have h3 : txns.size = 32 := of_decide_eq_true (may_all h ⟨⟨#[116]⟩, true, false, decide (txns.size = 32), binP txns⟩ (by unfold headerSpecs; simp))
  omega
theorem slot_lens {L : Int} {q : Bool} {idx : Int} {ws ps : List ByteArray} (h : allMay (slotSpecs L q idx ws ps) = true) : len ws ≤ 100000 ∧ len ps ≤ 100000 := by
  have h0 : allMay (sigSpecs idx ws ps) = true := may_all h (objSpec ⟨#[103]⟩ (sigSpecs idx ws ps)) (by unfold slotSpecs; simp)
  have h1 := (mayB_iff ps 16).1 (may_all h0 ⟨⟨#[112]⟩, false, decide (len ps = 0), mayB ps 16, dgsP ps⟩ (by unfold sigSpecs; simp))
  have h2 := (mayB_iff ws 67).1 (may_all h0 ⟨⟨#[118]⟩, false, decide (len ws = 0), mayB ws 67, dgsP ws⟩ (by unfold sigSpecs; simp))
  omega
set_option maxRecDepth 100000 in
set_option maxHeartbeats 8000000 in
theorem again7_law (B : Nat) (p0 : ByteArray) (p1 : Int) (p2 : Int) (p3 : Int) (p4 : Int) (x0 : Int) (x1 : Bool) (x2 : Int) (x3 : List ByteArray) (x3a : Option Addr) (x3c : Nat) (x4 : List ByteArray) (x4a : Option Addr) (x4c : Nat) (m0 : ByteArray) (m1 : ByteArray) (m2 : Int) (m3 : Int) (m4 : Int) (m5 : Int) (h0 : Int) (h1 : ByteArray) (h2 : ByteArray) (h3 : ByteArray) (s : ByteArray) (w : World) (h : TE7 B w) (q_p0 : p0.size ≤ 9223372036854775807) (q_p1 : U64i p1) (q_p2 : U64i p2) (q_p3 : U64i p3) (q_p4 : U64i p4) (q_x0 : U64i x0) (q_x2 : U64i x2) (q_m0 : m0.size ≤ 9223372036854775807) (q_m1 : m1.size ≤ 9223372036854775807) (q_m2 : U64i m2) (q_m3 : U64i m3) (q_m4 : U64i m4) (q_m5 : U64i m5) (q_h0 : U64i h0) (q_h1 : h1.size ≤ 9223372036854775807) (q_h2 : h2.size ≤ 9223372036854775807) (q_h3 : h3.size ≤ 9223372036854775807) (n_x3 : len x3 ≤ 9223372036854775807) (n_x4 : len x4 ≤ 9223372036854775807) (s_x3 : StrsC (CW w) x3a x3) (s_x4 : StrsC (CW w) x4a x4) :
    Calls Tryz.prog 8 #[.agg #[.string p0, .int .u64 p1, .int .u64 p2, .int .u64 p3, .int .u64 p4, .int .u64 x0, .bool x1, .int .u64 x2, .slice x3a (len x3) x3c, .slice x4a (len x4) x4c, .string m0, .string m1, .int .u64 m2, .int .u64 m3, .int .u64 m4, .int .u64 m5, .int .u64 h0, .string h1, .string h2, .string h3], .string s] w fun e w' => e = .returned (.bool true) ∧ Below w.heap.size w w' := by
  have HE := Lib.hid h
  have HSX := Lib.hid (fun (w' : World) (hb : Below w.heap.size w w') => slot_any x0 x1 x2 x3a x4a x3c x4c x3 x4 w' (s_x3.low hb) (s_x4.low hb) n_x3 n_x4)
  obtain ⟨ws, hws⟩ : ∃ ws, textsP x3 70 = ws := ⟨_, rfl⟩
  obtain ⟨ps, hps⟩ : ∃ ps, textsP x4 20 = ps := ⟨_, rfl⟩
  have HWN : Hid (len ws ≤ 100000 ∧ len ps ≤ 100000) := Lib.hid (by rw [← hws, ← hps, textsP_len, textsP_len]; omega)
  rw [hws, hps] at HSX
  clear hws hps h s_x3 s_x4 n_x3 n_x4
  generalize len x3 = n3 at HSX ⊢
  generalize len x4 = n4 at HSX ⊢
  have HWPart := Lib.hid (fun w' (h : TE7 B w') => wpart2_any B p0 p1 p2 p3 p4 w' h.p q_p0 q_p1 q_p2 q_p3 q_p4 (fun h => Nat.le_trans (part_size p0 p1 p2 p3 p4 h) (by decide)))
  have HRPart : Hid (allMay (partSpecs p0 p1 p2 p3 p4) = true → ∀ w', TE7 B w' → Calls Tryz.prog 29 #[.string (layP (partSpecs p0 p1 p2 p3 p4))] w' fun e w'' => e = .returned (.tuple #[.agg #[.string p0, .int .u64 p1, .int .u64 p2, .int .u64 p3, .int .u64 p4], .nilIface]) ∧ Below w'.heap.size w' w'') := Lib.hid (fun hm w' ht => by
    obtain ⟨y, hy, e0, e1, e2, e3, e4⟩ := part_forth q_p1 q_p2 q_p3 q_p4 hm (s := layP (partSpecs p0 p1 p2 p3 p4)) rfl
    refine (rqPart_any B _ w' ht (Nat.le_trans (part_size p0 p1 p2 p3 p4 hm) (by decide))).mono ?_
    rintro e w'' ⟨ev, he, hev, hb⟩
    rw [hy] at he hev
    have hev : ev = .nilIface := hev
    have he : e = .returned (.tuple #[.agg (cellsPart y), ev]) := he
    unfold cellsPart at he
    rw [e0, e1, e2, e3, e4, hev] at he
    exact ⟨he, hb⟩)
  have HWMsg := Lib.hid (fun w' (h : TE7 B w') => wmsg2_any B m0 m1 m2 m3 m4 m5 w' h.p q_m0 q_m1 q_m2 q_m3 q_m4 q_m5 (fun h => Nat.le_trans (msgSz h) (by decide)))
  have HRMsg : Hid (allMay (msgSpecs m0 m1 m2 m3 m4 m5) = true → ∀ w', TE7 B w' → Calls Tryz.prog 42 #[.string (layP (msgSpecs m0 m1 m2 m3 m4 m5))] w' fun e w'' => e = .returned (.tuple #[.agg #[.string m0, .string m1, .int .u64 m2, .int .u64 m3, .int .u64 m4, .int .u64 m5], .nilIface]) ∧ Below w'.heap.size w' w'') := Lib.hid (fun hm w' ht => by
    obtain ⟨y, hy, e0, e1, e2, e3, e4, e5⟩ := msg_forth q_m2 q_m3 q_m4 q_m5 hm (s := layP (msgSpecs m0 m1 m2 m3 m4 m5)) rfl
    refine (rqMsg_any B _ w' ht (Nat.le_trans (msgSz hm) (by decide))).mono ?_
    rintro e w'' ⟨ev, he, hev, hb⟩
    rw [hy] at he hev
    have hev : ev = .nilIface := hev
    have he : e = .returned (.tuple #[.agg (cellsMsg y), ev]) := he
    unfold cellsMsg at he
    rw [e0, e1, e2, e3, e4, e5, hev] at he
    exact ⟨he, hb⟩)
  have HWHeader := Lib.hid (fun w' (h : TE7 B w') => wheader2_any B h0 h1 h2 h3 w' h.p q_h0 q_h1 q_h2 q_h3 (fun h => Nat.le_trans (headerSz h) (by decide)))
  have HRHeader : Hid (allMay (headerSpecs h0 h1 h2 h3) = true → ∀ w', TE7 B w' → Calls Tryz.prog 44 #[.string (layP (headerSpecs h0 h1 h2 h3))] w' fun e w'' => e = .returned (.tuple #[.agg #[.int .u64 h0, .string h1, .string h2, .string h3], .nilIface]) ∧ Below w'.heap.size w' w'') := Lib.hid (fun hm w' ht => by
    obtain ⟨y, hy, e0, e1, e2, e3⟩ := header_forth q_h0 hm (s := layP (headerSpecs h0 h1 h2 h3)) rfl
    refine (rqHeader_any B _ w' ht (Nat.le_trans (headerSz hm) (by decide))).mono ?_
    rintro e w'' ⟨ev, he, hev, hb⟩
    rw [hy] at he hev
    have hev : ev = .nilIface := hev
    have he : e = .returned (.tuple #[.agg (cellsHeader y), ev]) := he
    unfold cellsHeader at he
    rw [e0, e1, e2, e3, hev] at he
    exact ⟨he, hb⟩)
  have HRSlot : Hid (allMay (slotSpecs x0 x1 x2 ws ps) = true → ∀ w', TE7 B w' → Calls Tryz.prog 35 #[.string (layP (slotSpecs x0 x1 x2 ws ps))] w' fun e w'' => ∃ a3 c3 a4 c4, e = .returned (.tuple #[.agg #[.int .u64 x0, .bool x1, .int .u64 x2, .slice a3 (len ws) c3, .slice a4 (len ps) c4], .nilIface]) ∧ StrsC (CW w'') a3 ws ∧ StrsC (CW w'') a4 ps ∧ Below w'.heap.size w' w'') := Lib.hid (fun hm w' ht => by
    obtain ⟨y, hy, e0, e1, e2, e3, e4⟩ := slot_forth q_x0 q_x2 hm (s := layP (slotSpecs x0 x1 x2 ws ps)) rfl
    refine (rqSlot_any B _ w' ht (Nat.le_trans (slotSz hm) (by decide))).mono ?_
    rintro e w'' ⟨ev, a3, c3, a4, c4, he, hev, _, hs3, hs4, hb⟩
    rw [hy] at he hev hs3 hs4
    have hev : ev = .nilIface := hev
    have he : e = .returned (.tuple #[.agg (cellsSlot y a3 c3 a4 c4), ev]) := he
    have hs3 : StrsC (CW w'') a3 (y 3).l := hs3
    have hs4 : StrsC (CW w'') a4 (y 4).l := hs4
    unfold cellsSlot at he
    rw [e0, e1, e2, e3, e4, hev] at he
    rw [e3] at hs3
    rw [e4] at hs4
    exact ⟨a3, c3, a4, c4, he, hs3, hs4, hb⟩)
  have HWSlot := Lib.hid (fun (w' : World) (h : TE7 B w') (a1 a2 : Option Addr) (k1 k2 : Nat) (s1 : Strs B w' a1 ws) (s2 : Strs B w' a2 ps) => wslot2_any B x0 x1 x2 a1 a2 k1 k2 ws ps w' h.p s1 s2 q_x2.1 q_x2.2 q_x0.1 q_x0.2 HWN.out.1 HWN.out.2 (fun h => Nat.le_trans (slotSz h) (by decide)))
  have HSY := Lib.hid (fun (w' : World) (a1 a2 b1 b2 : Option Addr) (k1 k2 c1 c2 : Nat) (h1 : StrsC (CW w') a1 ws) (h2 : StrsC (CW w') a2 ps) (h3 : StrsC (CW w') b1 ws) (h4 : StrsC (CW w') b2 ps) => sameSlot_yes x0 x1 x2 a1 a2 b1 b2 k1 k2 c1 c2 ws ps w' h1 h2 h3 h4 (Nat.le_trans HWN.out.1 (by decide)) (Nat.le_trans HWN.out.2 (by decide)))
  obtain ⟨fP, hfP⟩ : ∃ fs, (partSpecs p0 p1 p2 p3 p4) = fs := ⟨_, rfl⟩
  obtain ⟨fS, hfS⟩ : ∃ fs, (slotSpecs x0 x1 x2 ws ps) = fs := ⟨_, rfl⟩
  obtain ⟨fM, hfM⟩ : ∃ fs, (msgSpecs m0 m1 m2 m3 m4 m5) = fs := ⟨_, rfl⟩
  obtain ⟨fH, hfH⟩ : ∃ fs, (headerSpecs h0 h1 h2 h3) = fs := ⟨_, rfl⟩
  rw [hfP] at HWPart HRPart
  rw [hfS] at HWSlot HRSlot
  rw [hfM] at HWMsg HRMsg
  rw [hfH] at HWHeader HRHeader
  clear hfP hfS hfM hfH
  obtain ⟨k, hk⟩ : ∃ k, min s.size 3000 = k := ⟨_, rfl⟩
  have mn : min (s.size : Int) 3000 = (k : Int) := by rw [← hk]; omega
  have sl : k ≤ s.size := by rw [← hk]; exact Nat.min_le_left _ _
  obtain ⟨v0, hv0⟩ : ∃ v, s.extract 0 k = v := ⟨_, rfl⟩
  have HV0 : Hid (v0.size ≤ 3000) := Lib.hid (by rw [← hv0, ByteArray.size_extract]; have := Nat.min_le_right s.size 3000; omega)
  clear hk
  go_enter Tryz.func8, Tryz.ntmps8
  go_upto_region 1 with fail
  obtain ⟨pb, hpb⟩ : ∃ pb, w.heap.size = pb := ⟨_, rfl⟩
  obtain ⟨V, hV⟩ : ∃ V, w.alloc (.cells #[.string p0, .int .u64 p1, .int .u64 p2, .int .u64 p3, .int .u64 p4, .int .u64 x0, .bool x1, .int .u64 x2, .slice x3a n3 x3c, .slice x4a n4 x4c, .string m0, .string m1, .int .u64 m2, .int .u64 m3, .int .u64 m4, .int .u64 m5, .int .u64 h0, .string h1, .string h2, .string h3] 94) = V := ⟨_, rfl⟩
  have HB : Hid (Below w.heap.size w V) := Lib.hid (by rw [← hV]; exact balloc (Below.refl _ _) _)
  have HP : Hid (V.heap[pb]? = some (.cells #[.string p0, .int .u64 p1, .int .u64 p2, .int .u64 p3, .int .u64 p4, .int .u64 x0, .bool x1, .int .u64 x2, .slice x3a n3 x3c, .slice x4a n4 x4c, .string m0, .string m1, .int .u64 m2, .int .u64 m3, .int .u64 m4, .int .u64 m5, .int .u64 h0, .string h1, .string h2, .string h3] 94 (0, 0))) := Lib.hid (by rw [← hV, ← hpb]; exact heap_alloc_new _ _)
  have HE := Lib.hid (HE.out.below HB.out)
  simp only [hV, hpb]
  clear hV hpb
  go_wp2_with fail
  refine (works7_any B V HE.out).mono ?_
  rintro e u0 ⟨rfl, hb⟩
  have HB := Lib.hid (bnext HB.out hb)
  have HE := Lib.hid (HE.out.below hb)
  have HP := Lib.hid ((hb.block _ (lt_of_block HP.out)).trans HP.out)
  clear hb
  go_upto_region 4 with fail
  clear mn sl hv0
  have cP : ∀ o, u0.cell? ⟨pb, o, none⟩ = _ := block_cell HP.out
  go_wp2_with fail
  refine (HWPart.out u0 HE.out).mono ?_
  rintro e a1 hh
  obtain ⟨rfl, hb⟩ := hh.both
  have HB := Lib.hid (bnext HB.out hb)
  have HE := Lib.hid (HE.out.below hb)
  have HP := Lib.hid ((hb.block _ (lt_of_block HP.out)).trans HP.out)
  clear cP hh hb
  go_upto_if 49 with fail
  go_cut [5, 6, 7, 8] (fun _ _ _ _ wx => Hid (Below a1.heap.size a1 wx))
  case first =>
    as_aux_lemma =>
      cases hm : allMay fP with
      | false =>
        rw [codeOf_no hm]
        clear hm
        go_wp2
        go_meet
        exact Lib.hid (Below.refl _ _)
      | true =>
        have HM := Lib.hid hm
        rw [codeOf_yes hm, textOf_yes hm]
        clear hm
        go_wp2_with fail
        refine (HRPart.out HM.out a1 HE.out).mono ?_
        rintro e r1 ⟨rfl, hb⟩
        have HBR := Lib.hid hb
        have HPR := Lib.hid ((hb.block _ (lt_of_block HP.out)).trans HP.out)
        clear hb
        go_upto_region 7 with fail
        obtain ⟨yb, hyb⟩ : ∃ yb, r1.heap.size = yb := ⟨_, rfl⟩
        obtain ⟨Y, hY⟩ : ∃ Y, r1.alloc (.cells #[.string p0, .int .u64 p1, .int .u64 p2, .int .u64 p3, .int .u64 p4] 46) = Y := ⟨_, rfl⟩
        have hb : Below r1.heap.size r1 Y := by rw [← hY]; exact balloc (Below.refl _ _) _
        have HY : Hid (Y.heap[yb]? = some (.cells #[.string p0, .int .u64 p1, .int .u64 p2, .int .u64 p3, .int .u64 p4] 46 (0, 0))) := Lib.hid (by rw [← hY, ← hyb]; exact heap_alloc_new _ _)
        have HBR := Lib.hid (bnext HBR.out hb)
        have HPR := Lib.hid ((hb.block _ (lt_of_block HPR.out)).trans HPR.out)
        simp only [hY, hyb]
        clear hY hyb hb
        have cY : ∀ o, Y.cell? ⟨yb, o, none⟩ = _ := block_cell HY.out
        have cP : ∀ o, Y.cell? ⟨pb, o, none⟩ = _ := block_cell HPR.out
        go_wp2
        go_meet
        exact HBR
  case rest =>
    as_aux_lemma =>
      have hb := hcut.out
      have HB := Lib.hid (bnext HB.out hb)
      have HE := Lib.hid (HE.out.below hb)
      have HP := Lib.hid ((hb.block _ (lt_of_block HP.out)).trans HP.out)
      clear hb hcut
      have cP : ∀ o, wc.cell? ⟨pb, o, none⟩ = _ := block_cell HP.out
      go_wp2_with fail
      refine (HSX.out wc HB.out).mono ?_
      rintro e z1 ⟨za, zk, zb, zl, rfl, hs1, hs2, hb⟩
      have HB := Lib.hid (bnext HB.out hb)
      have HE := Lib.hid (HE.out.below hb)
      have HP := Lib.hid ((hb.block _ (lt_of_block HP.out)).trans HP.out)
      have ZS1 : Hid (∀ B, Strs B z1 za ws) := Lib.hid hs1.wstrs
      have ZS2 : Hid (∀ B, Strs B z1 zb ps) := Lib.hid hs2.wstrs
      clear hb cP hs1 hs2
      go_upto_region 10 with fail
      obtain ⟨sb, hsb⟩ : ∃ sb, z1.heap.size = sb := ⟨_, rfl⟩
      obtain ⟨Z, hZ⟩ : ∃ Z, z1.alloc (.cells #[.int .u64 x0, .bool x1, .int .u64 x2, .slice za (len ws) zk, .slice zb (len ps) zl] 44) = Z := ⟨_, rfl⟩
      have hb : Below z1.heap.size z1 Z := by rw [← hZ]; exact balloc (Below.refl _ _) _
      have HZ : Hid (Z.heap[sb]? = some (.cells #[.int .u64 x0, .bool x1, .int .u64 x2, .slice za (len ws) zk, .slice zb (len ps) zl] 44 (0, 0))) := Lib.hid (by rw [← hZ, ← hsb]; exact heap_alloc_new _ _)
      have ZS1 : Hid (∀ B, Strs B Z za ws) := Lib.hid (fun B => (ZS1.out B).below hb)
      have ZS2 : Hid (∀ B, Strs B Z zb ps) := Lib.hid (fun B => (ZS2.out B).below hb)
      have HB := Lib.hid (bnext HB.out hb)
      have HE := Lib.hid (HE.out.below hb)
      have HP := Lib.hid ((hb.block _ (lt_of_block HP.out)).trans HP.out)
      simp only [hZ, hsb]
      clear hZ hsb hb
      have cZ : ∀ o, Z.cell? ⟨sb, o, none⟩ = _ := block_cell HZ.out
      go_wp2_with fail
      refine (HWSlot.out Z HE.out za zb zk zl (ZS1.out B) (ZS2.out B)).mono ?_
      rintro e a2 hh
      obtain ⟨rfl, hb⟩ := hh.both
      have HB := Lib.hid (bnext HB.out hb)
      have HE := Lib.hid (HE.out.below hb)
      have HP := Lib.hid ((hb.block _ (lt_of_block HP.out)).trans HP.out)
      have HZ := Lib.hid ((hb.block _ (lt_of_block HZ.out)).trans HZ.out)
      have ZS1 : Hid (∀ B, Strs B a2 za ws) := Lib.hid (fun B => (ZS1.out B).below hb)
      have ZS2 : Hid (∀ B, Strs B a2 zb ps) := Lib.hid (fun B => (ZS2.out B).below hb)
      clear cZ hh hb
      go_upto_if 72 with fail
      go_cut [10, 11, 12, 13] (fun _ _ _ _ wx => Hid (Below a2.heap.size a2 wx))
      case first =>
        as_aux_lemma =>
          cases hm : allMay fS with
          | false =>
            rw [codeOf_no hm]
            clear hm
            go_wp2
            go_meet
            exact Lib.hid (Below.refl _ _)
          | true =>
            have HM := Lib.hid hm
            rw [codeOf_yes hm, textOf_yes hm]
            clear hm
            go_wp2_with fail
            refine (HRSlot.out HM.out a2 HE.out).mono ?_
            rintro e r1 ⟨ra, rc, rd, rf, rfl, rs1, rs2, hb⟩
            have RS1 := Lib.hid rs1
            have RS2 := Lib.hid rs2
            have HBR := Lib.hid hb
            clear hb rs1 rs2
            go_upto_region 13 with fail
            obtain ⟨yb, hyb⟩ : ∃ yb, r1.heap.size = yb := ⟨_, rfl⟩
            obtain ⟨Y, hY⟩ : ∃ Y, r1.alloc (.cells #[.int .u64 x0, .bool x1, .int .u64 x2, .slice ra (len ws) rc, .slice rd (len ps) rf] 44) = Y := ⟨_, rfl⟩
            have hb : Below r1.heap.size r1 Y := by rw [← hY]; exact balloc (Below.refl _ _) _
            have HY : Hid (Y.heap[yb]? = some (.cells #[.int .u64 x0, .bool x1, .int .u64 x2, .slice ra (len ws) rc, .slice rd (len ps) rf] 44 (0, 0))) := Lib.hid (by rw [← hY, ← hyb]; exact heap_alloc_new _ _)
            have HBR := Lib.hid (bnext HBR.out hb)
            have RS1 := Lib.hid (RS1.out.low hb)
            have RS2 := Lib.hid (RS2.out.low hb)
            have HZ := Lib.hid ((HBR.out.block _ (lt_of_block HZ.out)).trans HZ.out)
            simp only [hY, hyb]
            clear hY hyb hb
            have cY : ∀ o, Y.cell? ⟨yb, o, none⟩ = _ := block_cell HY.out
            have cZ : ∀ o, Y.cell? ⟨sb, o, none⟩ = _ := block_cell HZ.out
            go_wp2_with fail
            refine (HSY.out Y ra rd za zb rc rf zk zl RS1.out RS2.out (slotStrs (fun B => (ZS1.out B).below HBR.out)) (slotStrs (fun B => (ZS2.out B).below HBR.out))).mono ?_
            rintro e r2 ⟨rfl, hb⟩
            have HBR := Lib.hid (bnext HBR.out hb)
            clear hb cY cZ
            go_wp2
            go_meet
            exact HBR
      case rest =>
        as_aux_lemma =>
          have hb := hcut.out
          have HB := Lib.hid (bnext HB.out hb)
          have HE := Lib.hid (HE.out.below hb)
          have HP := Lib.hid ((hb.block _ (lt_of_block HP.out)).trans HP.out)
          clear hb hcut
          have cP : ∀ o, wc.cell? ⟨pb, o, none⟩ = _ := block_cell HP.out
          go_wp2_with fail
          refine (HWMsg.out wc HE.out).mono ?_
          rintro e a3 hh
          obtain ⟨rfl, hb⟩ := hh.both
          have HB := Lib.hid (bnext HB.out hb)
          have HE := Lib.hid (HE.out.below hb)
          have HP := Lib.hid ((hb.block _ (lt_of_block HP.out)).trans HP.out)
          clear cP hh hb
          go_upto_if 93 with fail
          go_cut [14, 15, 16, 17] (fun _ _ _ _ wx => Hid (Below a3.heap.size a3 wx))
          case first =>
            as_aux_lemma =>
              cases hm : allMay fM with
              | false =>
                rw [codeOf_no hm]
                clear hm
                go_wp2
                go_meet
                exact Lib.hid (Below.refl _ _)
              | true =>
                have HM := Lib.hid hm
                rw [codeOf_yes hm, textOf_yes hm]
                clear hm
                go_wp2_with fail
                refine (HRMsg.out HM.out a3 HE.out).mono ?_
                rintro e r1 ⟨rfl, hb⟩
                have HBR := Lib.hid hb
                have HPR := Lib.hid ((hb.block _ (lt_of_block HP.out)).trans HP.out)
                clear hb
                go_upto_region 18 with fail
                obtain ⟨yb, hyb⟩ : ∃ yb, r1.heap.size = yb := ⟨_, rfl⟩
                obtain ⟨Y, hY⟩ : ∃ Y, r1.alloc (.cells #[.string m0, .string m1, .int .u64 m2, .int .u64 m3, .int .u64 m4, .int .u64 m5] 76) = Y := ⟨_, rfl⟩
                have hb : Below r1.heap.size r1 Y := by rw [← hY]; exact balloc (Below.refl _ _) _
                have HY : Hid (Y.heap[yb]? = some (.cells #[.string m0, .string m1, .int .u64 m2, .int .u64 m3, .int .u64 m4, .int .u64 m5] 76 (0, 0))) := Lib.hid (by rw [← hY, ← hyb]; exact heap_alloc_new _ _)
                have HBR := Lib.hid (bnext HBR.out hb)
                have HPR := Lib.hid ((hb.block _ (lt_of_block HPR.out)).trans HPR.out)
                simp only [hY, hyb]
                clear hY hyb hb
                have cY : ∀ o, Y.cell? ⟨yb, o, none⟩ = _ := block_cell HY.out
                have cP : ∀ o, Y.cell? ⟨pb, o, none⟩ = _ := block_cell HPR.out
                go_wp2
                go_meet
                exact HBR
          case rest =>
            as_aux_lemma =>
              have hb := hcut.out
              have HB := Lib.hid (bnext HB.out hb)
              have HE := Lib.hid (HE.out.below hb)
              have HP := Lib.hid ((hb.block _ (lt_of_block HP.out)).trans HP.out)
              clear hb hcut
              have cP : ∀ o, wc.cell? ⟨pb, o, none⟩ = _ := block_cell HP.out
              go_wp2_with fail
              refine (HWHeader.out wc HE.out).mono ?_
              rintro e a4 hh
              obtain ⟨rfl, hb⟩ := hh.both
              have HB := Lib.hid (bnext HB.out hb)
              have HE := Lib.hid (HE.out.below hb)
              have HP := Lib.hid ((hb.block _ (lt_of_block HP.out)).trans HP.out)
              clear cP hh hb
              go_upto_if 114 with fail
              go_cut [18, 19, 20, 21] (fun _ _ _ _ wx => Hid (Below a4.heap.size a4 wx))
              case first =>
                as_aux_lemma =>
                  cases hm : allMay fH with
                  | false =>
                    rw [codeOf_no hm]
                    clear hm
                    go_wp2
                    go_meet
                    exact Lib.hid (Below.refl _ _)
                  | true =>
                    have HM := Lib.hid hm
                    rw [codeOf_yes hm, textOf_yes hm]
                    clear hm
                    go_wp2_with fail
                    refine (HRHeader.out HM.out a4 HE.out).mono ?_
                    rintro e r1 ⟨rfl, hb⟩
                    have HBR := Lib.hid hb
                    have HPR := Lib.hid ((hb.block _ (lt_of_block HP.out)).trans HP.out)
                    clear hb
                    go_upto_region 23 with fail
                    obtain ⟨yb, hyb⟩ : ∃ yb, r1.heap.size = yb := ⟨_, rfl⟩
                    obtain ⟨Y, hY⟩ : ∃ Y, r1.alloc (.cells #[.int .u64 h0, .string h1, .string h2, .string h3] 78) = Y := ⟨_, rfl⟩
                    have hb : Below r1.heap.size r1 Y := by rw [← hY]; exact balloc (Below.refl _ _) _
                    have HY : Hid (Y.heap[yb]? = some (.cells #[.int .u64 h0, .string h1, .string h2, .string h3] 78 (0, 0))) := Lib.hid (by rw [← hY, ← hyb]; exact heap_alloc_new _ _)
                    have HBR := Lib.hid (bnext HBR.out hb)
                    have HPR := Lib.hid ((hb.block _ (lt_of_block HPR.out)).trans HPR.out)
                    simp only [hY, hyb]
                    clear hY hyb hb
                    have cY : ∀ o, Y.cell? ⟨yb, o, none⟩ = _ := block_cell HY.out
                    have cP : ∀ o, Y.cell? ⟨pb, o, none⟩ = _ := block_cell HPR.out
                    go_wp2
                    go_meet
                    exact HBR
              case rest =>
                as_aux_lemma =>
                  have hb := hcut.out
                  have HB := Lib.hid (bnext HB.out hb)
                  have HE := Lib.hid (HE.out.below hb)
                  have HP := Lib.hid ((hb.block _ (lt_of_block HP.out)).trans HP.out)
                  clear hb hcut
                  go_wp2_with fail
                  refine (rqPart_any B v0 wc HE.out (Nat.le_trans HV0.out (by decide))).mono ?_
                  rintro e b1 ⟨ev, rfl, hev, hb⟩
                  have HB := Lib.hid (bnext HB.out hb)
                  have HE := Lib.hid (HE.out.below hb)
                  have HP := Lib.hid ((hb.block _ (lt_of_block HP.out)).trans HP.out)
                  have HEV := Lib.hid hev
                  clear hb hev
                  obtain ⟨r, hr⟩ : ∃ r, readR v0 (partGs v0 0) part0 = r := ⟨_, rfl⟩
                  rw [hr] at HEV
                  have HRR := Lib.hid hr
                  try rw [hr]
                  clear hr
                  obtain ⟨y, hy⟩ : ∃ y, recV r part0 = y := ⟨_, rfl⟩
                  have HYY := Lib.hid hy
                  try rw [hy]
                  clear hy
                  go_upto_region 26 with fail
                  obtain ⟨yb, hyb⟩ : ∃ yb, b1.heap.size = yb := ⟨_, rfl⟩
                  obtain ⟨Y1, hY⟩ : ∃ Y, b1.alloc (.cells #[.string (y 0).s, .int .u64 (y 1).n, .int .u64 (y 2).n, .int .u64 (y 3).n, .int .u64 (y 4).n] 46) = Y := ⟨_, rfl⟩
                  have hb : Below b1.heap.size b1 Y1 := by rw [← hY]; exact balloc (Below.refl _ _) _
                  have HY : Hid (Y1.heap[yb]? = some (.cells #[.string (y 0).s, .int .u64 (y 1).n, .int .u64 (y 2).n, .int .u64 (y 3).n, .int .u64 (y 4).n] 46 (0, 0))) := Lib.hid (by rw [← hY, ← hyb]; exact heap_alloc_new _ _)
                  have HB := Lib.hid (bnext HB.out hb)
                  have HE := Lib.hid (HE.out.below hb)
                  have HP := Lib.hid ((hb.block _ (lt_of_block HP.out)).trans HP.out)
                  simp only [hY, hyb]
                  clear hY hyb hb
                  go_cut [134] (fun c wx => c = .bool (isOkR r) ∧ wx = Y1)
                  case first =>
                    as_aux_lemma =>
                      cases r with
                      | error f =>
                        obtain ⟨fb, rfl⟩ := HEV.out
                        go_wp2_with fail
                        go_meet
                        exact ⟨rfl, rfl⟩
                      | ok y0 =>
                        obtain rfl : ev = .nilIface := HEV.out
                        go_wp2_with fail
                        go_meet
                        exact ⟨rfl, rfl⟩
                  case rest =>
                    as_aux_lemma =>
                      obtain ⟨rfl, hwc⟩ := hcut
                      obtain rfl : Y1 = wc := hwc.symm
                      go_upto_if 134 with fail
                      go_cut [24, 25] (fun _ _ wx => Hid (Below Y1.heap.size Y1 wx))
                      case first =>
                        as_aux_lemma =>
                          cases r with
                          | error f =>
                            go_wp2
                            go_meet
                            exact Lib.hid (Below.refl _ _)
                          | ok y0 =>
                            obtain rfl : y0 = y := HYY.out
                            obtain ⟨hm, hl, hd⟩ := part_back HRR.out
                            have HW := Lib.hid (wpart2_any B (y0 0).s (y0 1).n (y0 2).n (y0 3).n (y0 4).n Y1 HE.out.p (part_root hm) (dok_n (hd 1)) (dok_n (hd 2)) (dok_n (hd 3)) (dok_n (hd 4)) (fun h => Nat.le_trans (partSz h) (by decide)))
                            have HM := Lib.hid hm
                            have HLL := Lib.hid hl
                            clear hm hl hd
                            have cY : ∀ o, Y1.cell? ⟨yb, o, none⟩ = _ := block_cell HY.out
                            go_wp2_with fail
                            refine HW.out.mono ?_
                            rintro e c1 hh
                            obtain ⟨rfl, hb⟩ := hh.both
                            rw [codeOf_yes HM.out, textOf_yes HM.out, HLL.out]
                            have HBR := Lib.hid hb
                            clear hb hh cY
                            go_wp2
                            go_meet
                            exact HBR
                      case rest =>
                        as_aux_lemma =>
                          have hb := hcut.out
                          have HB := Lib.hid (bnext HB.out hb)
                          have HE := Lib.hid (HE.out.below hb)
                          have HP := Lib.hid ((hb.block _ (lt_of_block HP.out)).trans HP.out)
                          clear hb hcut
                          go_wp2_with fail
                          refine (rqSlot_any B v0 wc HE.out (Nat.le_trans HV0.out (by decide))).mono ?_
                          rintro e b2 ⟨ev, a3, c3, a4, c4, rfl, hev, _, hs3, hs4, hb⟩
                          have T3 := Lib.hid hs3
                          have T4 := Lib.hid hs4
                          clear hs3 hs4
                          have HB := Lib.hid (bnext HB.out hb)
                          have HE := Lib.hid (HE.out.below hb)
                          have HP := Lib.hid ((hb.block _ (lt_of_block HP.out)).trans HP.out)
                          have HEV := Lib.hid hev
                          clear hb hev
                          obtain ⟨r, hr⟩ : ∃ r, readR v0 (slotGs v0 0) slot0 = r := ⟨_, rfl⟩
                          rw [hr] at HEV T3 T4
                          have HRR := Lib.hid hr
                          try rw [hr]
                          clear hr
                          obtain ⟨y, hy⟩ : ∃ y, recV r slot0 = y := ⟨_, rfl⟩
                          have HYY := Lib.hid hy
                          rw [hy] at T3 T4
                          try rw [hy]
                          clear hy
                          go_upto_region 31 with fail
                          obtain ⟨yb, hyb⟩ : ∃ yb, b2.heap.size = yb := ⟨_, rfl⟩
                          obtain ⟨Y2, hY⟩ : ∃ Y, b2.alloc (.cells #[.int .u64 (y 0).n, .bool (y 1).q, .int .u64 (y 2).n, .slice a3 (len (y 3).l) c3, .slice a4 (len (y 4).l) c4] 44) = Y := ⟨_, rfl⟩
                          have hb : Below b2.heap.size b2 Y2 := by rw [← hY]; exact balloc (Below.refl _ _) _
                          have HY : Hid (Y2.heap[yb]? = some (.cells #[.int .u64 (y 0).n, .bool (y 1).q, .int .u64 (y 2).n, .slice a3 (len (y 3).l) c3, .slice a4 (len (y 4).l) c4] 44 (0, 0))) := Lib.hid (by rw [← hY, ← hyb]; exact heap_alloc_new _ _)
                          have T3 := Lib.hid (T3.out.low hb)
                          have T4 := Lib.hid (T4.out.low hb)
                          have HB := Lib.hid (bnext HB.out hb)
                          have HE := Lib.hid (HE.out.below hb)
                          have HP := Lib.hid ((hb.block _ (lt_of_block HP.out)).trans HP.out)
                          simp only [hY, hyb]
                          clear hY hyb hb
                          go_cut [153] (fun c wx => c = .bool (isOkR r) ∧ wx = Y2)
                          case first =>
                            as_aux_lemma =>
                              cases r with
                              | error f =>
                                obtain ⟨fb, rfl⟩ := HEV.out
                                go_wp2_with fail
                                go_meet
                                exact ⟨rfl, rfl⟩
                              | ok y0 =>
                                obtain rfl : ev = .nilIface := HEV.out
                                go_wp2_with fail
                                go_meet
                                exact ⟨rfl, rfl⟩
                          case rest =>
                            as_aux_lemma =>
                              obtain ⟨rfl, hwc⟩ := hcut
                              obtain rfl : Y2 = wc := hwc.symm
                              go_upto_if 153 with fail
                              go_cut [27, 28] (fun _ _ wx => Hid (Below Y2.heap.size Y2 wx))
                              case first =>
                                as_aux_lemma =>
                                  cases r with
                                  | error f =>
                                    go_wp2
                                    go_meet
                                    exact Lib.hid (Below.refl _ _)
                                  | ok y0 =>
                                    obtain rfl : y0 = y := HYY.out
                                    obtain ⟨hm, hl, hd⟩ := slot_back HRR.out
                                    have HW := Lib.hid (wslot2_any Y2.heap.size (y0 0).n (y0 1).q (y0 2).n a3 a4 c3 c4 (y0 3).l (y0 4).l Y2 HE.out.up T3.out.at T4.out.at (dok_n (hd 2)).1 (dok_n (hd 2)).2 (dok_n (hd 0)).1 (dok_n (hd 0)).2 (slot_lens hm).1 (slot_lens hm).2 (fun h => Nat.le_trans (slotSz h) (by decide)))
                                    have HM := Lib.hid hm
                                    have HLL := Lib.hid hl
                                    clear hm hl hd
                                    have cY : ∀ o, Y2.cell? ⟨yb, o, none⟩ = _ := block_cell HY.out
                                    go_wp2_with fail
                                    refine HW.out.mono ?_
                                    rintro e c2 hh
                                    obtain ⟨rfl, hb⟩ := hh.both
                                    rw [codeOf_yes HM.out, textOf_yes HM.out, HLL.out]
                                    have HBR := Lib.hid hb
                                    clear hb hh cY
                                    go_wp2
                                    go_meet
                                    exact HBR
                              case rest =>
                                as_aux_lemma =>
                                  have hb := hcut.out
                                  have HB := Lib.hid (bnext HB.out hb)
                                  have HE := Lib.hid (HE.out.below hb)
                                  have HP := Lib.hid ((hb.block _ (lt_of_block HP.out)).trans HP.out)
                                  clear hb hcut
                                  go_wp2_with fail
                                  refine (rqMsg_any B v0 wc HE.out (Nat.le_trans HV0.out (by decide))).mono ?_
                                  rintro e b3 ⟨ev, rfl, hev, hb⟩
                                  have HB := Lib.hid (bnext HB.out hb)
                                  have HE := Lib.hid (HE.out.below hb)
                                  have HP := Lib.hid ((hb.block _ (lt_of_block HP.out)).trans HP.out)
                                  have HEV := Lib.hid hev
                                  clear hb hev
                                  obtain ⟨r, hr⟩ : ∃ r, readR v0 (msgGs v0) msg0 = r := ⟨_, rfl⟩
                                  rw [hr] at HEV
                                  have HRR := Lib.hid hr
                                  try rw [hr]
                                  clear hr
                                  obtain ⟨y, hy⟩ : ∃ y, recV r msg0 = y := ⟨_, rfl⟩
                                  have HYY := Lib.hid hy
                                  try rw [hy]
                                  clear hy
                                  go_upto_region 36 with fail
                                  obtain ⟨yb, hyb⟩ : ∃ yb, b3.heap.size = yb := ⟨_, rfl⟩
                                  obtain ⟨Y3, hY⟩ : ∃ Y, b3.alloc (.cells #[.string (y 0).s, .string (y 1).s, .int .u64 (y 2).n, .int .u64 (y 3).n, .int .u64 (y 4).n, .int .u64 (y 5).n] 76) = Y := ⟨_, rfl⟩
                                  have hb : Below b3.heap.size b3 Y3 := by rw [← hY]; exact balloc (Below.refl _ _) _
                                  have HY : Hid (Y3.heap[yb]? = some (.cells #[.string (y 0).s, .string (y 1).s, .int .u64 (y 2).n, .int .u64 (y 3).n, .int .u64 (y 4).n, .int .u64 (y 5).n] 76 (0, 0))) := Lib.hid (by rw [← hY, ← hyb]; exact heap_alloc_new _ _)
                                  have HB := Lib.hid (bnext HB.out hb)
                                  have HE := Lib.hid (HE.out.below hb)
                                  have HP := Lib.hid ((hb.block _ (lt_of_block HP.out)).trans HP.out)
                                  simp only [hY, hyb]
                                  clear hY hyb hb
                                  go_cut [172] (fun c wx => c = .bool (isOkR r) ∧ wx = Y3)
                                  case first =>
                                    as_aux_lemma =>
                                      cases r with
                                      | error f =>
                                        obtain ⟨fb, rfl⟩ := HEV.out
                                        go_wp2_with fail
                                        go_meet
                                        exact ⟨rfl, rfl⟩
                                      | ok y0 =>
                                        obtain rfl : ev = .nilIface := HEV.out
                                        go_wp2_with fail
                                        go_meet
                                        exact ⟨rfl, rfl⟩
                                  case rest =>
                                    as_aux_lemma =>
                                      obtain ⟨rfl, hwc⟩ := hcut
                                      obtain rfl : Y3 = wc := hwc.symm
                                      go_upto_if 172 with fail
                                      go_cut [30, 31] (fun _ _ wx => Hid (Below Y3.heap.size Y3 wx))
                                      case first =>
                                        as_aux_lemma =>
                                          cases r with
                                          | error f =>
                                            go_wp2
                                            go_meet
                                            exact Lib.hid (Below.refl _ _)
                                          | ok y0 =>
                                            obtain rfl : y0 = y := HYY.out
                                            obtain ⟨hm, hl, hd⟩ := msg_back HRR.out
                                            have HW := Lib.hid (wmsg2_any B (y0 0).s (y0 1).s (y0 2).n (y0 3).n (y0 4).n (y0 5).n Y3 HE.out.p (msg_roots hm).1 (msg_roots hm).2 (dok_n (hd 2)) (dok_n (hd 3)) (dok_n (hd 4)) (dok_n (hd 5)) (fun h => Nat.le_trans (msgSz h) (by decide)))
                                            have HM := Lib.hid hm
                                            have HLL := Lib.hid hl
                                            clear hm hl hd
                                            have cY : ∀ o, Y3.cell? ⟨yb, o, none⟩ = _ := block_cell HY.out
                                            go_wp2_with fail
                                            refine HW.out.mono ?_
                                            rintro e c3 hh
                                            obtain ⟨rfl, hb⟩ := hh.both
                                            rw [codeOf_yes HM.out, textOf_yes HM.out, HLL.out]
                                            have HBR := Lib.hid hb
                                            clear hb hh cY
                                            go_wp2
                                            go_meet
                                            exact HBR
                                      case rest =>
                                        as_aux_lemma =>
                                          have hb := hcut.out
                                          have HB := Lib.hid (bnext HB.out hb)
                                          have HE := Lib.hid (HE.out.below hb)
                                          have HP := Lib.hid ((hb.block _ (lt_of_block HP.out)).trans HP.out)
                                          clear hb hcut
                                          go_wp2_with fail
                                          refine (rqHeader_any B v0 wc HE.out (Nat.le_trans HV0.out (by decide))).mono ?_
                                          rintro e b4 ⟨ev, rfl, hev, hb⟩
                                          have HB := Lib.hid (bnext HB.out hb)
                                          have HE := Lib.hid (HE.out.below hb)
                                          have HP := Lib.hid ((hb.block _ (lt_of_block HP.out)).trans HP.out)
                                          have HEV := Lib.hid hev
                                          clear hb hev
                                          obtain ⟨r, hr⟩ : ∃ r, readR v0 (headerGs v0) header0 = r := ⟨_, rfl⟩
                                          rw [hr] at HEV
                                          have HRR := Lib.hid hr
                                          try rw [hr]
                                          clear hr
                                          obtain ⟨y, hy⟩ : ∃ y, recV r header0 = y := ⟨_, rfl⟩
                                          have HYY := Lib.hid hy
                                          try rw [hy]
                                          clear hy
                                          go_upto_region 41 with fail
                                          obtain ⟨yb, hyb⟩ : ∃ yb, b4.heap.size = yb := ⟨_, rfl⟩
                                          obtain ⟨Y4, hY⟩ : ∃ Y, b4.alloc (.cells #[.int .u64 (y 0).n, .string (y 1).s, .string (y 2).s, .string (y 3).s] 78) = Y := ⟨_, rfl⟩
                                          have hb : Below b4.heap.size b4 Y4 := by rw [← hY]; exact balloc (Below.refl _ _) _
                                          have HY : Hid (Y4.heap[yb]? = some (.cells #[.int .u64 (y 0).n, .string (y 1).s, .string (y 2).s, .string (y 3).s] 78 (0, 0))) := Lib.hid (by rw [← hY, ← hyb]; exact heap_alloc_new _ _)
                                          have HB := Lib.hid (bnext HB.out hb)
                                          have HE := Lib.hid (HE.out.below hb)
                                          have HP := Lib.hid ((hb.block _ (lt_of_block HP.out)).trans HP.out)
                                          simp only [hY, hyb]
                                          clear hY hyb hb
                                          go_cut [191] (fun c wx => c = .bool (isOkR r) ∧ wx = Y4)
                                          case first =>
                                            as_aux_lemma =>
                                              cases r with
                                              | error f =>
                                                obtain ⟨fb, rfl⟩ := HEV.out
                                                go_wp2_with fail
                                                go_meet
                                                exact ⟨rfl, rfl⟩
                                              | ok y0 =>
                                                obtain rfl : ev = .nilIface := HEV.out
                                                go_wp2_with fail
                                                go_meet
                                                exact ⟨rfl, rfl⟩
                                          case rest =>
                                            as_aux_lemma =>
                                              obtain ⟨rfl, hwc⟩ := hcut
                                              obtain rfl : Y4 = wc := hwc.symm
                                              go_upto_if 191 with fail
                                              go_cut [33, 34] (fun _ _ wx => Hid (Below Y4.heap.size Y4 wx))
                                              case first =>
                                                as_aux_lemma =>
                                                  cases r with
                                                  | error f =>
                                                    go_wp2
                                                    go_meet
                                                    exact Lib.hid (Below.refl _ _)
                                                  | ok y0 =>
                                                    obtain rfl : y0 = y := HYY.out
                                                    obtain ⟨hm, hl, hd⟩ := header_back HRR.out
                                                    have HW := Lib.hid (wheader2_any B (y0 0).n (y0 1).s (y0 2).s (y0 3).s Y4 HE.out.p (dok_n (hd 0)) (header_roots hm).1 (header_roots hm).2.1 (header_roots hm).2.2 (fun h => Nat.le_trans (headerSz h) (by decide)))
                                                    have HM := Lib.hid hm
                                                    have HLL := Lib.hid hl
                                                    clear hm hl hd
                                                    have cY : ∀ o, Y4.cell? ⟨yb, o, none⟩ = _ := block_cell HY.out
                                                    go_wp2_with fail
                                                    refine HW.out.mono ?_
                                                    rintro e c4 hh
                                                    obtain ⟨rfl, hb⟩ := hh.both
                                                    rw [codeOf_yes HM.out, textOf_yes HM.out, HLL.out]
                                                    have HBR := Lib.hid hb
                                                    clear hb hh cY
                                                    go_wp2
                                                    go_meet
                                                    exact HBR
                                              case rest =>
                                                as_aux_lemma =>
                                                  have hb := hcut.out
                                                  have HB := Lib.hid (bnext HB.out hb)
                                                  have HE := Lib.hid (HE.out.below hb)
                                                  have HP := Lib.hid ((hb.block _ (lt_of_block HP.out)).trans HP.out)
                                                  clear hb hcut
                                                  go_wp2
                                                  go_ret
                                                  exact ⟨rfl, HB.out⟩
end Go.Proofs.YtihiaopilnjonaaGreatDoor
