/- Parts of the proof, one behind the other. -/
import Derived.Test.YtpobhbdomldecaaGreatDoorPtkP2
import Derived.Laws.BytesArg
import Derived.WalkMore
import Derived.Lib.SliceRun
import Derived.Laws.EntriesVeiled
import Derived.Deep.QuietTactic
import Derived.BigQuiet
import Derived.StillTailTactics
import Derived.Laws.Strings
import Derived.Maps.RangeRun
import Derived.Maps.RangeWalk
import Derived.Carry
import Derived.Defers
import Derived.Recover
import Derived.Maps.AppendAt
import Derived.ArgAppend
import Derived.Laws.AppendOwnNone
import Derived.ProofKit
import Derived.OpenShut
import Derived.ShutString
import Derived.ChangeOld
import Derived.Deep.Slices
import Derived.Deep.Fields
import Derived.LaidMore
import Derived.LaidHandle
import Derived.Stop.Joined
import Derived.ChangeVars
import Derived.JoinedOf
import Derived.RowKitTokens
import Derived.ChangeMaps5
import Derived.Test.YtpobhbdomldecaaGreatDoorCards
import Derived.Test.YtpobhbdomldecaaGreatDoorTie
import Derived.SevenTiedAt
namespace Go.Proofs.YtpobhbdomldecaaGreatDoor
open Go.RowKit
set_option linter.unusedSimpArgs false
set_option linter.unusedVariables false
def LaidOut (s' : ByteArray) (b base : Nat) (w : World) (e : Ending) (w' : World) : Prop := e = .returned (.int .i64 0) ∧ WrB w' b base s' ∧ WK base b w w'
theorem many_any (B b base sort n : Nat) (s : ByteArray) (w : World) (ht : PTab B w) (hB : B ≤ base) (hW : WrB w b base s) (h5 : sort < 5) (hn : n < 65536) (hs : s.size ≤ 70000000000000) :
    Calls Tryz.prog 261 #[.pointer (some ⟨b, 0, none⟩), .int .i64 sort, .int .i64 n] w (LaidOut (s ++ baL (headP sort n)) b base w) := by
  have H := Lib.hid (phead_any B b base sort n s w ht hB hW h5 (by omega) (by omega) hs)
  have i1 : decide ((65536 : Int) ≤ (n : Int)) = false := decide_eq_false (by omega)
  have i2 : IntKind.u64.wrap (n : Int) = n := IntWalk.u64_in _ (by omega)
  clear ht hW
  go_enter Tryz.func261, Tryz.ntmps261
  go_wp2_with fail
  refine H.out.mono ?_
  rintro e w' ⟨rfl, h1, h2⟩
  have H1 := Lib.hid h1
  have H2 := Lib.hid h2
  clear h1 h2
  go_wp2
  go_ret
  exact ⟨rfl, H1.out, H2.out⟩
set_option maxRecDepth 100000 in
theorem whole_any (B b base sort : Nat) (t s : ByteArray) (w : World) (ht : PTab B w) (hB : B ≤ base) (hW : WrB w b base s) (h5 : sort < 5) (hn : t.size < 65536) (hs : s.size ≤ 70000000000000) :
    Calls Tryz.prog 262 #[.pointer (some ⟨b, 0, none⟩), .int .i64 sort, .string t] w (LaidOut (s ++ (baL (headP sort t.size) ++ t)) b base w) := by
  have H := Lib.hid (many_any B b base sort t.size s w ht hB hW h5 hn hs)
  have HBS : Hid (base ≤ w.heap.size) := Lib.hid (by have := hW.1; have := hW.lt; omega)
  obtain ⟨i0, hi, hz0, hz1, hz2⟩ := info_parts info_u8
  clear ht hW
  go_enter Tryz.func262, Tryz.ntmps262
  go_wp2_with fail
  refine H.out.mono ?_
  rintro e w1 ⟨rfl, h1, h2⟩
  obtain ⟨s1, hs1⟩ : ∃ s1, s ++ baL (headP sort t.size) = s1 := ⟨_, rfl⟩
  have hl2 : s1.size ≤ 70000000000009 := by have hl := headP_len sort t.size; rw [← hs1, ByteArray.size_append, baL_size]; omega
  have HS1 : Hid (s ++ (baL (headP sort t.size) ++ t) = s1 ++ t) := Lib.hid (by rw [← hs1, ByteArray.append_assoc])
  rw [hs1] at h1
  clear hs1
  obtain ⟨hb, v, hv, hown⟩ := h1
  have HV := Lib.hid hv
  have HOWN := Lib.hid hown
  have H2 := Lib.hid h2
  have cb := block_cell hv 0
  simp only [List.getElem?_toArray, List.getElem?_cons_zero] at cb
  clear hv hown h2
  go_wp2_with (at_builtin; refine Lib.wpList_append_own_string _ rfl _ _ 41 9 rfl base 5 i0 Tryz.underlying41 Tryz.underlying9 hi hz0 hz1 hz2 _ _ _ rfl HOWN.out t rfl (by unfold maxLen; omega) (by omega) (by have := HBS.out; have := H2.out.bel.size; omega) ?_)
  intro v' w2 hown' hgrow _
  have hst := wr_step (s' := s1 ++ t) hb HV.out HOWN.out (w1 := w2) ⟨hgrow.os, hgrow.tape, hgrow.output, hgrow.size, hgrow.block⟩ (v' := v') (ys := Lib.strCells s1 ++ Lib.strCells t) (by rw [ByteArray.size_append]; exact hown') (by rw [← strCells_app])
  have HST := Lib.hid hst
  have hc4 := hst.1
  have hf4 := hst.2.1
  have hsl : ∃ g cap, v' = .slice (some ⟨g, 0, none⟩) (s1.size + t.size) cap ∨ v' = .slice none 0 0 := by
    rcases hown'.2 with ⟨h, _⟩ | ⟨g, cap, cur, h, _⟩
    · exact ⟨0, 0, .inr h⟩
    · exact ⟨g, cap, .inl h⟩
  clear hst hown' hgrow
  obtain ⟨ga, gc, rfl | rfl⟩ := hsl
  · go_wp2
    go_ret
    exact ⟨rfl, by rw [HS1.out]; exact HST.out.2.2.1, H2.out.trans HST.out.2.2.2⟩
  · go_wp2
    go_ret
    exact ⟨rfl, by rw [HS1.out]; exact HST.out.2.2.1, H2.out.trans HST.out.2.2.2⟩
theorem Num_w (B b base : Nat) (n : Int) (s : ByteArray) (w : World) (ht : PTab B w) (hB : B ≤ base) (hW : WrB w b base s) (h0 : 0 ≤ n) (h1 : n ≤ 18446744073709551615) (hs : s.size ≤ 70000000000000) :
    Calls Tryz.prog 205 #[.pointer (some ⟨b, 0, none⟩), .int .u64 n] w (LaidOut (s ++ numP n) b base w) := by
  have H := Lib.hid (phead_any B b base 0 n s w ht hB hW (by decide) h0 h1 hs)
  clear ht hW
  go_enter Tryz.func205, Tryz.ntmps205
  go_wp2_with fail
  refine H.out.mono ?_
  rintro e w' ⟨rfl, h1, h2⟩
  have H1 := Lib.hid h1
  have H2 := Lib.hid h2
  clear h1 h2
  go_wp2
  go_ret
  have e : numP n = baL (headP 0 n) := by unfold numP laidP; exact ba_ext (by simp)
  exact ⟨rfl, by rw [e]; exact H1.out, H2.out⟩
theorem Str_w (B b base : Nat) (t s : ByteArray) (w : World) (ht : PTab B w) (hB : B ≤ base) (hW : WrB w b base s) (hn : t.size < 65536) (hs : s.size ≤ 70000000000000) :
    Calls Tryz.prog 201 #[.pointer (some ⟨b, 0, none⟩), .string t] w (LaidOut (s ++ strP t) b base w) := by
  have H := Lib.hid (whole_any B b base 2 t s w ht hB hW (by decide) hn hs)
  clear ht hW
  go_enter Tryz.func201, Tryz.ntmps201
  go_wp2_with fail
  refine H.out.mono ?_
  rintro e w' ⟨rfl, h1, h2⟩
  have H1 := Lib.hid h1
  have H2 := Lib.hid h2
  clear h1 h2
  go_wp2
  go_ret
  exact ⟨rfl, H1.out, H2.out⟩
theorem Bin_w (B b base : Nat) (t s : ByteArray) (w : World) (ht : PTab B w) (hB : B ≤ base) (hW : WrB w b base s) (hn : t.size < 65536) (hs : s.size ≤ 70000000000000) :
    Calls Tryz.prog 212 #[.pointer (some ⟨b, 0, none⟩), .string t] w (LaidOut (s ++ binP t) b base w) := by
  have H := Lib.hid (whole_any B b base 1 t s w ht hB hW (by decide) hn hs)
  clear ht hW
  go_enter Tryz.func212, Tryz.ntmps212
  go_wp2_with fail
  refine H.out.mono ?_
  rintro e w' ⟨rfl, h1, h2⟩
  have H1 := Lib.hid h1
  have H2 := Lib.hid h2
  clear h1 h2
  go_wp2
  go_ret
  exact ⟨rfl, H1.out, H2.out⟩
theorem Map_w (B b base n : Nat) (s : ByteArray) (w : World) (ht : PTab B w) (hB : B ≤ base) (hW : WrB w b base s) (hn : n < 65536) (hs : s.size ≤ 70000000000000) :
    Calls Tryz.prog 200 #[.pointer (some ⟨b, 0, none⟩), .int .i64 n] w (LaidOut (s ++ mapP n) b base w) := by
  have H := Lib.hid (many_any B b base 4 n s w ht hB hW (by decide) hn hs)
  clear ht hW
  go_enter Tryz.func200, Tryz.ntmps200
  go_wp2_with fail
  refine H.out.mono ?_
  rintro e w' ⟨rfl, h1, h2⟩
  have H1 := Lib.hid h1
  have H2 := Lib.hid h2
  clear h1 h2
  go_wp2
  go_ret
  have e : mapP n = baL (headP 4 n) := by unfold mapP laidP; exact ba_ext (by simp)
  exact ⟨rfl, by rw [e]; exact H1.out, H2.out⟩
theorem strNums (s : ByteArray) : strOfNums (s.data.toList.map fun b => (b.toNat : Int)) = s := by
  refine ba_ext ?_
  rw [strOfNums_data, List.map_map]
  conv => rhs; rw [← List.map_id s.data.toList]
  refine List.map_congr_left fun x _ => ?_
  simp
set_option maxRecDepth 100000 in
theorem ptext_any (b base : Nat) (s : ByteArray) (w : World) (hW : WrB w b base s) : Calls Tryz.prog 150 #[.pointer (some ⟨b, 0, none⟩)] w fun e w' => e = .returned (.string s) ∧ w = w' := by
  obtain ⟨hb, v, hv, hown⟩ := hW
  have cb := block_cell hv 0
  simp only [List.getElem?_toArray, List.getElem?_cons_zero] at cb
  have hc : ∀ t, Tryz.prog.underlying t = some .string → (convert 41 t v).run Tryz.prog w = .ok (.string s) w := by
    intro t ht
    rcases hown.2 with ⟨rfl, h0⟩ | ⟨g, cap, cur, rfl, _, _, _, _, _, _⟩
    · have e : s = ByteArray.empty := ba_ext (by
        have : s.data.toList.length = 0 := by rw [ba_len]; exact h0
        rw [List.eq_nil_of_length_eq_zero this]; rfl)
      rw [e]
      exact run_convert_bytes_nil w 41 5 Tryz.underlying41 Tryz.underlying5 0 0 t ht
    · have h := run_convert_bytes_arg (P := Tryz.prog) w 41 5 Tryz.underlying41 Tryz.underlying5 g 0 s.size cap (s.data.toList.map fun b => (b.toNat : Int)) (by rw [List.length_map, ba_len]) (fun i hi => by
        have h1 := hown.cellAt i (by omega)
        rw [Nat.zero_add, h1]
        have hi2 : i < s.data.toList.length := by rw [ba_len]; exact hi
        unfold Lib.strCells
        rw [List.getElem?_map, List.getElem?_eq_getElem hi2, List.getD_eq_getElem?_getD, List.getElem?_map, List.getElem?_eq_getElem hi2]; rfl) t ht
      rw [strNums] at h; exact h
  have hcv := hc 9 Tryz.underlying9
  clear hc hown hv
  go_enter Tryz.func150, Tryz.ntmps150
  go_wp2
  go_ret
  exact ⟨rfl, rfl⟩
theorem pnew_any (w : World) : Calls Tryz.prog 148 #[] w fun e w' => e = .returned (.pointer (some ⟨w.heap.size, 0, none⟩)) ∧ WrB w' w.heap.size w.heap.size ByteArray.empty ∧ Below w.heap.size w w' := by
  go_enter Tryz.func148, Tryz.ntmps148
  go_wp2
  go_ret
  exact ⟨rfl, ⟨Nat.le_refl _, .slice none 0 0, heap_alloc_new _ _, World.ownsRow_nil _ _ _ _⟩, by (repeat (first | exact Below.refl _ _ | assumption | (refine bdrew ?_) | (refine bdrewN ?_ _) | (refine balloc ?_ _) | (refine bset ?_ (by first | omega | (simp; done) | (simp; omega)) _) | (refine bnext ?_ (by assumption))))⟩
end Go.Proofs.YtpobhbdomldecaaGreatDoor
namespace Go.Proofs.YtpobhbdomldecaaGreatDoor
open Go.RowKit
set_option linter.unusedSimpArgs false
set_option linter.unusedVariables false
structure FVal where
  key : ByteArray
  must : Bool
  ef : Nat
  ec : Array Value
  mf : Nat
  mc : Array Value
  pf : Nat
  pc : Array Value
  gf : Nat
  gc : Array Value
abbrev FVal.val (r : FVal) : Value := .agg #[.string r.key, .bool r.must, .func (.func r.ef) #[] r.ec, .func (.func r.mf) #[] r.mc, .func (.func r.pf) #[] r.pc, .func (.func r.gf) #[] r.gc]
def FVal.cells (r : FVal) : List Value := [.string r.key, .bool r.must, .func (.func r.ef) #[] r.ec, .func (.func r.mf) #[] r.mc, .func (.func r.pf) #[] r.pc, .func (.func r.gf) #[] r.gc]
theorem FVal.cells_len (r : FVal) : r.cells.length = 6 := rfl
theorem FVal.cells_one (r : FVal) : ∀ u ∈ r.cells, u.oneCell' = true := by intro u hu; simp only [FVal.cells, List.mem_cons, List.not_mem_nil, or_false] at hu; rcases hu with rfl | rfl | rfl | rfl | rfl | rfl <;> rfl
def FVal.zero : FVal := ⟨ByteArray.empty, false, 0, #[], 0, #[], 0, #[], 0, #[]⟩
def fth (l : List FVal) (i : Nat) : FVal := l.getD i FVal.zero
theorem fth_eq (l : List FVal) (i : Nat) (h : i < l.length) : fth l i = l[i] := by unfold fth; rw [List.getD_eq_getElem?_getD, List.getElem?_eq_getElem h]; rfl
structure FValAt (w : World) (b o : Nat) (r : FVal) : Prop where
  c0 : w.cell? ⟨b, o, none⟩ = some (.string r.key)
  c1 : w.cell? ⟨b, o + 1, none⟩ = some (.bool r.must)
  c2 : w.cell? ⟨b, o + 2, none⟩ = some (.func (.func r.ef) #[] r.ec)
  c3 : w.cell? ⟨b, o + 3, none⟩ = some (.func (.func r.mf) #[] r.mc)
  c4 : w.cell? ⟨b, o + 4, none⟩ = some (.func (.func r.pf) #[] r.pc)
  c5 : w.cell? ⟨b, o + 5, none⟩ = some (.func (.func r.gf) #[] r.gc)
theorem FValAt.below {w w' : World} {b o : Nat} {r : FVal} (h : FValAt w b o r) (hb : Below w.heap.size w w') : FValAt w' b o r := by
  have hl := lt_of_cell h.c0
  have e : ∀ q, w'.cell? ⟨b, q, none⟩ = w.cell? ⟨b, q, none⟩ := fun q => hb.cell (p := ⟨b, q, none⟩) hl
  obtain ⟨c0, c1, c2, c3, c4, c5⟩ := h
  constructor <;> (rw [e]; assumption)
def Flds (w : World) (a : Option Addr) (l : List FVal) : Prop := ∀ i, i < len l → ∃ b off, a = some ⟨b, off, none⟩ ∧ FValAt w b (off + i * 6) (fth l i)
theorem Flds.nil (w : World) (a : Option Addr) : Flds w a [] := fun i hi => absurd hi (by simp [len])
theorem Flds.below {w w' : World} {a : Option Addr} {l : List FVal} (h : Flds w a l) (hb : Below w.heap.size w w') : Flds w' a l := fun i hi => by
  obtain ⟨b, off, rfl, hc⟩ := h i hi
  exact ⟨b, off, rfl, hc.below hb⟩
theorem Flds.drew {w w' : World} {a : Option Addr} {l : List FVal} (h : Flds w a l) (hb : Drew w w') : Flds w' a l := h.below (hb.below _)
theorem Flds.take {w : World} {a : Option Addr} {l : List FVal} (h : Flds w a l) (k : Nat) : Flds w a (l.take k) := fun i hi => by
  have hi2 : i < l.length ∧ i < k := by simp only [len, List.length_take] at hi; omega
  have hi3 : i < (l.take k).length := hi
  have e : fth (l.take k) i = fth l i := by rw [fth_eq l i hi2.1, fth_eq _ i hi3, List.getElem_take]
  rw [e]; exact h i hi2.1
theorem Flds.drop {w : World} {b off : Nat} {l : List FVal} (h : Flds w (some ⟨b, off, none⟩) l) (k : Nat) : Flds w (some ⟨b, off + k * 6, none⟩) (l.drop k) := fun i hi => by
  have hi2 : k + i < l.length := by simp only [len, List.length_drop] at hi; omega
  have hi3 : i < (l.drop k).length := hi
  have e : fth (l.drop k) i = fth l (k + i) := by rw [fth_eq l _ hi2, fth_eq _ i hi3, List.getElem_drop]
  obtain ⟨b', off', e2, hc⟩ := h (k + i) hi2
  cases e2
  exact ⟨b, _, rfl, by rw [e, show off + k * 6 + i * 6 = off + (k + i) * 6 by omega]; exact hc⟩
theorem Flds.own {w : World} {base e n : Nat} {v : Value} {l : List FVal} (h : w.ownsRow base e 6 v n (l.flatMap FVal.cells)) : ∃ a cap, v = .slice a (len l) cap ∧ Flds w a l ∧ len l ≤ cap := by
  have hn : len l = n := by have := h.1; rw [flat_length FVal.cells 6 FVal.cells_len] at this; rw [len_eq]; omega
  obtain ⟨h1, h2⟩ := h
  rcases h2 with ⟨rfl, h2⟩ | ⟨g, cap, cur, rfl, hg, hh, hc1, hc2, hc3, hc4⟩
  · obtain rfl : l = [] := List.eq_nil_of_length_eq_zero (by rw [← len_eq]; omega)
    exact ⟨none, 0, rfl, Flds.nil _ _, Nat.le_refl _⟩
  · refine ⟨some ⟨g, 0, none⟩, cap, by rw [hn], fun i hi => ⟨g, 0, rfl, ?_⟩, by omega⟩
    have hown : w.ownsRow base e 6 (.slice (some ⟨g, 0, none⟩) n cap) n (l.flatMap FVal.cells) := ⟨h1, .inr ⟨g, cap, cur, rfl, hg, hh, hc1, hc2, hc3, hc4⟩⟩
    have key : ∀ r, r < 6 → w.cell? ⟨g, 0 + i * 6 + r, none⟩ = (fth l i).cells[r]? := fun r hr => by
      have := hown.cellAt (i * 6 + r) (by rw [← hn]; omega)
      rw [Nat.zero_add, this, flat_get FVal.cells 6 FVal.cells_len l i r hi hr, fth_eq l i hi]
    exact ⟨key 0 (by decide), key 1 (by decide), key 2 (by decide), key 3 (by decide), key 4 (by decide), key 5 (by decide)⟩
theorem Flds.block {w : World} {g : Nat} {l : List FVal} {t : TypeId} {fr : Nat × Nat} (h : w.heap[g]? = some (.cells (l.flatMap FVal.cells).toArray t fr)) : Flds w (some ⟨g, 0, none⟩) l := fun i hi => ⟨g, 0, rfl, by
  have key : ∀ r, r < 6 → w.cell? ⟨g, 0 + i * 6 + r, none⟩ = (fth l i).cells[r]? := fun r hr => by
    rw [Nat.zero_add, block_cell h, List.getElem?_toArray, flat_get FVal.cells 6 FVal.cells_len l i r hi hr, fth_eq l i hi]
  exact ⟨key 0 (by decide), key 1 (by decide), key 2 (by decide), key 3 (by decide), key 4 (by decide), key 5 (by decide)⟩⟩
structure Keep8 (B : Nat) (W0 w : World) : Prop where
  s0 : B ≤ W0.heap.size
  s1 : W0.heap.size ≤ w.heap.size
  low : ∀ k : Nat, k < B → w.heap[k]? = W0.heap[k]?
  keep : ∀ (k : Nat) (x : Obj), W0.heap[k]? = some x → Not8 x → w.heap[k]? = some x
theorem Keep8.refl {B : Nat} {w : World} (h : B ≤ w.heap.size) : Keep8 B w w := ⟨h, Nat.le_refl _, fun _ _ => rfl, fun _ _ h _ => h⟩
theorem Keep8.trans {B : Nat} {a b c : World} (h : Keep8 B a b) (k : Keep8 B b c) : Keep8 B a c := ⟨h.s0, Nat.le_trans h.s1 k.s1, fun i hi => (k.low i hi).trans (h.low i hi), fun i x hx hn => k.keep i x (h.keep i x hx hn) hn⟩
theorem Keep8.of_below {B : Nat} {w w' : World} (h : Below w.heap.size w w') (hB : B ≤ w.heap.size) : Keep8 B w w' := ⟨hB, h.size, fun k hk => h.block k (Nat.lt_of_lt_of_le hk hB), fun k x hx _ => (h.block k (lt_of_block hx)).trans hx⟩
theorem Keep8.next {B : Nat} {W0 w w' : World} (h : Keep8 B W0 w) (hb : Below w.heap.size w w') : Keep8 B W0 w' := h.trans (Keep8.of_below hb (Nat.le_trans h.s0 h.s1))
theorem Keep8.base {B B' : Nat} {W0 w w' : World} (h : Keep8 B W0 w) (hb : Below B' w w') (hB : W0.heap.size ≤ B') : Keep8 B W0 w' :=
  ⟨h.s0, Nat.le_trans h.s1 hb.size, fun k hk => (hb.block k (Nat.lt_of_lt_of_le hk (Nat.le_trans h.s0 hB))).trans (h.low k hk), fun k x hx hn => (hb.block k (Nat.lt_of_lt_of_le (lt_of_block hx) hB)).trans (h.keep k x hx hn)⟩
def Off8 (W0 : World) (b : Nat) : Prop := ∀ x, W0.heap[b]? = some x → ¬ Not8 x
theorem Off8.of_le {W0 : World} {b : Nat} (h : W0.heap.size ≤ b) : Off8 W0 b := fun x hx => by have := lt_of_block hx; omega
theorem Off8.ne {W0 : World} {b k : Nat} {x : Obj} (h : Off8 W0 b) (hk : W0.heap[k]? = some x) (hn : Not8 x) : k ≠ b := fun e => by subst e; exact h x hk hn
theorem Off8.early {B b : Nat} {W0 W1 : World} (h : Off8 W1 b) (hk : Keep8 B W0 W1) : Off8 W0 b := fun x hx hn => h x (hk.keep b x hx hn) hn
theorem Keep8.wk {B base b : Nat} {W0 w w' : World} (h : Keep8 B W0 w) (hk : WK base b w w') (hb : Off8 W0 b) (hB : B ≤ base) : Keep8 B W0 w' :=
  ⟨h.s0, Nat.le_trans h.s1 hk.bel.size, fun k hk2 => (hk.bel.block k (Nat.lt_of_lt_of_le hk2 hB)).trans (h.low k hk2), fun k x hx hn => hk.keep k x (h.keep k x hx hn) (hb.ne hx hn) hn⟩
structure FSem (B : Nat) (W0 : World) (v : FVal) (f : FSpec) : Prop where
  key : v.key = f.key
  must : v.must = f.must
  ksz : f.key.size < 65536
  ee : ∀ args w, (callFunc v.ef args).run Tryz.prog w = .ok (.enter v.ef args) w
  em : ∀ args w, (callFunc v.mf args).run Tryz.prog w = .ok (.enter v.mf args) w
  ep : ∀ args w, (callFunc v.pf args).run Tryz.prog w = .ok (.enter v.pf args) w
  empty : ∀ w, Keep8 B W0 w → Calls Tryz.prog v.ef v.ec w fun e w' => e = .returned (.bool f.empty) ∧ Below w.heap.size w w'
  may : ∀ w, Keep8 B W0 w → Calls Tryz.prog v.mf v.mc w fun e w' => e = .returned (.bool f.may) ∧ Below w.heap.size w w'
  put : f.may = true → f.empty = false → ∀ w b base s, Keep8 B W0 w → Off8 W0 b → PTab B w → B ≤ base → WrB w b base s → s.size + f.bytes.size ≤ 60000000000000 →
    Calls Tryz.prog v.pf (#[.pointer (some ⟨b, 0, none⟩)] ++ v.pc) w fun e w' => e = .returned (.tuple #[]) ∧ WrB w' b base (s ++ f.bytes) ∧ WK base b w w'
theorem FSem.later {B : Nat} {W0 W1 : World} {v : FVal} {f : FSpec} (h : FSem B W0 v f) (hk : Keep8 B W0 W1) : FSem B W1 v f :=
  ⟨h.key, h.must, h.ksz, h.ee, h.em, h.ep, fun w hw => h.empty w (hk.trans hw), fun w hw => h.may w (hk.trans hw), fun h1 h2 w b base s hw hb => h.put h1 h2 w b base s (hk.trans hw) (hb.early hk)⟩
def spth (l : List FSpec) (i : Nat) : FSpec := l.getD i ⟨ByteArray.empty, false, false, false, ByteArray.empty⟩
theorem spth_eq (l : List FSpec) (i : Nat) (h : i < l.length) : spth l i = l[i] := by unfold spth; rw [List.getD_eq_getElem?_getD, List.getElem?_eq_getElem h]; rfl
def FSems (B : Nat) (W0 : World) (l : List FVal) (fs : List FSpec) : Prop := len fs = len l ∧ ∀ i, i < len l → FSem B W0 (fth l i) (spth fs i)
theorem FSems.later {B : Nat} {W0 W1 : World} {l : List FVal} {fs : List FSpec} (h : FSems B W0 l fs) (hk : Keep8 B W0 W1) : FSems B W1 l fs := ⟨h.1, fun i hi => (h.2 i hi).later hk⟩
def SaysF (w : World) (l : List FVal) (g : Nat) (lb : Array Value) (p : Nat → Bool) : Prop :=
  (∀ args w', (callFunc g args).run Tryz.prog w' = .ok (.enter g args) w') ∧ ∀ i, i < len l → ∀ w', Below w.heap.size w w' → Calls Tryz.prog g (#[(fth l i).val] ++ lb) w' fun e w'' => e = .returned (.bool (p i)) ∧ Below w'.heap.size w' w''
def IdxOut (n : Nat) (p : Nat → Bool) (w : World) (e : Ending) (w' : World) : Prop :=
  ∃ r : Int, e = .returned (.int .i64 r) ∧ ((r = -1 ∧ ∀ i, i < n → p i = false) ∨ ∃ k : Nat, k < n ∧ r = k ∧ p k = true ∧ ∀ i, i < k → p i = false) ∧ Below w.heap.size w w'
set_option maxRecDepth 100000 in
set_option maxHeartbeats 4000000 in
theorem idxf_any (a : Option Addr) (c : Nat) (l : List FVal) (g : Nat) (lb : Array Value) (p : Nat → Bool) (w : World) (hl : Flds w a l) (hn : len l ≤ 1000) (hp : SaysF w l g lb p) :
    Calls Tryz.prog 248 #[.slice a (len l) c, .func (.func g) #[] lb] w (IdxOut (len l) p w) := by
  have HL := Lib.hid hl
  have HP := Lib.hid hp.2
  have eg := hp.1
  clear hl hp
  go_enter Tryz.func248, Tryz.ntmps248
  go_wp2
  go_loopg [8] (len l) (fun g i wr => ∃ m : Nat, g + m = len l ∧ i = .int .i64 m ∧ Hid (∀ i, i < m → p i = false) ∧ Hid (Below w.heap.size w wr))
  case atStart => exact ⟨0, rfl, rfl, fun i hi => by omega, Below.refl _ _⟩
  case round =>
    obtain ⟨m, hm, rfl, HN, HB⟩ := hrel
    by_cases hlt : m < len l
    · obtain ⟨b, off, rfl, c0, c1, c2, c3, c4, c5⟩ := (HL.out.below HB.out) m hlt
      have i1 : (m : Int) < len l := by omega
      have hcall := HP.out m hlt wr HB.out
      unfold FVal.val at hcall
      have HC := Lib.hid hcall
      clear hcall
      generalize fth l m = v at c0 c1 c2 c3 c4 c5 HC
      go_wp2_with fail
      refine HC.out.mono ?_
      rintro e w1 ⟨rfl, hb⟩
      have HB1 : Hid (Below w.heap.size w w1) := Lib.hid (bnext HB.out hb)
      clear hb c0 c1 c2 c3 c4 c5
      cases hpm : p m with
      | true =>
        go_wp2
        go_ret
        exact ⟨m, rfl, .inr ⟨m, hlt, rfl, hpm, HN.out⟩, HB1.out⟩
      | false =>
        have HN2 : Hid (∀ i, i < m + 1 → p i = false) := Lib.hid (fun i hi => by
          by_cases e : i = m
          · subst e; exact hpm
          · exact HN.out i (by omega))
        clear hpm
        go_wp2
        go_roundg (len l - (m + 1))
        case rel => exact ⟨m + 1, by omega, by go_num, HN2.out, HB1.out⟩
        case measure => omega
    · obtain rfl : m = len l := by omega
      have i1 : ¬ ((len l : Nat) : Int) < len l := by omega
      go_wp2
      go_ret
      exact ⟨-1, rfl, .inl ⟨rfl, HN.out⟩, HB.out⟩
theorem containsf_any (a : Option Addr) (c : Nat) (l : List FVal) (g : Nat) (lb : Array Value) (p : Nat → Bool) (w : World) (hl : Flds w a l) (hn : len l ≤ 1000) (hp : SaysF w l g lb p) :
    Calls Tryz.prog 195 #[.slice a (len l) c, .func (.func g) #[] lb] w fun e w' => ∃ b, e = .returned (.bool b) ∧ (b = true ↔ ∃ i, i < len l ∧ p i = true) ∧ Below w.heap.size w w' := by
  have H := Lib.hid (idxf_any a c l g lb p w hl hn hp)
  clear hl hp
  go_enter Tryz.func195, Tryz.ntmps195
  go_wp2_with fail
  refine H.out.mono ?_
  rintro e w1 ⟨r, rfl, hr, hb⟩
  have HB := Lib.hid hb
  clear hb
  rcases hr with ⟨rfl, hall⟩ | ⟨k, hk, rfl, hpk, -⟩
  · have HA := Lib.hid hall
    clear hall
    go_wp2
    go_ret
    exact ⟨false, rfl, ⟨fun h => (by cases h), fun ⟨i, hi, h⟩ => by rw [HA.out i hi] at h; cases h⟩, HB.out⟩
  · have HK := Lib.hid hpk
    clear hpk
    go_wp2
    go_ret
    exact ⟨true, rfl, ⟨fun _ => ⟨k, hk, HK.out⟩, fun _ => rfl⟩, HB.out⟩
end Go.Proofs.YtpobhbdomldecaaGreatDoor
namespace Go.Proofs.YtpobhbdomldecaaGreatDoor
open Go.RowKit
set_option linter.unusedSimpArgs false
set_option linter.unusedVariables false
structure Chg (rb tb : Nat) (w w' : World) : Prop where
  os : w'.os = w.os
  tape : w'.tape = w.tape
  output : w'.output = w.output
  size : w.heap.size ≤ w'.heap.size
  block : ∀ i, i < w.heap.size → i ≠ rb → i ≠ tb → w'.heap[i]? = w.heap[i]?
theorem Chg.refl (rb tb : Nat) (w : World) : Chg rb tb w w := ⟨rfl, rfl, rfl, Nat.le_refl _, fun _ _ _ _ => rfl⟩
theorem Chg.trans {rb tb : Nat} {a b c : World} (h : Chg rb tb a b) (k : Chg rb tb b c) : Chg rb tb a c :=
  ⟨k.os.trans h.os, k.tape.trans h.tape, k.output.trans h.output, Nat.le_trans h.size k.size, fun i hi h1 h2 => (k.block i (Nat.lt_of_lt_of_le hi h.size) h1 h2).trans (h.block i hi h1 h2)⟩
theorem Chg.of_below {rb tb : Nat} {w w' : World} (h : Below w.heap.size w w') : Chg rb tb w w' := ⟨h.os, h.tape, h.output, h.size, fun i hi _ _ => h.block i hi⟩
theorem Chg.of_ext {rb tb : Nat} {w w' : World} (h : ExtB (some rb) w w') : Chg rb tb w w' := ⟨h.os, h.tape, h.output, h.size, fun i hi h1 _ => h.block i hi (by simpa using h1)⟩
theorem Chg.next {rb tb : Nat} {a b c : World} (h : Chg rb tb a b) (k : Below b.heap.size b c) : Chg rb tb a c := h.trans (Chg.of_below k)
theorem Chg.ext {rb tb : Nat} {a b c : World} (h : Chg rb tb a b) (k : ExtB (some rb) b c) : Chg rb tb a c := h.trans (Chg.of_ext k)
theorem Chg.set {rb tb : Nat} {a b : World} (h : Chg rb tb a b) (o : Nat) (v : Value) : Chg rb tb a (b.setCell ⟨tb, o, none⟩ v) :=
  ⟨h.os, h.tape, h.output, by simpa using h.size, fun i hi h1 h2 => by rw [Below.heap_setCell _ _ _ _ h2]; exact h.block i hi h1 h2⟩
def Off (rb tb : Nat) (a : Option Addr) : Prop := ∀ b off, a = some ⟨b, off, none⟩ → rb < b ∧ tb < b
def Tx (w : World) (a : Option Addr) (l : List ByteArray) : Prop := Txs w a l ∧ ∀ b off, a = some ⟨b, off, none⟩ → ∃ cs, w.heap[b]? = some (.cells cs 9 (0, 0))
def Ux (w : World) (a : Option Addr) (l : List Int) : Prop := U64s w a l ∧ ∀ b off, a = some ⟨b, off, none⟩ → ∃ cs, w.heap[b]? = some (.cells cs 23 (0, 0))
theorem Tx.keep {w w' : World} {a : Option Addr} {l : List ByteArray} (h : Tx w a l) (hb : ∀ b off cs, a = some ⟨b, off, none⟩ → w.heap[b]? = some (.cells cs 9 (0, 0)) → w'.heap[b]? = w.heap[b]?) : Tx w' a l := by
  refine ⟨fun i hi => ?_, fun b off e => ?_⟩
  · obtain ⟨b, off, rfl, h1⟩ := h.1 i hi
    obtain ⟨cs, h2⟩ := h.2 b off rfl
    exact ⟨b, off, rfl, by rw [World.cell?_of_block (w := w) (hb b off cs rfl h2)]; exact h1⟩
  · obtain ⟨cs, h2⟩ := h.2 b off e
    exact ⟨cs, (hb b off cs e h2).trans h2⟩
theorem Ux.keep {w w' : World} {a : Option Addr} {l : List Int} (h : Ux w a l) (hb : ∀ b off cs, a = some ⟨b, off, none⟩ → w.heap[b]? = some (.cells cs 23 (0, 0)) → w'.heap[b]? = w.heap[b]?) : Ux w' a l := by
  refine ⟨fun i hi => ?_, fun b off e => ?_⟩
  · obtain ⟨b, off, rfl, h1⟩ := h.1 i hi
    obtain ⟨cs, h2⟩ := h.2 b off rfl
    exact ⟨b, off, rfl, by rw [World.cell?_of_block (w := w) (hb b off cs rfl h2)]; exact h1⟩
  · obtain ⟨cs, h2⟩ := h.2 b off e
    exact ⟨cs, (hb b off cs e h2).trans h2⟩
theorem Tx.chg {rb tb : Nat} {w w' : World} {a : Option Addr} {l : List ByteArray} (h : Tx w a l) (ho : Off rb tb a) (hc : Chg rb tb w w') : Tx w' a l :=
  h.keep fun b off cs e h2 => hc.block b (lt_of_block h2) (by have := (ho b off e).1; omega) (by have := (ho b off e).2; omega)
theorem Ux.chg {rb tb : Nat} {w w' : World} {a : Option Addr} {l : List Int} (h : Ux w a l) (ho : Off rb tb a) (hc : Chg rb tb w w') : Ux w' a l :=
  h.keep fun b off cs e h2 => hc.block b (lt_of_block h2) (by have := (ho b off e).1; omega) (by have := (ho b off e).2; omega)
theorem Tx.ext {row : Option Nat} {w w' : World} {a : Option Addr} {l : List ByteArray} (h : Tx w a l) (hE : ExtB row w w') (hr : ∀ k, row = some k → ∃ cs T, w.heap[k]? = some (.cells cs T (0, 0)) ∧ T ≠ 9) : Tx w' a l :=
  h.keep fun b off cs e h2 => hE.block b (lt_of_block h2) (fun e2 => by obtain ⟨cs', T, h3, h4⟩ := hr b e2.symm; rw [h2] at h3; cases h3; exact h4 rfl)
theorem Revs.chg {rb tb : Nat} {w w' : World} {a : Option Addr} {l : List Rev} (h : Revs w a l) (ho : Off rb tb a) (hc : Chg rb tb w w') : Revs w' a l := fun i hi => by
  obtain ⟨b, off, rfl, h1⟩ := h i hi
  have hb := hc.block b (lt_of_cell h1.c0) (by have := (ho b off rfl).1; omega) (by have := (ho b off rfl).2; omega)
  have e : ∀ q, w'.cell? ⟨b, q, none⟩ = w.cell? ⟨b, q, none⟩ := fun q => World.cell?_of_block (w := w) hb
  obtain ⟨c0, c1, c2, c3, c4, c5, c6, c7, c8, c9, c10⟩ := h1
  exact ⟨b, off, rfl, by constructor <;> (rw [e]; assumption)⟩
def lth (l : List RevD) (i : Nat) : RevD := l.getD i ⟨0, 0, false, 0, [], [], ⟨#[]⟩, 0, 0, 0, 0⟩
structure RevIs (rb tb : Nat) (w : World) (r : Rev) (d : RevD) : Prop where
  pos : r.pos = d.pos
  L : r.L = d.L
  signed : r.signed = d.signed
  idx : r.idx = d.idx
  wn : r.wn = len d.ws
  ws : Tx w r.wa d.ws
  wo : Off rb tb r.wa
  pn : r.pn = len d.ps
  ps : Tx w r.pa d.ps
  po : Off rb tb r.pa
  root : r.root = d.root
  wt : r.wt = d.wt
  first : r.first = d.first
  life : r.life = d.life
  keys : r.keys = d.keys
theorem RevIs.chg {rb tb : Nat} {w w' : World} {r : Rev} {d : RevD} (h : RevIs rb tb w r d) (hc : Chg rb tb w w') : RevIs rb tb w' r d :=
  ⟨h.pos, h.L, h.signed, h.idx, h.wn, h.ws.chg h.wo hc, h.wo, h.pn, h.ps.chg h.po hc, h.po, h.root, h.wt, h.first, h.life, h.keys⟩
theorem RevIs.ext {rb tb : Nat} {row : Option Nat} {w w' : World} {r : Rev} {d : RevD} (h : RevIs rb tb w r d) (hE : ExtB row w w') (hr : ∀ k, row = some k → ∃ cs T, w.heap[k]? = some (.cells cs T (0, 0)) ∧ T ≠ 9) : RevIs rb tb w' r d :=
  ⟨h.pos, h.L, h.signed, h.idx, h.wn, h.ws.ext hE hr, h.wo, h.pn, h.ps.ext hE hr, h.po, h.root, h.wt, h.first, h.life, h.keys⟩
theorem RevIs.outer {rb tb xb : Nat} {w : World} {r : Rev} {d : RevD} (h : RevIs rb xb w r d) (hx : tb ≤ xb) : RevIs rb tb w r d :=
  ⟨h.pos, h.L, h.signed, h.idx, h.wn, h.ws, fun b off e => ⟨(h.wo b off e).1, Nat.lt_of_le_of_lt hx (h.wo b off e).2⟩, h.pn, h.ps, fun b off e => ⟨(h.po b off e).1, Nat.lt_of_le_of_lt hx (h.po b off e).2⟩, h.root, h.wt, h.first, h.life, h.keys⟩
def HoldsD (rb tb : Nat) (w : World) (v : Value) : DV → Prop
  | .num n => v = .int .u64 n
  | .flag q => v = .bool q
  | .str s => v = .string s
  | .strs l => ∃ a c, v = .slice a (len l) c ∧ (len l = 0 → a = none ∧ c = 0) ∧ Off rb tb a ∧ Tx w a l
  | .nums l => ∃ a c, v = .slice a (len l) c ∧ (len l = 0 → a = none ∧ c = 0) ∧ Off rb tb a ∧ Ux w a l
  | .revs l => ∃ a c, v = .slice a (len l) c ∧ (len l = 0 → a = none ∧ c = 0) ∧ Off rb tb a ∧ ∃ rs : List Rev, len rs = len l ∧ Revs w a rs ∧ ∀ i, i < len l → RevIs rb tb w (revnth rs i) (lth l i)
theorem HoldsD.chg {rb tb : Nat} {w w' : World} {v : Value} {d : DV} (h : HoldsD rb tb w v d) (hc : Chg rb tb w w') : HoldsD rb tb w' v d := by
  cases d with
  | num n => exact h
  | flag q => exact h
  | str s => exact h
  | strs l => obtain ⟨a, c, h1, h2, h3, h4⟩ := h; exact ⟨a, c, h1, h2, h3, h4.chg h3 hc⟩
  | nums l => obtain ⟨a, c, h1, h2, h3, h4⟩ := h; exact ⟨a, c, h1, h2, h3, h4.chg h3 hc⟩
  | revs l => obtain ⟨a, c, h1, h2, h3, rs, h4, h5, h6⟩ := h; exact ⟨a, c, h1, h2, h3, rs, h4, h5.chg h3 hc, fun i hi => (h6 i hi).chg hc⟩
def RecAt (rb tb : Nat) (T : TypeId) (n : Nat) (w : World) (x : Rcd) : Prop :=
  ∃ cs : Array Value, w.heap[tb]? = some (.cells cs T (0, 0)) ∧ cs.size = n ∧ ∀ i, i < n → ∃ v, cs[i]? = some v ∧ HoldsD rb tb w v (x i)
theorem RecAt.keep {rb tb : Nat} {T : TypeId} {n : Nat} {w w' : World} {x : Rcd} (h : RecAt rb tb T n w x) (hb : w'.heap[tb]? = w.heap[tb]?) (hc : Chg rb tb w w') : RecAt rb tb T n w' x := by
  obtain ⟨cs, h1, h2, h3⟩ := h
  refine ⟨cs, hb.trans h1, h2, fun i hi => ?_⟩
  obtain ⟨v, h4, h5⟩ := h3 i hi
  exact ⟨v, h4, h5.chg hc⟩
theorem RecAt.lt {rb tb : Nat} {T : TypeId} {n : Nat} {w : World} {x : Rcd} (h : RecAt rb tb T n w x) : tb < w.heap.size := by
  obtain ⟨cs, h1, _⟩ := h; exact lt_of_block h1
theorem RecAt.below {rb tb : Nat} {T : TypeId} {n : Nat} {w w' : World} {x : Rcd} (h : RecAt rb tb T n w x) (hb : Below w.heap.size w w') : RecAt rb tb T n w' x := h.keep (hb.block _ h.lt) (Chg.of_below hb)
theorem RecAt.ext {rb tb : Nat} {T : TypeId} {n : Nat} {w w' : World} {x : Rcd} (h : RecAt rb tb T n w x) (hE : ExtB (some rb) w w') (hne : tb ≠ rb) : RecAt rb tb T n w' x := h.keep (hE.block _ h.lt (by simpa using hne)) (Chg.of_ext hE)
theorem RecAt.get {rb tb : Nat} {T : TypeId} {n : Nat} {w : World} {x : Rcd} (h : RecAt rb tb T n w x) {o : Nat} (ho : o < n) : ∃ v, w.cell? ⟨tb, o, none⟩ = some v ∧ HoldsD rb tb w v (x o) := by
  obtain ⟨cs, h1, h2, h3⟩ := h
  obtain ⟨v, h4, h5⟩ := h3 o ho
  exact ⟨v, by rw [block_cell h1]; exact h4, h5⟩
theorem RecAt.free {rb tb : Nat} {T : TypeId} {n : Nat} {w : World} {x : Rcd} (h : RecAt rb tb T n w x) (o : Nat) : w.frozen? ⟨tb, o, none⟩ = false := by
  obtain ⟨cs, h1, _⟩ := h; exact block_free h1 o
theorem RecAt.set {rb tb : Nat} {T : TypeId} {n : Nat} {w : World} {x : Rcd} (h : RecAt rb tb T n w x) {o : Nat} (ho : o < n) {v : Value} {d : DV} (hv : HoldsD rb tb w v d) : RecAt rb tb T n (w.setCell ⟨tb, o, none⟩ v) (upd x o d) := by
  obtain ⟨cs, h1, h2, h3⟩ := h
  have hc : Chg rb tb w (w.setCell ⟨tb, o, none⟩ v) := (Chg.refl rb tb w).set o v
  refine ⟨_, block_setCell h1 v, by simpa using h2, fun i hi => ?_⟩
  by_cases e : i = o
  · subst e
    exact ⟨v, by rw [Array.getElem?_setIfInBounds_self_of_lt (by omega)], by rw [upd_at]; exact hv.chg hc⟩
  · obtain ⟨u, h4, h5⟩ := h3 i hi
    exact ⟨u, by rw [Array.getElem?_setIfInBounds_ne (fun e2 => e e2.symm)]; exact h4, by rw [upd_ne e]; exact h5.chg hc⟩
theorem RecAt.put {rb tb : Nat} {T : TypeId} {n : Nat} {w w' : World} {x : Rcd} {cs : Array Value} (h1 : w.heap[tb]? = some (.cells cs T (0, 0))) (h : RecAt rb tb T n w x) {o : Nat} (ho : o < n) {v : Value} {d : DV} (hc : Chg rb tb w w') (h2 : w'.heap[tb]? = some (.cells (cs.setIfInBounds o v) T (0, 0))) (hv : HoldsD rb tb w' v d) : RecAt rb tb T n w' (upd x o d) := by
  obtain ⟨cs', h1', h2', h3⟩ := h
  rw [h1] at h1'
  cases h1'
  refine ⟨_, h2, by simpa using h2', fun i hi => ?_⟩
  by_cases e : i = o
  · subst e
    exact ⟨v, by rw [Array.getElem?_setIfInBounds_self_of_lt (by omega)], by rw [upd_at]; exact hv⟩
  · obtain ⟨u, h4, h5⟩ := h3 i hi
    exact ⟨u, by rw [Array.getElem?_setIfInBounds_ne (fun e2 => e e2.symm)]; exact h4, by rw [upd_ne e]; exact h5.chg hc⟩
def ThAt (tb : Nat) (T : TypeId) (n : Nat) (w : World) : Prop := ∃ cs, w.heap[tb]? = some (.cells cs T (0, 0)) ∧ cs.size = n
def GetIs (res : Except Flt (Rcd × Nat)) (rb tb : Nat) (T : TypeId) (n : Nat) (s : ByteArray) (w : World) (e : Ending) (w' : World) : Prop :=
  Chg rb tb w w' ∧ match res with
    | .ok x => e = .returned (.tuple #[]) ∧ RdB w' rb s x.2 10240 ∧ x.2 ≤ s.size ∧ RecAt rb tb T n w' x.1
    | .error f => ∃ fb, e = .panicked (stopC fb) ∧ FltB w' fb f.1 f.2 ∧ ThAt tb T n w'
def fresh (x0 : Rcd) (g : GSpec) (x : Rcd) : Prop := ∀ i, i ∈ g.offs → x i = x0 i
theorem RdEnv.chg {B : Nat} {w w' : World} {qb rb tb : Nat} {s : ByteArray} {a a' : Nat} (h : RdEnv B w qb rb s a) (hc : Chg rb tb w w') (hqt : qb ≠ tb) (hBt : B ≤ tb) (hr : RdB w' rb s a' 10240) (ha : a' ≤ s.size) : RdEnv B w' qb rb s a' := by
  refine ⟨(hc.block _ (lt_of_block h.q) h.ne hqt).trans h.q, hr, ?_, h.bq, h.br, h.ne, ha, h.sz⟩
  have key : ∀ g l, TabAt B w g l → TabAt B w' g l := fun g l ⟨t, tq, rc, h1, h2, h3, h4, h5⟩ => by
    have e : ∀ b, b < B → w'.heap[b]? = w.heap[b]? := fun b hb => hc.block b (by omega) (by have := h.br; omega) (by omega)
    refine ⟨t, tq, rc, h1, h2, Nat.le_trans h3 hc.size, by rw [World.cell?_of_block (w := w) (e g h1)]; exact h4, fun i hi => ?_⟩
    obtain ⟨b, off, e2, hr⟩ := h5 i hi
    cases e2
    have e3 : ∀ q, w'.cell? ⟨t, q, none⟩ = w.cell? ⟨t, q, none⟩ := fun q => World.cell?_of_block (w := w) (e t h2)
    obtain ⟨c0, c1, c2, c3⟩ := hr
    exact ⟨t, tq, rfl, by constructor <;> (rw [e3]; assumption)⟩
  exact ⟨key _ _ h.tabs.nums, h.tabs.lists.imp key, key _ _ h.tabs.bins, key _ _ h.tabs.strs, key _ _ h.tabs.pairs⟩
structure GSem (B qb rb tb : Nat) (x0 : Rcd) (T : TypeId) (n : Nat) (s : ByteArray) (W0 : World) (v : FVal) (g : GSpec) : Prop where
  key : v.key = g.key
  must : v.must = g.must
  ee : ∀ args w, (callFunc v.ef args).run Tryz.prog w = .ok (.enter v.ef args) w
  eg : ∀ args w, (callFunc v.gf args).run Tryz.prog w = .ok (.enter v.gf args) w
  empty : ∀ w x, Chg rb tb W0 w → RecAt rb tb T n w x → Kd x0 x → Calls Tryz.prog v.ef v.ec w fun e w' => e = .returned (.bool (g.empty x)) ∧ Below w.heap.size w w'
  read : ∀ w x a, Chg rb tb W0 w → RecAt rb tb T n w x → RdEnv B w qb rb s a → fresh x0 g x → Kd x0 x → Calls Tryz.prog v.gf (#[.pointer (some ⟨qb, 0, none⟩)] ++ v.gc) w (GetIs (g.read x a) rb tb T n s w)
theorem GSem.later {B qb rb tb : Nat} {x0 : Rcd} {T : TypeId} {n : Nat} {s : ByteArray} {W0 W1 : World} {v : FVal} {g : GSpec} (h : GSem B qb rb tb x0 T n s W0 v g) (hk : Chg rb tb W0 W1) : GSem B qb rb tb x0 T n s W1 v g :=
  ⟨h.key, h.must, h.ee, h.eg, fun w x hw => h.empty w x (hk.trans hw), fun w x a hw => h.read w x a (hk.trans hw)⟩
def GSems (B qb rb tb : Nat) (x0 : Rcd) (T : TypeId) (n : Nat) (s : ByteArray) (W0 : World) (l : List FVal) (gs : List GSpec) : Prop := len gs = len l ∧ ∀ i, i < len l → GSem B qb rb tb x0 T n s W0 (fth l i) (gth gs i)
theorem GSems.later {B qb rb tb : Nat} {x0 : Rcd} {T : TypeId} {n : Nat} {s : ByteArray} {W0 W1 : World} {l : List FVal} {gs : List GSpec} (h : GSems B qb rb tb x0 T n s W0 l gs) (hk : Chg rb tb W0 W1) : GSems B qb rb tb x0 T n s W1 l gs := ⟨h.1, fun i hi => (h.2 i hi).later hk⟩
end Go.Proofs.YtpobhbdomldecaaGreatDoor
namespace Go.Proofs.YtpobhbdomldecaaGreatDoor
open Go.RowKit
set_option linter.unusedSimpArgs false
set_option linter.unusedVariables false
set_option maxRecDepth 100000 in
theorem says_all {B : Nat} {W0 w : World} {l : List FVal} {fs : List FSpec} (h : FSems B W0 l fs) (hk : Keep8 B W0 w) : SaysF w l 196 #[] (fun i => !(spth fs i).may) := by
  refine ⟨enters_of Tryz.func196 (by kernel_rfl) rfl, fun i hi w' hb => ?_⟩
  show Calls Tryz.prog 196 (#[(fth l i).val] ++ #[]) w' (fun e w'' => e = .returned (.bool (!(spth fs i).may)) ∧ Below w'.heap.size w' w'')
  have hs := h.2 i hi
  generalize fth l i = v at hs
  generalize spth fs i = f at hs
  have em := hs.em
  have HM : Hid (∀ x, Below w'.heap.size w' x → Calls Tryz.prog v.mf v.mc x fun e w' => e = .returned (.bool f.may) ∧ Below x.heap.size x w') := Lib.hid (fun x hx => hs.may x ((hk.next hb).next hx))
  clear hs
  show Calls Tryz.prog 196 #[v.val] w' _
  unfold FVal.val
  go_enter Tryz.func196, Tryz.ntmps196
  go_wp2_with fail
  refine (HM.out _ (balloc (Below.refl _ _) _)).mono ?_
  rintro e w1 ⟨rfl, hb1⟩
  have HB1 : Hid (Below w'.heap.size w' w1) := Lib.hid (bnext (balloc (Below.refl _ _) _) hb1)
  clear hb1
  go_wp2
  go_ret
  exact ⟨rfl, HB1.out⟩
set_option maxRecDepth 100000 in
theorem says_lay {B : Nat} {W0 w : World} {l : List FVal} {fs : List FSpec} (h : FSems B W0 l fs) (hk : Keep8 B W0 w) : SaysF w l 199 #[] (fun i => (spth fs i).empty) := by
  refine ⟨enters_of Tryz.func199 (by kernel_rfl) rfl, fun i hi w' hb => ?_⟩
  show Calls Tryz.prog 199 (#[(fth l i).val] ++ #[]) w' (fun e w'' => e = .returned (.bool ((spth fs i).empty)) ∧ Below w'.heap.size w' w'')
  have hs := h.2 i hi
  generalize fth l i = v at hs
  generalize spth fs i = f at hs
  have ee := hs.ee
  have HM : Hid (∀ x, Below w'.heap.size w' x → Calls Tryz.prog v.ef v.ec x fun e w' => e = .returned (.bool f.empty) ∧ Below x.heap.size x w') := Lib.hid (fun x hx => hs.empty x ((hk.next hb).next hx))
  clear hs
  show Calls Tryz.prog 199 #[v.val] w' _
  unfold FVal.val
  go_enter Tryz.func199, Tryz.ntmps199
  go_wp2_with fail
  refine (HM.out _ (balloc (Below.refl _ _) _)).mono ?_
  rintro e w1 ⟨rfl, hb1⟩
  have HB1 : Hid (Below w'.heap.size w' w1) := Lib.hid (bnext (balloc (Below.refl _ _) _) hb1)
  clear hb1
  go_wp2
  go_ret
  exact ⟨rfl, HB1.out⟩
theorem allMay_iff (fs : List FSpec) (n : Nat) (h : len fs = n) : (allMay fs = false ↔ ∃ i, i < n ∧ (!(spth fs i).may) = true) := by
  unfold allMay
  subst h
  rw [List.all_eq_false]
  constructor
  · rintro ⟨x, hx, hm⟩
    obtain ⟨i, hi, rfl⟩ := List.getElem_of_mem hx
    exact ⟨i, hi, by rw [spth_eq fs i hi]; simpa using hm⟩
  · rintro ⟨i, hi, hm⟩
    have hi' : i < fs.length := hi
    exact ⟨fs[i], List.getElem_mem _, by rw [spth_eq fs i hi'] at hm; simpa using hm⟩
theorem all_any (B : Nat) (W0 : World) (a : Option Addr) (c : Nat) (l : List FVal) (fs : List FSpec) (w : World) (hl : Flds w a l) (hn : len l ≤ 1000) (hS : FSems B W0 l fs) (hk : Keep8 B W0 w) :
    Calls Tryz.prog 147 #[.slice a (len l) c] w fun e w' => e = .returned (.bool (allMay fs)) ∧ Below w.heap.size w w' := by
  have H := Lib.hid (containsf_any a c l 196 #[] _ w hl hn (says_all hS hk))
  have HI := Lib.hid (allMay_iff fs (len l) hS.1)
  clear hl hS hk
  go_enter Tryz.func147, Tryz.ntmps147
  go_wp2_with fail
  refine H.out.mono ?_
  rintro e w1 ⟨b, rfl, hb1, hb⟩
  have HB := Lib.hid hb
  have HE : Hid ((!b) = allMay fs) := Lib.hid (by
    have h := HI.out
    cases b with
    | true => rw [h.2 (hb1.1 rfl)]; rfl
    | false =>
      cases hm : allMay fs with
      | true => rfl
      | false => exact absurd (hb1.2 (h.1 hm)) (by decide))
  clear hb hb1
  go_wp2
  go_ret
  exact ⟨ret_bool HE.out, HB.out⟩
end Go.Proofs.YtpobhbdomldecaaGreatDoor
namespace Go.Proofs.YtpobhbdomldecaaGreatDoor
open Go.RowKit
set_option linter.unusedSimpArgs false
set_option linter.unusedVariables false
theorem info_field : (Tryz.prog.info? 183).map (fun i => (i.zero, i.size, i.bytes)) = some (some (.agg #[.string ByteArray.empty, .bool false, .nilFunc, .nilFunc, .nilFunc, .nilFunc]), 6, 56) := by kernel_rfl
theorem flds_news {w : World} {b off : Nat} {l : List FVal} (h : Flds w (some ⟨b, off, none⟩) l) : ∀ j u, (l.flatMap FVal.cells)[j]? = some u → w.cell? ((⟨b, off, none⟩ : Addr).add j) = some u := by
  intro j u hu
  have hj : j < (l.flatMap FVal.cells).length := (List.getElem?_eq_some_iff.1 hu).1
  rw [flat_length FVal.cells 6 FVal.cells_len] at hj
  have hi : j / 6 < l.length := by omega
  have e := flat_get FVal.cells 6 FVal.cells_len l (j / 6) (j % 6) hi (by omega)
  rw [show j / 6 * 6 + j % 6 = j by omega] at e
  rw [e] at hu
  obtain ⟨b', off', e2, c0, c1, c2, c3, c4, c5⟩ := h (j / 6) hi
  cases e2
  rw [fth_eq l _ hi] at c0 c1 c2 c3 c4 c5
  have ha : (⟨b, off, none⟩ : Addr).add j = ⟨b, off + j, none⟩ := by
    unfold Addr.add; split
    · rename_i h0; subst h0; rfl
    · rfl
  rw [ha]
  have hr : j % 6 = 0 ∨ j % 6 = 1 ∨ j % 6 = 2 ∨ j % 6 = 3 ∨ j % 6 = 4 ∨ j % 6 = 5 := by omega
  have hq : off + j = off + j / 6 * 6 + j % 6 := by omega
  rw [hq]
  rcases hr with h0 | h0 | h0 | h0 | h0 | h0 <;> rw [h0] at hu ⊢
  · rw [Nat.add_zero, c0]; exact hu
  · rw [c1]; exact hu
  · rw [c2]; exact hu
  · rw [c3]; exact hu
  · rw [c4]; exact hu
  · rw [c5]; exact hu
theorem flds_one (l : List FVal) : ∀ u ∈ l.flatMap FVal.cells, u.oneCell' = true := by
  intro u hu
  obtain ⟨v, _, hv⟩ := List.mem_flatMap.1 hu
  exact v.cells_one u hv
set_option maxRecDepth 100000 in
theorem clone_any (b off c : Nat) (l : List FVal) (w : World) (hl : Flds w (some ⟨b, off, none⟩) l) (hn : len l ≤ 1000) :
    Calls Tryz.prog 198 #[.slice (some ⟨b, off, none⟩) (len l) c] w fun e w' => ∃ v, e = .returned v ∧ w'.ownsRow w.heap.size 183 6 v (len l) (l.flatMap FVal.cells) ∧ Below w.heap.size w w' := by
  have HL := Lib.hid hl
  obtain ⟨i0, hi, hz0, hz1, hz2⟩ := info_parts info_field
  have HZ := Lib.hid hz0
  have E0 : Hid ((w.alloc (.cells #[] 183)).ownsRow w.heap.size 183 6 (.slice (some ⟨w.heap.size, 0, none⟩) 0 0) 0 []) := Lib.hid (World.ownsRow_lit w #[] 0 (Nat.le_refl _) (Nat.zero_le _) rfl)
  have heq : ∀ W, (binOp .eql 111 (.slice (some ⟨b, off, none⟩) (len l) c) (.slice none 0 0)).run Tryz.prog W = .ok (.bool false) W := fun W => Lib.run_eql_slice_nil W 111 183 (some ⟨b, off, none⟩) (len l) c 0 0 Tryz.underlying111
  clear hl hz0
  go_enter Tryz.func198, Tryz.ntmps198
  go_wp2_with (at_builtin; refine wpList_append_own _ rfl _ _ 111 rfl w.heap.size 183 i0 (.agg #[.string ByteArray.empty, .bool false, .nilFunc, .nilFunc, .nilFunc, .nilFunc]) 6 56 Tryz.underlying111 hi HZ.out hz1 hz2 rfl (by decide) _ 0 [] rfl E0.out ⟨b, off, none⟩ (len l) c (l.flatMap FVal.cells) rfl (flat_length FVal.cells 6 FVal.cells_len l) (flds_news (HL.out.below (balloc (Below.refl _ _) _))) (flds_one l) (by unfold maxLen; omega) (by omega) (by simp) ?_)
  intro v' w2 hown hgrow _
  have HB : Hid (Below w.heap.size w w2) := Lib.hid (grownBy_below (balloc (Below.refl _ _) _) hgrow (fun k hk => by simp [Value.ownBlock] at hk; omega))
  have HO : Hid (w2.ownsRow w.heap.size 183 6 v' (len l) (l.flatMap FVal.cells)) := Lib.hid (by simpa using hown)
  clear hown hgrow
  go_wp2
  go_ret
  exact ⟨_, rfl, HO.out, HB.out⟩
def RowC (w : World) (g n : Nat) (R : List FVal) : Prop := len R = n ∧ ∃ cur, w.heap[g]? = some (.cells cur 183 (0, 0)) ∧ n * 6 ≤ cur.size ∧ ∀ i, i < n → ∀ r, r < 6 → cur[i * 6 + r]? = (fth R i).cells[r]?
theorem RowC.of_own {w : World} {base n : Nat} {v : Value} {l : List FVal} (h : w.ownsRow base 183 6 v n (l.flatMap FVal.cells)) (hn : 0 < n) : ∃ g cap, v = .slice (some ⟨g, 0, none⟩) n cap ∧ base ≤ g ∧ n ≤ cap ∧ RowC w g n l := by
  have hl : len l = n := by have := h.1; rw [flat_length FVal.cells 6 FVal.cells_len] at this; rw [len_eq]; omega
  rcases h.2 with ⟨_, h0⟩ | ⟨g, cap, cur, rfl, hg, hh, hc1, hc2, hc3, hc4⟩
  · omega
  · refine ⟨g, cap, rfl, hg, hc1, hl, cur, hh, by omega, fun i hi r hr => ?_⟩
    have hil : i < l.length := by rw [← len_eq, hl]; exact hi
    have e := flat_get FVal.cells 6 FVal.cells_len l i r hil hr
    rw [fth_eq l i hil, ← e, ← hc4, List.getElem?_take, if_pos (by omega)]
    simp
theorem RowC.at {w : World} {g n : Nat} {R : List FVal} (h : RowC w g n R) {i : Nat} (hi : i < n) : FValAt w g (i * 6) (fth R i) := by
  obtain ⟨_, cur, h1, h2, h3⟩ := h
  have key : ∀ r, r < 6 → w.cell? ⟨g, i * 6 + r, none⟩ = (fth R i).cells[r]? := fun r hr => by rw [block_cell h1]; exact h3 i hi r hr
  exact ⟨key 0 (by decide), key 1 (by decide), key 2 (by decide), key 3 (by decide), key 4 (by decide), key 5 (by decide)⟩
theorem RowC.flds {w : World} {g n : Nat} {R : List FVal} (h : RowC w g n R) : Flds w (some ⟨g, 0, none⟩) R := fun i hi => ⟨g, 0, rfl, by rw [Nat.zero_add]; exact h.at (by rw [← h.1]; exact hi)⟩
theorem RowC.free {w : World} {g n : Nat} {R : List FVal} (h : RowC w g n R) (o : Nat) : w.frozen? ⟨g, o, none⟩ = false := by
  obtain ⟨_, cur, h1, _⟩ := h; exact block_free h1 o
theorem RowC.keep {w w' : World} {g n : Nat} {R : List FVal} (h : RowC w g n R) (hk : w'.heap[g]? = w.heap[g]?) : RowC w' g n R := by
  obtain ⟨h0, cur, h1, h2⟩ := h; exact ⟨h0, cur, hk.trans h1, h2⟩
theorem RowC.lt {w : World} {g n : Nat} {R : List FVal} (h : RowC w g n R) : g < w.heap.size := by
  obtain ⟨_, cur, h1, _⟩ := h; exact lt_of_block h1
def keptV (p : Nat → Bool) (l : List FVal) : Nat → List FVal
  | 0 => []
  | m + 1 => if p m then keptV p l m else keptV p l m ++ [fth l m]
theorem keptV_low {p : Nat → Bool} {l : List FVal} {k : Nat} (hk : k < len l) (h : ∀ i, i < k → p i = false) (hp : p k = true) : keptV p l (k + 1) = l.take k := by
  have key : ∀ m, m ≤ k → keptV p l m = l.take m := by
    intro m
    induction m with
    | zero => intro _; simp [keptV]
    | succ m ih =>
      intro hm
      have hm' : m < l.length := by have : k < l.length := hk; omega
      rw [keptV, h m (by omega), ih (by omega), List.take_succ_eq_append_getElem hm', fth_eq l m hm']; simp
  rw [keptV, if_pos hp, key k (Nat.le_refl _)]
theorem keptV_len (p : Nat → Bool) (l : List FVal) : ∀ m, len (keptV p l m) ≤ m
  | 0 => Nat.le_refl _
  | m + 1 => by
    have := keptV_len p l m
    rw [keptV]
    split
    · omega
    · rw [len_eq] at this ⊢; simp; omega
theorem fth_take {l : List FVal} {k t : Nat} (h : t < k) (hk : k ≤ len l) : fth (l.take k) t = fth l t := by
  have hk' : k ≤ l.length := hk
  rw [fth_eq _ t (by rw [List.length_take]; omega), fth_eq l t (by omega), List.getElem_take]
theorem fth_snoc {l : List FVal} {v : FVal} {t : Nat} (h : t < len l) : fth (l ++ [v]) t = fth l t := by
  have h' : t < l.length := h
  rw [fth_eq _ t (by simp; omega), fth_eq l t h', List.getElem_append_left h']
theorem fth_last (l : List FVal) (v : FVal) : fth (l ++ [v]) (len l) = v := by
  rw [len_eq, fth_eq _ l.length (by simp)]; simp
theorem fth_set {R : List FVal} {q t : Nat} {v : FVal} (hq : q < len R) : fth (R.set q v) t = if t = q then v else fth R t := by
  have hq' : q < R.length := hq
  by_cases e : t = q
  · subst e; rw [if_pos rfl, fth_eq _ t (by simpa using hq'), List.getElem_set_self]
  · rw [if_neg e]
    unfold fth
    rw [List.getD_eq_getElem?_getD, List.getD_eq_getElem?_getD, List.getElem?_set_ne (fun e2 => e e2.symm)]
structure DelSt (base : Nat) (p : Nat → Bool) (l : List FVal) (w : World) (g m q : Nat) (R : List FVal) (wr : World) : Prop where
  cnt : len (keptV p l m) = q
  lt : q < m
  low : ∀ t, t < q → fth R t = fth (keptV p l m) t
  high : ∀ t, m ≤ t → t < len l → fth R t = fth l t
  row : RowC wr g (len l) R
  bel : Below base w wr
theorem DelSt.below {base g m q : Nat} {p : Nat → Bool} {l R : List FVal} {w wr w' : World} (h : DelSt base p l w g m q R wr) (hb : Below wr.heap.size wr w') (hbw : base ≤ w.heap.size) : DelSt base p l w g m q R w' :=
  ⟨h.cnt, h.lt, h.low, h.high, h.row.keep (hb.block _ h.row.lt), h.bel.trans (hb.mono (Nat.le_trans hbw h.bel.size))⟩
abbrev setF (w : World) (g q : Nat) (v : FVal) : World :=
  (((((w.setCell ⟨g, q * 6, none⟩ (.string v.key)).setCell ⟨g, q * 6 + 1, none⟩ (.bool v.must)).setCell ⟨g, q * 6 + 2, none⟩ (.func (.func v.ef) #[] v.ec)).setCell ⟨g, q * 6 + 3, none⟩ (.func (.func v.mf) #[] v.mc)).setCell ⟨g, q * 6 + 4, none⟩ (.func (.func v.pf) #[] v.pc)).setCell ⟨g, q * 6 + 5, none⟩ (.func (.func v.gf) #[] v.gc)
theorem RowC.put {w : World} {g n q : Nat} {R : List FVal} (h : RowC w g n R) (hq : q < n) (v : FVal) : RowC (setF w g q v) g n (R.set q v) := by
  obtain ⟨h0, cur, h1, h2, h3⟩ := h
  refine ⟨by rw [len_eq, List.length_set, ← len_eq]; exact h0, _, block_setCell (block_setCell (block_setCell (block_setCell (block_setCell (block_setCell h1 _) _) _) _) _) _, by simpa using h2, fun i hi r hr => ?_⟩
  rw [fth_set (by omega)]
  by_cases e : i = q
  · subst e
    rw [if_pos rfl]
    have hs : i * 6 + 5 < cur.size := by omega
    have hr' : r = 0 ∨ r = 1 ∨ r = 2 ∨ r = 3 ∨ r = 4 ∨ r = 5 := by omega
    rcases hr' with rfl | rfl | rfl | rfl | rfl | rfl
    · simp only [Nat.add_zero]
      rw [Array.getElem?_setIfInBounds_ne (by omega), Array.getElem?_setIfInBounds_ne (by omega), Array.getElem?_setIfInBounds_ne (by omega), Array.getElem?_setIfInBounds_ne (by omega), Array.getElem?_setIfInBounds_ne (by omega), Array.getElem?_setIfInBounds_self_of_lt (by omega)]; rfl
    · rw [Array.getElem?_setIfInBounds_ne (by omega), Array.getElem?_setIfInBounds_ne (by omega), Array.getElem?_setIfInBounds_ne (by omega), Array.getElem?_setIfInBounds_ne (by omega), Array.getElem?_setIfInBounds_self_of_lt (by simp; omega)]; rfl
    · rw [Array.getElem?_setIfInBounds_ne (by omega), Array.getElem?_setIfInBounds_ne (by omega), Array.getElem?_setIfInBounds_ne (by omega), Array.getElem?_setIfInBounds_self_of_lt (by simp; omega)]; rfl
    · rw [Array.getElem?_setIfInBounds_ne (by omega), Array.getElem?_setIfInBounds_ne (by omega), Array.getElem?_setIfInBounds_self_of_lt (by simp; omega)]; rfl
    · rw [Array.getElem?_setIfInBounds_ne (by omega), Array.getElem?_setIfInBounds_self_of_lt (by simp; omega)]; rfl
    · rw [Array.getElem?_setIfInBounds_self_of_lt (by simp; omega)]; rfl
  · rw [if_neg e, Array.getElem?_setIfInBounds_ne (by omega), Array.getElem?_setIfInBounds_ne (by omega), Array.getElem?_setIfInBounds_ne (by omega), Array.getElem?_setIfInBounds_ne (by omega), Array.getElem?_setIfInBounds_ne (by omega), Array.getElem?_setIfInBounds_ne (by omega)]
    exact h3 i hi r hr
theorem setF_below {base g q : Nat} {a w : World} (h : Below base a w) (hg : base ≤ g) (v : FVal) : Below base a (setF w g q v) :=
  (((((h.setCell hg _).setCell hg _).setCell hg _).setCell hg _).setCell hg _).setCell hg _
theorem DelSt.put {base g m q : Nat} {p : Nat → Bool} {l R : List FVal} {w wr : World} (h : DelSt base p l w g m q R wr) (hm : m < len l) (hp : p m = false) (hg : base ≤ g) : DelSt base p l w g (m + 1) (q + 1) (R.set q (fth l m)) (setF wr g q (fth l m)) := by
  obtain ⟨a1, a2, a3, a4, a5, a6⟩ := h
  have hR := a5.1
  have e : keptV p l (m + 1) = keptV p l m ++ [fth l m] := by rw [keptV, if_neg (by rw [hp]; decide)]
  refine ⟨by rw [e, ← a1, len_eq, len_eq]; simp, by omega, fun t ht => ?_, fun t h1 h2 => ?_, a5.put (by omega) _, setF_below a6 hg _⟩
  · rw [fth_set (by omega), e]
    by_cases et : t = q
    · subst et; rw [if_pos rfl, ← a1, fth_last]
    · rw [if_neg et, fth_snoc (by omega)]; exact a3 t (by omega)
  · rw [fth_set (by omega), if_neg (by omega)]; exact a4 t (by omega) h2
theorem below_sc {B b : Nat} {a : World} (hb : B ≤ b) : ∀ (vs : List Value) (o : Nat) (w : World), Below B a w → Below B a (w.setCells b o vs)
  | [], _, _, h => h
  | v :: r, o, w, h => below_sc hb r (o + 1) _ (h.setCell hb v)
theorem cells_sc {b : Nat} {T : TypeId} {fr : Nat × Nat} : ∀ (vs : List Value) (o : Nat) (w : World) (cur : Array Value), w.heap[b]? = some (.cells cur T fr) → ∃ cur', (w.setCells b o vs).heap[b]? = some (.cells cur' T fr)
  | [], _, _, cur, h => ⟨cur, h⟩
  | v :: r, o, w, cur, h => cells_sc r (o + 1) _ _ (block_setCell h v)
theorem clear_row {w : World} {g n q c : Nat} {R : List FVal} (h : RowC w g n R) (hq : q < n) (ty : TypeId) : ∃ w7, (Builtin.clear_ #[111] ty #[.slice (some ⟨g, q * 6, none⟩) (n - q) c]).run Tryz.prog w = .ok (.tuple #[]) w7 ∧ (∀ t, t < q → FValAt w7 g (t * 6) (fth R t)) ∧ (∀ base a, base ≤ g → Below base a w → Below base a w7) ∧ ∃ cur, w7.heap[g]? = some (.cells cur 183 (0, 0)) := by
  obtain ⟨zs, hzs⟩ : ∃ zs, (Builtin.zeroCells (Value.agg #[.string ⟨#[]⟩, .bool false, .nilFunc, .nilFunc, .nilFunc, .nilFunc]).cells (n - q)).toList = zs := ⟨_, rfl⟩
  have hzl : zs.length = (n - q) * 6 := by rw [← hzs]; simp [Builtin.zeroCells, Value.cells]
  have hz1 : ∀ u ∈ zs, u.oneCell' = true := by
    intro u hu
    rw [← hzs] at hu
    simp [Builtin.zeroCells, Value.cells] at hu
    obtain ⟨i, hi, rfl⟩ := hu
    have : i % 6 = 0 ∨ i % 6 = 1 ∨ i % 6 = 2 ∨ i % 6 = 3 ∨ i % 6 = 4 ∨ i % 6 = 5 := by omega
    rcases this with e | e | e | e | e | e <;> simp [e] <;> rfl
  have hc : ∀ j, j < zs.length → (w.cell? ⟨g, q * 6 + j, none⟩).isSome = true := fun j hj => by
    obtain ⟨_, cur, h1, h2, _⟩ := h
    rw [block_cell h1, Array.getElem?_eq_getElem (by omega)]; rfl
  have hst := run_storeCells_cells (P := Tryz.prog) g (q * 6) zs 0 w (by simpa using hc) (fun j _ => h.free _) hz1
  simp only [Nat.add_zero] at hst
  refine ⟨w.setCells g (q * 6) zs, ?_, fun t ht => ?_, fun base a hb hbel => below_sc hb zs (q * 6) w hbel, by obtain ⟨_, cur, h, _⟩ := h; exact cells_sc zs (q * 6) w cur h⟩
  · obtain ⟨m, hm⟩ : ∃ m, n - q = m + 1 := ⟨n - q - 1, by omega⟩
    rw [hm] at hzs ⊢
    simp [Builtin.clear_, run_underlying Tryz.underlying111, Tryz.zeroValue183, hzs, hst]
  · obtain ⟨c0, c1, c2, c3, c4, c5⟩ := h.at (i := t) (by omega)
    have e : ∀ o, o < q * 6 → (w.setCells g (q * 6) zs).cell? ⟨g, o, none⟩ = w.cell? ⟨g, o, none⟩ := fun o ho => World.cell?_setCells_out g zs (q * 6) w ⟨g, o, none⟩ (fun _ _ => .inl ho)
    exact ⟨(e _ (by omega)).trans c0, (e _ (by omega)).trans c1, (e _ (by omega)).trans c2, (e _ (by omega)).trans c3, (e _ (by omega)).trans c4, (e _ (by omega)).trans c5⟩
def DelOut (base : Nat) (p : Nat → Bool) (l : List FVal) (w : World) (e : Ending) (w' : World) : Prop :=
  ∃ g cap, e = .returned (.slice (some ⟨g, 0, none⟩) (len (keptV p l (len l))) cap) ∧ Flds w' (some ⟨g, 0, none⟩) (keptV p l (len l)) ∧ Below base w w' ∧ base ≤ g ∧ ∃ cur, w'.heap[g]? = some (.cells cur 183 (0, 0))
set_option maxRecDepth 100000 in
set_option maxHeartbeats 4000000 in
theorem delf_any (base : Nat) (v : Value) (l : List FVal) (g0 : Nat) (lb : Array Value) (p : Nat → Bool) (w : World) (hown : w.ownsRow base 183 6 v (len l) (l.flatMap FVal.cells)) (hn : len l ≤ 1000) (h0 : 0 < len l) (hbw : base ≤ w.heap.size)
    (eg : ∀ args w', (callFunc g0 args).run Tryz.prog w' = .ok (.enter g0 args) w') (hp : ∀ i, i < len l → ∀ w', Below base w w' → Calls Tryz.prog g0 (#[(fth l i).val] ++ lb) w' fun e w'' => e = .returned (.bool (p i)) ∧ Below w'.heap.size w' w'') :
    Calls Tryz.prog 197 #[v, .func (.func g0) #[] lb] w (DelOut base p l w) := by
  obtain ⟨g, cap, rfl, hg, hcap, hrow⟩ := RowC.of_own hown h0
  have HROW := Lib.hid hrow
  have HP := Lib.hid hp
  have HI := Lib.hid (idxf_any (some ⟨g, 0, none⟩) cap l g0 lb p w hrow.flds hn ⟨eg, fun i hi w' hb => hp i hi w' (hb.mono hbw)⟩)
  clear hown hrow hp
  go_enter Tryz.func197, Tryz.ntmps197
  go_wp2_with fail
  refine HI.out.mono ?_
  rintro e w1 ⟨r, rfl, hr, hb⟩
  have HB1 := Lib.hid hb
  have HROW1 := Lib.hid (HROW.out.keep (hb.block _ HROW.out.lt))
  clear hb HROW
  rcases hr with ⟨rfl, hall⟩ | ⟨k, hk, rfl, hpk, hlow⟩
  · have HK : Hid (keptV p l (len l) = l) := Lib.hid (by
      have key : ∀ m, m ≤ len l → keptV p l m = l.take m := by
        intro m
        induction m with
        | zero => intro _; simp [keptV]
        | succ m ih =>
          intro hm
          have hm' : m < l.length := hm
          rw [keptV, hall m hm, ih (by omega), List.take_succ_eq_append_getElem hm', fth_eq l m hm']; simp
      rw [key _ (Nat.le_refl _)]; exact take_len l)
    clear hall
    go_wp2
    go_ret
    exact ⟨g, cap, by rw [HK.out]; rfl, by rw [HK.out]; exact HROW1.out.flds, HB1.out.mono hbw, hg, by obtain ⟨_, cur, h, _⟩ := HROW1.out; exact ⟨cur, h⟩⟩
  · have HPK := Lib.hid hpk
    have HLOW := Lib.hid hlow
    clear hpk hlow
    go_wp2
    have ST : Hid (DelSt base p l w g (k + 1) k l w1) := Lib.hid (by
      have e := keptV_low hk HLOW.out HPK.out
      have hk' : k < l.length := hk
      refine ⟨by rw [e, len_eq, List.length_take]; omega, Nat.lt_succ_self _, fun t ht => by rw [e, fth_take ht (Nat.le_of_lt hk)], fun t _ _ => rfl, HROW1.out, HB1.out.mono hbw⟩)
    clear HROW1 HI HLOW HPK
    go_loopg [5, 6] (len l - (k + 1)) (fun gg i j wr => ∃ m q : Nat, ∃ R : List FVal, gg + m = len l ∧ i = .int .i64 q ∧ j = .int .i64 m ∧ Hid (DelSt base p l w g m q R wr))
    case atStart => exact ⟨k + 1, k, l, by omega, rfl, by first | rfl | simp, ST.out⟩
    case round =>
      clear ST
      obtain ⟨m, q, R, hm, rfl, rfl, HST⟩ := hrel
      have hqm := HST.out.lt
      by_cases hlt : m < len l
      · have i1 : (m : Int) < len l := by omega
        obtain ⟨c0, c1, c2, c3, c4, c5⟩ := HST.out.row.at hlt
        rw [HST.out.high m (Nat.le_refl _) hlt] at c0 c1 c2 c3 c4 c5
        have hcall := HP.out m hlt
        unfold FVal.val at hcall
        obtain ⟨v, hv⟩ : ∃ v, fth l m = v := ⟨_, rfl⟩
        have HV := Lib.hid hv
        rw [hv] at c0 c1 c2 c3 c4 c5 hcall
        have HC := Lib.hid hcall
        clear hcall hv
        go_wp2_with fail
        refine (HC.out _ (HST.out.bel.trans (Below.mono (balloc (Below.refl _ _) _) (Nat.le_trans hbw HST.out.bel.size)))).mono ?_
        rintro e w5 ⟨rfl, hb5⟩
        have HST5 : Hid (DelSt base p l w g m q R w5) := Lib.hid (HST.out.below (bnext (balloc (Below.refl _ _) _) hb5) hbw)
        have HBX : Hid (w5.heap[wr.heap.size]? = some (.cells #[.string v.key, .bool v.must, .func (.func v.ef) #[] v.ec, .func (.func v.mf) #[] v.mc, .func (.func v.pf) #[] v.pc, .func (.func v.gf) #[] v.gc] 183 (0, 0))) := Lib.hid ((hb5.block _ (by simp)).trans (heap_alloc_new _ _))
        clear hb5 c0 c1 c2 c3 c4 c5 HC HST
        cases hpm : p m with
        | true =>
          have HST6 : Hid (DelSt base p l w g (m + 1) q R w5) := Lib.hid (by
            obtain ⟨a1, a2, a3, a4, a5, a6⟩ := HST5.out
            have e : keptV p l (m + 1) = keptV p l m := by rw [keptV, if_pos hpm]
            exact ⟨by rw [e]; exact a1, by omega, fun t ht => by rw [e]; exact a3 t ht, fun t h1 h2 => a4 t (by omega) h2, a5, a6⟩)
          clear hpm HST5 HBX
          go_wp2
          go_roundg (len l - (m + 1))
          case rel => exact ⟨m + 1, q, R, by omega, rfl, by go_num, HST6.out⟩
          case measure => omega
        | false =>
          have hqn : q < len l := by omega
          obtain ⟨d0, d1, d2, d3, d4, d5⟩ := HST5.out.row.at hqn
          have hfr := HST5.out.row.free
          have bx : ∀ o, w5.cell? ⟨wr.heap.size, o, none⟩ = _ := block_cell HBX.out
          have iq : (q : Int) < len l := by omega
          have HST6 : Hid (DelSt base p l w g (m + 1) (q + 1) (R.set q v) (setF w5 g q v)) := Lib.hid (by
            rw [← HV.out]; exact HST5.out.put hlt hpm hg)
          clear hpm HST5 HBX
          go_wp2_with fail
          clear d0 d1 d2 d3 d4 d5 hfr bx
          go_roundg (len l - (m + 1))
          case rel => exact ⟨m + 1, q + 1, R.set q v, by omega, by go_num, by go_num, HST6.out⟩
          case measure => omega
      · obtain rfl : m = len l := by omega
        have i1 : ¬ ((len l : Nat) : Int) < len l := by omega
        obtain ⟨w7, hcl, hfl, hb7, hc7⟩ := clear_row (c := cap - q) HST.out.row HST.out.lt 0
        have HFL : Hid (Flds w7 (some ⟨g, 0, none⟩) (keptV p l (len l))) := Lib.hid (fun i hi => ⟨g, 0, rfl, by
          rw [HST.out.cnt] at hi
          rw [Nat.zero_add, ← HST.out.low i hi]; exact hfl i hi⟩)
        have HB7 := Lib.hid (hb7 base w hg HST.out.bel)
        have HC7 := Lib.hid hc7
        have HCN := Lib.hid HST.out.cnt
        clear hfl hb7 hc7 HST
        go_wp2
        go_ret
        exact ⟨g, cap, by rw [HCN.out]; rfl, HFL.out, HB7.out, hg, HC7.out⟩
end Go.Proofs.YtpobhbdomldecaaGreatDoor
namespace Go.Proofs.YtpobhbdomldecaaGreatDoor
open Go.RowKit
set_option linter.unusedSimpArgs false
set_option linter.unusedVariables false
theorem spth_snoc {l : List FSpec} {v : FSpec} {t : Nat} (h : t < len l) : spth (l ++ [v]) t = spth l t := by
  have h' : t < l.length := h
  rw [spth_eq _ t (by simp; omega), spth_eq l t h', List.getElem_append_left h']
theorem spth_last (l : List FSpec) (v : FSpec) : spth (l ++ [v]) (len l) = v := by
  rw [len_eq, spth_eq _ l.length (by simp)]; simp
theorem kept_sems {B : Nat} {W0 : World} {l : List FVal} {fs : List FSpec} (h : FSems B W0 l fs) (hm : allMay fs = true) : ∀ m, m ≤ len l → len (keptF (fs.take m)) = len (keptV (fun i => (spth fs i).empty) l m) ∧ ∀ t, t < len (keptF (fs.take m)) → FSem B W0 (fth (keptV (fun i => (spth fs i).empty) l m) t) (spth (keptF (fs.take m)) t) ∧ (spth (keptF (fs.take m)) t).empty = false ∧ (spth (keptF (fs.take m)) t).may = true
  | 0, _ => ⟨by simp [keptF, keptV, len], fun t ht => by simp [keptF, len] at ht⟩
  | m + 1, hm1 => by
    obtain ⟨ih1, ih2⟩ := kept_sems h hm m (by omega)
    have hfl : m < fs.length := by have := h.1; rw [len_eq] at this; omega
    have e1 : fs.take (m + 1) = fs.take m ++ [spth fs m] := by rw [List.take_succ_eq_append_getElem hfl, spth_eq fs m hfl]
    have hmay : (spth fs m).may = true := by
      unfold allMay at hm
      rw [List.all_eq_true] at hm
      rw [spth_eq fs m hfl]; exact hm _ (List.getElem_mem _)
    cases he : (spth fs m).empty with
    | true =>
      have e2 : keptF (fs.take (m + 1)) = keptF (fs.take m) := by
        rw [e1]; unfold keptF; rw [List.filter_append, List.filter_cons_of_neg (by simp [he])]; simp
      have e3 : keptV (fun i => (spth fs i).empty) l (m + 1) = keptV (fun i => (spth fs i).empty) l m := by rw [keptV, if_pos he]
      rw [e2, e3]; exact ⟨ih1, ih2⟩
    | false =>
      have e2 : keptF (fs.take (m + 1)) = keptF (fs.take m) ++ [spth fs m] := by
        rw [e1]; unfold keptF; rw [List.filter_append, List.filter_cons_of_pos (by simp [he])]; simp
      have e3 : keptV (fun i => (spth fs i).empty) l (m + 1) = keptV (fun i => (spth fs i).empty) l m ++ [fth l m] := by rw [keptV, if_neg (by simp [he])]
      rw [e2, e3]
      have hl2 : len (keptF (fs.take m) ++ [spth fs m]) = len (keptF (fs.take m)) + 1 := by simp [len]
      refine ⟨by rw [hl2, ih1]; simp [len], fun t ht => ?_⟩
      rw [hl2] at ht
      by_cases et : t < len (keptF (fs.take m))
      · rw [fth_snoc (by rw [← ih1]; exact et), spth_snoc et]; exact ih2 t et
      · obtain rfl : t = len (keptF (fs.take m)) := by omega
        rw [spth_last]
        refine ⟨?_, he, hmay⟩
        rw [ih1, fth_last]
        exact h.2 m (by omega)
theorem catB_take {L : List ByteArray} {t : Nat} (h : t < L.length) : (catB (L.take t)).size + L[t].size ≤ (catB L).size := by
  have e : catB L = catB (L.take t) ++ (L[t] ++ catB (L.drop (t + 1))) := by
    conv => lhs; rw [← List.take_append_drop t L, List.drop_eq_getElem_cons h]
    rw [catB_app, catB]
  rw [e, ByteArray.size_append, ByteArray.size_append]; omega
theorem flds_keep {w w' : World} {g : Nat} {l : List FVal} (h : Flds w (some ⟨g, 0, none⟩) l) (hk : w'.heap[g]? = w.heap[g]?) : Flds w' (some ⟨g, 0, none⟩) l := fun i hi => by
  obtain ⟨b, off, e, c0, c1, c2, c3, c4, c5⟩ := h i hi
  cases e
  have e2 : ∀ o, w'.cell? ⟨g, o, none⟩ = w.cell? ⟨g, o, none⟩ := fun o => by unfold World.cell?; rw [hk]
  exact ⟨g, 0, rfl, (e2 _).trans c0, (e2 _).trans c1, (e2 _).trans c2, (e2 _).trans c3, (e2 _).trans c4, (e2 _).trans c5⟩
def LayOut (s' : ByteArray) (b base : Nat) (w : World) (e : Ending) (w' : World) : Prop := e = .returned (.tuple #[]) ∧ WrB w' b base s' ∧ WK base b w w'
set_option maxRecDepth 100000 in
set_option maxHeartbeats 4000000 in
theorem lay_any (B b base b1 off c : Nat) (W0 : World) (l : List FVal) (fs : List FSpec) (s : ByteArray) (w : World) (hl : Flds w (some ⟨b1, off, none⟩) l) (hn : len l ≤ 1000) (h0 : 0 < len l) (hS : FSems B W0 l fs) (hm : allMay fs = true) (hk : Keep8 B W0 w) (hb0 : Off8 W0 b)
    (ht : PTab B w) (hB : B ≤ base) (hW : WrB w b base s) (hs : s.size + (layP fs).size ≤ 60000000000000) :
    Calls Tryz.prog 149 #[.pointer (some ⟨b, 0, none⟩), .slice (some ⟨b1, off, none⟩) (len l) c] w (LayOut (s ++ layP fs) b base w) := by
  have HL := Lib.hid hl
  have HS := Lib.hid hS
  have HK := Lib.hid hk
  have hsz := hk.s1
  have HT := Lib.hid ht
  have HWR := Lib.hid hW
  have HBS : Hid (base ≤ w.heap.size) := Lib.hid (by have := hW.1; have := hW.lt; omega)
  have HKS := Lib.hid (kept_sems hS hm (len l) (Nat.le_refl _))
  have e0 : fs.take (len l) = fs := List.take_of_length_le (by have := hS.1; rw [len_eq] at this; omega)
  rw [e0] at HKS
  have eg := (says_lay hS hk).1
  clear hl hS hk ht hW e0
  go_enter Tryz.func149, Tryz.ntmps149
  go_wp2_with fail
  refine (clone_any b1 off c l w HL.out hn).mono ?_
  rintro e w1 ⟨v, rfl, hown, hb1⟩
  have HO := Lib.hid hown
  have HB1 := Lib.hid hb1
  clear hown hb1
  go_wp2_with fail
  refine (delf_any w.heap.size v l 199 #[] (fun i => (spth fs i).empty) w1 HO.out hn h0 HB1.out.size eg (fun i hi w' hb => ((says_lay HS.out ((HK.out.base HB1.out hsz).base hb hsz)).2 i hi w' (Below.refl _ _)))).mono ?_
  rintro e w2 ⟨g, cap, rfl, hfl, hb2, hg, cur, hcur⟩
  have HFL := Lib.hid hfl
  have HB2 : Hid (Below w.heap.size w w2) := Lib.hid (HB1.out.trans hb2)
  have HCUR := Lib.hid hcur
  clear hfl hb2 hcur HO HB1 HL
  obtain ⟨K, hK⟩ : ∃ K, len (keptV (fun i => (spth fs i).empty) l (len l)) = K := ⟨_, rfl⟩
  obtain ⟨kl, hkl⟩ : ∃ kl, keptV (fun i => (spth fs i).empty) l (len l) = kl := ⟨_, rfl⟩
  obtain ⟨ks, hks⟩ : ∃ ks, keptF fs = ks := ⟨_, rfl⟩
  have hK1000 : K ≤ 1000 := by rw [← hK]; exact Nat.le_trans (keptV_len _ _ _) hn
  have HLP : Hid (layP fs = mapP K ++ catB (ks.map fieldP)) := Lib.hid (by
    unfold layP; rw [hks]
    have := HKS.out.1
    rw [hks, hK, len_eq] at this
    rw [this])
  rw [hK]
  rw [hkl] at HFL hK HKS
  rw [hks] at HKS
  have HKK : Hid (len ks = K ∧ len kl = K) := Lib.hid ⟨by rw [HKS.out.1, hK], hK⟩
  clear hK hkl hks
  have HS2 : Hid (s.size + (mapP K).size + (catB (ks.map fieldP)).size ≤ 60000000000000) := Lib.hid (by rw [HLP.out, ByteArray.size_append] at hs; omega)
  have hs0 : s.size ≤ 60000000000000 := by omega
  have hbw : b < w.heap.size := HWR.out.lt
  have hgb : g ≠ b := by omega
  have n8 : Not8 (.cells cur 183 (0, 0)) := not8_cells (by decide)
  clear hs
  go_wp2_with fail
  refine (Map_w B b base K s w2 (HT.out.keep HB2.out (by have := HBS.out; omega)) hB (HWR.out.below HB2.out) (by omega) (by omega)).mono ?_
  rintro e w3 ⟨rfl, hw3, hk3⟩
  have HW3 : Hid (WrB w3 b base (s ++ mapP K ++ catB ((ks.map fieldP).take 0))) := Lib.hid (by
    have e : s ++ mapP K ++ catB ((ks.map fieldP).take 0) = s ++ mapP K := ba_ext (by simp [catB])
    rw [e]; exact hw3)
  have HK3 : Hid (WK base b w2 w3) := Lib.hid hk3
  clear hw3 hk3
  go_wp2
  go_loopg [15] K (fun gg i wr => ∃ m : Nat, gg + m = K ∧ i = .int .i64 m ∧ Hid (WrB wr b base (s ++ mapP K ++ catB ((ks.map fieldP).take m))) ∧ Hid (WK base b w2 wr))
  case atStart => exact ⟨0, rfl, rfl, HW3.out, HK3.out⟩
  case round =>
    clear HW3 HK3
    obtain ⟨m, hm2, rfl, HWW, HWK⟩ := hrel
    by_cases hlt : m < K
    · have i1 : (m : Int) < K := by omega
      obtain ⟨b', off', hbe, c0, c1, c2, c3, c4, c5⟩ := flds_keep HFL.out ((HWK.out.keep g _ HCUR.out hgb n8).trans HCUR.out.symm) m (by rw [HKK.out.2]; exact hlt)
      cases hbe
      rw [Nat.zero_add] at c0 c1 c2 c3 c4 c5
      obtain ⟨hsem, hemp, hmay⟩ := HKS.out.2 m (by rw [HKK.out.1]; exact hlt)
      have hsn : (ks.map fieldP).take (m + 1) = (ks.map fieldP).take m ++ [fieldP (spth ks m)] := by
        have hml : m < ks.length := by have := HKK.out.1; rw [len_eq] at this; omega
        rw [List.take_succ_eq_append_getElem (by simpa using hml), List.getElem_map, spth_eq ks m hml]
      have hct := catB_take (L := ks.map fieldP) (t := m) (by have := HKK.out.1; rw [len_eq] at this; simp; omega)
      have hfm : (ks.map fieldP)[m]'(by have := HKK.out.1; rw [len_eq] at this; simp; omega) = fieldP (spth ks m) := by
        rw [List.getElem_map, spth_eq ks m (by have := HKK.out.1; rw [len_eq] at this; omega)]
      rw [hfm] at hct
      obtain ⟨v, hv⟩ : ∃ v, fth kl m = v := ⟨_, rfl⟩
      obtain ⟨f, hf⟩ : ∃ f, spth ks m = f := ⟨_, rfl⟩
      rw [hv] at c0 c1 c2 c3 c4 c5 hsem
      rw [hf] at hsem hemp hmay hsn hct
      have hkey := hsem.key
      have hksz := hsem.ksz
      have ep := hsem.ep
      have hput := hsem.put hmay hemp
      obtain ⟨s1, hs1⟩ : ∃ s1, s ++ mapP K ++ catB ((ks.map fieldP).take m) = s1 := ⟨_, rfl⟩
      rw [hs1] at HWW
      have hfsz : (fieldP f).size = (strP f.key).size + f.bytes.size := by unfold fieldP; rw [ByteArray.size_append]
      have hs1s : s1.size + (strP f.key).size + f.bytes.size ≤ 60000000000000 := by
        rw [← hs1, ByteArray.size_append, ByteArray.size_append]
        have := HS2.out
        omega
      have HSN : Hid (s ++ mapP K ++ catB ((ks.map fieldP).take (m + 1)) = s1 ++ strP f.key ++ f.bytes) := Lib.hid (by
        rw [hsn, catB_snoc, ← hs1]; unfold fieldP; simp only [ByteArray.append_assoc])
      have HPUT := Lib.hid hput
      have hbw2 : base ≤ w2.heap.size := by have := HBS.out; have := HB2.out.size; omega
      have HBW2 := Lib.hid hbw2
      have HK8 : Hid (Keep8 B W0 wr) := Lib.hid ((HK.out.base HB2.out hsz).wk HWK.out hb0 hB)
      have HTR : Hid (PTab B wr) := Lib.hid ((HT.out.keep HB2.out (by have := HBS.out; omega)).keep HWK.out.bel hB)
      rw [← hkey] at HSN hs1s hksz
      have HKEY := Lib.hid hkey
      clear hsem hemp hmay hsn hct hfm hs1 hfsz hput hv hf hbw2 hkey
      go_wp2_with fail
      refine (Str_w B b base v.key s1 _ (HTR.out.keep (balloc (Below.refl _ _) _) (by have := HTR.out.size; omega)) hB (HWW.out.below (balloc (Below.refl _ _) _)) hksz (by omega)).mono ?_
      rintro e w4 ⟨rfl, hw4, hk4⟩
      have HW4 := Lib.hid hw4
      have hbx : w4.heap[wr.heap.size]? = some (.cells #[.string v.key, .bool v.must, .func (.func v.ef) #[] v.ec, .func (.func v.mf) #[] v.mc, .func (.func v.pf) #[] v.pc, .func (.func v.gf) #[] v.gc] 183 (0, 0)) :=
        hk4.keep _ _ (heap_alloc_new _ _) (by have := HWW.out.lt; omega) (not8_cells (by decide))
      have HKA : Hid (WK base b wr w4) := Lib.hid ((WK.of_below (balloc (Below.refl _ _) _) (by have := HWK.out.bel.size; have := HBW2.out; omega)).trans hk4)
      have bx4 := block_cell hbx 4
      simp only [List.getElem?_toArray, List.getElem?_cons_zero, List.getElem?_cons_succ] at bx4
      have lbx := lt_of_block hbx
      clear hw4 hk4 hbx c0 c1 c2 c3 c4 c5
      go_wp2_with fail
      refine (HPUT.out w4 b base _ (HK8.out.wk HKA.out hb0 hB) hb0 (HTR.out.keep HKA.out.bel hB) hB HW4.out (by rw [ByteArray.size_append]; omega)).mono ?_
      rintro e w5 ⟨rfl, hw5, hk5⟩
      have HW5 : Hid (WrB w5 b base (s ++ mapP K ++ catB ((ks.map fieldP).take (m + 1)))) := Lib.hid (by rw [HSN.out]; exact hw5)
      have HK5 : Hid (WK base b w2 w5) := Lib.hid ((HWK.out.trans HKA.out).trans hk5)
      clear hw5 hk5 HW4 HKA HWW HWK bx4 lbx
      go_wp2
      go_roundg (K - (m + 1))
      case rel => exact ⟨m + 1, by omega, by go_num, HW5.out, HK5.out⟩
      case measure => omega
    · obtain rfl : m = K := by omega
      have i1 : ¬ (m : Int) < m := by omega
      go_wp2
      go_end0
      refine ⟨rfl, ?_, (WK.of_below HB2.out HBS.out).trans HWK.out⟩
      have h := HWW.out
      rw [List.take_of_length_le (by have := HKK.out.1; rw [len_eq] at this; simp; omega), ByteArray.append_assoc, ← HLP.out] at h
      exact h
end Go.Proofs.YtpobhbdomldecaaGreatDoor
namespace Go.Proofs.YtpobhbdomldecaaGreatDoor
open Go.RowKit
set_option linter.unusedSimpArgs false
set_option linter.unusedVariables false
def LaidIs (fs : List FSpec) (w : World) (e : Ending) (w' : World) : Prop :=
  e = .returned (if allMay fs then .tuple #[.string (layP fs), .int .i64 0] else .tuple #[.string ⟨#[]⟩, .int .i64 2]) ∧ Below w.heap.size w w'
set_option maxRecDepth 100000 in
theorem wlaid2_any (B b1 off c : Nat) (W0 : World) (l : List FVal) (fs : List FSpec) (w : World) (hl : Flds w (some ⟨b1, off, none⟩) l) (hn : len l ≤ 1000) (h0 : 0 < len l) (hS : FSems B W0 l fs) (hk : Keep8 B W0 w) (ht : PTab B w) (hs : allMay fs = true → (layP fs).size ≤ 60000000000000) :
    Calls Tryz.prog 88 #[.slice (some ⟨b1, off, none⟩) (len l) c] w (LaidIs fs w) := by
  have HL := Lib.hid hl
  have HS := Lib.hid hS
  have HK := Lib.hid hk
  have hsz := hk.s1
  have HSS := Lib.hid hs
  clear hs
  have HT := Lib.hid ht
  clear hl hS hk ht
  go_enter Tryz.func88, Tryz.ntmps88
  go_wp2_with fail
  refine (all_any B W0 (some ⟨b1, off, none⟩) c l fs w HL.out hn HS.out HK.out).mono ?_
  rintro e w1 ⟨rfl, hb1⟩
  have HB1 := Lib.hid hb1
  clear hb1
  cases hm : allMay fs with
  | false =>
    have HM := Lib.hid hm
    clear hm
    go_wp2
    go_ret2
    exact ⟨by rw [HM.out]; rfl, HB1.out⟩
  | true =>
    have HM := Lib.hid hm
    have HT1 := Lib.hid (HT.out.keep HB1.out HT.out.size)
    have hs := HSS.out hm
    clear hm
    go_wp2_with fail
    refine (pnew_any w1).mono ?_
    rintro e w2 ⟨rfl, hw2, hb2⟩
    have HW2 := Lib.hid hw2
    have HB2 := Lib.hid hb2
    clear hw2 hb2
    go_wp2_with fail
    refine (lay_any B w1.heap.size w1.heap.size b1 off c W0 l fs ByteArray.empty w2 ((HL.out.below HB1.out).below HB2.out) hn h0 HS.out HM.out ((HK.out.next HB1.out).next HB2.out) (Off8.of_le (by have := HB1.out.size; omega)) (HT1.out.keep HB2.out HT1.out.size) HT1.out.size HW2.out (by show 0 + (layP fs).size ≤ 60000000000000; omega)).mono ?_
    rintro e w3 ⟨rfl, hw3, hk3⟩
    have HW3 : Hid (WrB w3 w1.heap.size w1.heap.size (layP fs)) := Lib.hid (by
      have e : ByteArray.empty ++ layP fs = layP fs := ba_ext (by simp)
      rw [e] at hw3; exact hw3)
    have HB3 : Hid (Below w.heap.size w w3) := Lib.hid ((bnext HB1.out HB2.out).trans (hk3.bel.mono HB1.out.size))
    clear hw3 hk3
    go_wp2_with fail
    refine (ptext_any _ _ _ w3 HW3.out).mono ?_
    rintro e w4 ⟨rfl, rfl⟩
    go_wp2
    go_ret2
    exact ⟨by rw [HM.out]; rfl, HB3.out⟩
structure CellAt (B : Nat) (w : World) (b o : Nat) (x : Value) : Prop where
  cell : w.cell? ⟨b, o, none⟩ = some x
  ex : b < B ∨ ∃ y, w.heap[b]? = some y ∧ Not8 y
theorem CellAt.lt {B : Nat} {w : World} {b o : Nat} {x : Value} (h : CellAt B w b o x) : b < w.heap.size := lt_of_cell h.cell
theorem CellAt.keep {B : Nat} {w w' : World} {b o : Nat} {x : Value} (h : CellAt B w b o x) (hk : Keep8 B w w') : CellAt B w' b o x := by
  have e : w'.heap[b]? = w.heap[b]? := by
    rcases h.ex with h1 | ⟨y, h1, h2⟩
    · exact hk.low b h1
    · rw [h1]; exact hk.keep b y h1 h2
  refine ⟨?_, ?_⟩
  · have : w'.cell? ⟨b, o, none⟩ = w.cell? ⟨b, o, none⟩ := by unfold World.cell?; rw [e]
    rw [this]; exact h.cell
  · rw [e]; exact h.ex
theorem CellAt.below {B : Nat} {w w' : World} {b o : Nat} {x : Value} (h : CellAt B w b o x) (hb : Below w.heap.size w w') : CellAt B w' b o x := by
  have e : w'.heap[b]? = w.heap[b]? := hb.block b h.lt
  refine ⟨?_, by rw [e]; exact h.ex⟩
  have : w'.cell? ⟨b, o, none⟩ = w.cell? ⟨b, o, none⟩ := by unfold World.cell?; rw [e]
  rw [this]; exact h.cell
theorem yes_any (w : World) : Calls Tryz.prog 203 #[] w fun e w' => e = .returned (.bool true) ∧ Below w.heap.size w w' := by
  go_enter Tryz.func203, Tryz.ntmps203
  go_wp2
  go_ret
  exact ⟨rfl, Below.refl _ _⟩
theorem num1_any (B bx pb po : Nat) (n : Int) (w : World) (h1 : CellAt B w bx 0 (.pointer (some ⟨pb, po, none⟩))) (h2 : CellAt B w pb po (.int .u64 n)) : Calls Tryz.prog 202 #[.pointer (some ⟨bx, 0, none⟩)] w fun e w' => e = .returned (.bool (n == 0)) ∧ Below w.heap.size w w' := by
  have c1 := h1.cell
  have c2 := h2.cell
  clear h1 h2
  go_enter Tryz.func202, Tryz.ntmps202
  go_wp2
  go_ret
  exact ⟨rfl, Below.refl _ _⟩
theorem num2_any (B b base bx pb po : Nat) (n : Int) (s : ByteArray) (w : World) (h1 : CellAt B w bx 0 (.pointer (some ⟨pb, po, none⟩))) (h2 : CellAt B w pb po (.int .u64 n)) (h0 : 0 ≤ n) (hn : n ≤ 18446744073709551615) (ht : PTab B w) (hB : B ≤ base) (hW : WrB w b base s) (hs : s.size + (numP n).size ≤ 60000000000000) :
    Calls Tryz.prog 204 #[.pointer (some ⟨b, 0, none⟩), .pointer (some ⟨bx, 0, none⟩)] w fun e w' => e = .returned (.tuple #[]) ∧ WrB w' b base (s ++ numP n) ∧ WK base b w w' := by
  have c1 := h1.cell
  have c2 := h2.cell
  have H := Lib.hid (Num_w B b base n s w ht hB hW h0 hn (by omega))
  clear h1 h2 ht hW
  go_enter Tryz.func204, Tryz.ntmps204
  go_wp2_with fail
  refine H.out.mono ?_
  rintro e w' ⟨rfl, h3, h4⟩
  have H3 := Lib.hid h3
  have H4 := Lib.hid h4
  clear h3 h4
  go_wp2
  go_end0
  exact ⟨rfl, H3.out, H4.out⟩
theorem cellAt_new {B : Nat} {w : World} {n : Nat} {cs : Array Value} {T : TypeId} {o : Nat} {x : Value} (h : w.heap[n]? = some (.cells cs T (0, 0))) (hT : T ≠ 5) (hx : cs[o]? = some x) : CellAt B w n o x := ⟨by rw [block_cell h]; exact hx, .inr ⟨_, h, not8_cells hT⟩⟩
theorem digest1_any (w : World) : Calls Tryz.prog 209 #[] w fun e w' => e = .returned (.bool false) ∧ Below w.heap.size w w' := by
  go_enter Tryz.func209, Tryz.ntmps209
  go_wp2
  go_ret
  exact ⟨rfl, Below.refl _ _⟩
theorem digest2_any (B bx pb po : Nat) (x : ByteArray) (w : World) (h1 : CellAt B w bx 0 (.pointer (some ⟨pb, po, none⟩))) (h2 : CellAt B w pb po (.string x)) (hx : x.size ≤ 9223372036854775807) : Calls Tryz.prog 210 #[.pointer (some ⟨bx, 0, none⟩)] w fun e w' => e = .returned (.bool (decide (x.size = 32))) ∧ Below w.heap.size w w' := by
  have c1 := h1.cell
  have c2 := h2.cell
  have HE : Hid (((x.size : Int) == 32) = decide (x.size = 32)) := Lib.hid (by rw [Bool.eq_iff_iff]; simp; omega)
  clear h1 h2
  go_enter Tryz.func210, Tryz.ntmps210
  go_wp2
  go_ret
  exact ⟨ret_bool HE.out, Below.refl _ _⟩
theorem digest3_any (B b base bx pb po : Nat) (x s : ByteArray) (w : World) (h1 : CellAt B w bx 0 (.pointer (some ⟨pb, po, none⟩))) (h2 : CellAt B w pb po (.string x)) (hx : x.size = 32) (ht : PTab B w) (hB : B ≤ base) (hW : WrB w b base s) (hs : s.size + (binP x).size ≤ 60000000000000) :
    Calls Tryz.prog 211 #[.pointer (some ⟨b, 0, none⟩), .pointer (some ⟨bx, 0, none⟩)] w fun e w' => e = .returned (.tuple #[]) ∧ WrB w' b base (s ++ binP x) ∧ WK base b w w' := by
  have c1 := h1.cell
  have c2 := h2.cell
  have H := Lib.hid (Bin_w B b base x s w ht hB hW (by omega) (by omega))
  clear h1 h2 ht hW hx
  go_enter Tryz.func211, Tryz.ntmps211
  go_wp2_with fail
  refine H.out.mono ?_
  rintro e w' ⟨rfl, h3, h4⟩
  have H3 := Lib.hid h3
  have H4 := Lib.hid h4
  clear h3 h4
  go_wp2
  go_end0
  exact ⟨rfl, H3.out, H4.out⟩
set_option maxRecDepth 100000 in
theorem fnum_any (B : Nat) (key : ByteArray) (pb po : Nat) (n : Int) (w : World) (hk : key.size < 65536) (hBw : B ≤ w.heap.size) (hc : CellAt B w pb po (.int .u64 n)) (h0 : 0 ≤ n) (h1 : n ≤ 18446744073709551615) :
    Calls Tryz.prog 151 #[.string key, .pointer (some ⟨pb, po, none⟩)] w fun e w' => ∃ v : FVal, e = .returned v.val ∧ FSem B w' v ⟨key, false, n == 0, true, numP n⟩ ∧ Below w.heap.size w w' := by
  have HC := Lib.hid hc
  clear hc
  go_enter Tryz.func151, Tryz.ntmps151
  go_wp2
  obtain ⟨bx, hbx⟩ : ∃ bx, w.heap.size = bx := ⟨_, rfl⟩
  obtain ⟨V, hV⟩ : ∃ V, ((w.alloc (.cells #[.pointer (some ⟨pb, po, none⟩)] 185)).alloc (.cells #[.string key, .bool false, .func (.func 202) #[] #[.pointer (some ⟨w.heap.size, 0, none⟩)], .func (.func 203) #[] #[], .func (.func 204) #[] #[.pointer (some ⟨w.heap.size, 0, none⟩)], .func (.func 206) #[] #[.pointer (some ⟨w.heap.size, 0, none⟩)]] 183)) = V := ⟨_, rfl⟩
  have VB : Below w.heap.size w V := by rw [← hV]; (repeat (first | exact Below.refl _ _ | assumption | (refine bdrew ?_) | (refine bdrewN ?_ _) | (refine balloc ?_ _) | (refine bset ?_ (by first | omega | (simp; done) | (simp; omega)) _) | (refine bnext ?_ (by assumption))))
  have V0 : V.heap[bx]? = some (.cells #[.pointer (some ⟨pb, po, none⟩)] 185 (0, 0)) := by rw [← hV, ← hbx]; exact block_alloc (heap_alloc_new _ _) _
  have V1 : V.heap[bx + 1]? = some (.cells #[.string key, .bool false, .func (.func 202) #[] #[.pointer (some ⟨bx, 0, none⟩)], .func (.func 203) #[] #[], .func (.func 204) #[] #[.pointer (some ⟨bx, 0, none⟩)], .func (.func 206) #[] #[.pointer (some ⟨bx, 0, none⟩)]] 183 (0, 0)) := by rw [← hV, ← hbx]; exact alloc_new_at _ (by simp)
  have d : ∀ o, V.cell? ⟨bx + 1, o, none⟩ = _ := block_cell V1
  rw [hV]
  simp only [hbx]
  clear hV
  have C0 : CellAt B V bx 0 (.pointer (some ⟨pb, po, none⟩)) := cellAt_new V0 (by decide) rfl
  have C1 : CellAt B V pb po (.int .u64 n) := HC.out.below VB
  refine bodyPost_ret (v := .agg #[.string key, .bool false, .func (.func 202) #[] #[.pointer (some ⟨bx, 0, none⟩)], .func (.func 203) #[] #[], .func (.func 204) #[] #[.pointer (some ⟨bx, 0, none⟩)], .func (.func 206) #[] #[.pointer (some ⟨bx, 0, none⟩)]]) ?_ rfl ⟨⟨key, false, 202, #[.pointer (some ⟨bx, 0, none⟩)], 203, #[], 204, #[.pointer (some ⟨bx, 0, none⟩)], 206, #[.pointer (some ⟨bx, 0, none⟩)]⟩, rfl, ?_, by rw [← hbx]; exact VB⟩
  · simp [results, Tryz.results151, go_sem, d]
  · refine ⟨rfl, rfl, hk, enters_of Tryz.func202 (by kernel_rfl) rfl, enters_of Tryz.func203 (by kernel_rfl) rfl, enters_of Tryz.func204 (by kernel_rfl) rfl, fun w' hw => num1_any B bx pb po n w' (C0.keep hw) (C1.keep hw), fun w' hw => yes_any w', fun hm he w' b base s hw hb ht hB hW hs => num2_any B b base bx pb po n s w' (C0.keep hw) (C1.keep hw) h0 h1 ht hB hW hs⟩
set_option maxRecDepth 100000 in
theorem fdigest_any (B : Nat) (key : ByteArray) (pb po : Nat) (x : ByteArray) (w : World) (hk : key.size < 65536) (hBw : B ≤ w.heap.size) (hc : CellAt B w pb po (.string x)) (hx : x.size ≤ 9223372036854775807) :
    Calls Tryz.prog 152 #[.string key, .pointer (some ⟨pb, po, none⟩)] w fun e w' => ∃ v : FVal, e = .returned v.val ∧ FSem B w' v ⟨key, true, false, decide (x.size = 32), binP x⟩ ∧ Below w.heap.size w w' := by
  have HC := Lib.hid hc
  clear hc
  go_enter Tryz.func152, Tryz.ntmps152
  go_wp2
  obtain ⟨bx, hbx⟩ : ∃ bx, w.heap.size = bx := ⟨_, rfl⟩
  obtain ⟨V, hV⟩ : ∃ V, ((w.alloc (.cells #[.pointer (some ⟨pb, po, none⟩)] 187)).alloc (.cells #[.string key, .bool true, .func (.func 209) #[] #[], .func (.func 210) #[] #[.pointer (some ⟨w.heap.size, 0, none⟩)], .func (.func 211) #[] #[.pointer (some ⟨w.heap.size, 0, none⟩)], .func (.func 213) #[] #[.pointer (some ⟨w.heap.size, 0, none⟩)]] 183)) = V := ⟨_, rfl⟩
  have VB : Below w.heap.size w V := by rw [← hV]; (repeat (first | exact Below.refl _ _ | assumption | (refine bdrew ?_) | (refine bdrewN ?_ _) | (refine balloc ?_ _) | (refine bset ?_ (by first | omega | (simp; done) | (simp; omega)) _) | (refine bnext ?_ (by assumption))))
  have V0 : V.heap[bx]? = some (.cells #[.pointer (some ⟨pb, po, none⟩)] 187 (0, 0)) := by rw [← hV, ← hbx]; exact block_alloc (heap_alloc_new _ _) _
  have V1 : V.heap[bx + 1]? = some (.cells #[.string key, .bool true, .func (.func 209) #[] #[], .func (.func 210) #[] #[.pointer (some ⟨bx, 0, none⟩)], .func (.func 211) #[] #[.pointer (some ⟨bx, 0, none⟩)], .func (.func 213) #[] #[.pointer (some ⟨bx, 0, none⟩)]] 183 (0, 0)) := by rw [← hV, ← hbx]; exact alloc_new_at _ (by simp)
  have d : ∀ o, V.cell? ⟨bx + 1, o, none⟩ = _ := block_cell V1
  rw [hV]
  simp only [hbx]
  clear hV
  have C0 : CellAt B V bx 0 (.pointer (some ⟨pb, po, none⟩)) := cellAt_new V0 (by decide) rfl
  have C1 : CellAt B V pb po (.string x) := HC.out.below VB
  refine bodyPost_ret (v := .agg #[.string key, .bool true, .func (.func 209) #[] #[], .func (.func 210) #[] #[.pointer (some ⟨bx, 0, none⟩)], .func (.func 211) #[] #[.pointer (some ⟨bx, 0, none⟩)], .func (.func 213) #[] #[.pointer (some ⟨bx, 0, none⟩)]]) ?_ rfl ⟨⟨key, true, 209, #[], 210, #[.pointer (some ⟨bx, 0, none⟩)], 211, #[.pointer (some ⟨bx, 0, none⟩)], 213, #[.pointer (some ⟨bx, 0, none⟩)]⟩, rfl, ?_, by rw [← hbx]; exact VB⟩
  · simp [results, Tryz.results152, go_sem, d]
  · refine ⟨rfl, rfl, hk, enters_of Tryz.func209 (by kernel_rfl) rfl, enters_of Tryz.func210 (by kernel_rfl) rfl, enters_of Tryz.func211 (by kernel_rfl) rfl, fun w' hw => digest1_any w', fun w' hw => digest2_any B bx pb po x w' (C0.keep hw) (C1.keep hw) hx, fun hm he w' b base s hw hb ht hB hW hs => digest3_any B b base bx pb po x s w' (C0.keep hw) (C1.keep hw) (by simpa using hm) ht hB hW hs⟩
end Go.Proofs.YtpobhbdomldecaaGreatDoor
namespace Go.Proofs.YtpobhbdomldecaaGreatDoor
open Go.RowKit
set_option linter.unusedSimpArgs false
set_option linter.unusedVariables false
def Strs (B : Nat) (w : World) (a : Option Addr) (l : List ByteArray) : Prop := ∀ i, i < len l → ∃ b off, a = some ⟨b, off, none⟩ ∧ CellAt B w b (off + i) (.string (sth l i))
theorem Strs.keep {B : Nat} {w w' : World} {a : Option Addr} {l : List ByteArray} (h : Strs B w a l) (hk : Keep8 B w w') : Strs B w' a l := fun i hi => by
  obtain ⟨b, off, e, hc⟩ := h i hi; exact ⟨b, off, e, hc.keep hk⟩
theorem Strs.below {B : Nat} {w w' : World} {a : Option Addr} {l : List ByteArray} (h : Strs B w a l) (hk : Below w.heap.size w w') : Strs B w' a l := fun i hi => by
  obtain ⟨b, off, e, hc⟩ := h i hi; exact ⟨b, off, e, hc.below hk⟩
end Go.Proofs.YtpobhbdomldecaaGreatDoor
namespace Go.Proofs.YtpobhbdomldecaaGreatDoor
open Go.RowKit
set_option linter.unusedSimpArgs false
set_option linter.unusedVariables false
abbrev BPs := List (ByteArray × ByteArray)
def catK (ps : BPs) : ByteArray := catB ((rkept ps).map fun p => strP p.1 ++ p.2)
def LyB (w : World) (b : Nat) (ps : BPs) : Prop := w.heap[b]? = some (.cells #[.int .u64 ((rkept ps).length : Nat), .string (catK ps)] 161 (0, 0))
theorem LyB.below {w w' : World} {b : Nat} {ps : BPs} (h : LyB w b ps) (hb : Below w.heap.size w w') : LyB w' b ps := by
  unfold LyB; rw [hb.block b (lt_of_block h)]; exact h
end Go.Proofs.YtpobhbdomldecaaGreatDoor
namespace Go.Proofs.YtpobhbdomldecaaGreatDoor
open Go.RowKit
set_option linter.unusedSimpArgs false
set_option linter.unusedVariables false
theorem laidP_len (sort : Nat) (n : Int) (t : ByteArray) : (laidP sort n t).size ≤ 9 + t.size := by
  unfold laidP
  have := headP_len sort n
  rw [ByteArray.size_append, baL_size]
  split
  · omega
  · show _ + 0 ≤ _; omega
end Go.Proofs.YtpobhbdomldecaaGreatDoor
namespace Go.Proofs.YtpobhbdomldecaaGreatDoor
open Go.RowKit
set_option linter.unusedSimpArgs false
set_option linter.unusedVariables false
structure FRow (w : World) (g : Nat) (l : List FVal) : Prop where
  flds : Flds w (some ⟨g, 0, none⟩) l
  ex : ∃ cur, w.heap[g]? = some (.cells cur 183 (0, 0))
theorem FRow.keep {B : Nat} {w w' : World} {g : Nat} {l : List FVal} (h : FRow w g l) (hk : Keep8 B w w') : FRow w' g l := by
  obtain ⟨h1, cur, h2⟩ := h
  have h3 := hk.keep g _ h2 (not8_cells (by decide))
  exact ⟨flds_keep h1 (h3.trans h2.symm), cur, h3⟩
theorem FRow.below {w w' : World} {g : Nat} {l : List FVal} (h : FRow w g l) (hk : Below w.heap.size w w') : FRow w' g l := by
  obtain ⟨h1, cur, h2⟩ := h
  have h3 := hk.block g (lt_of_block h2)
  exact ⟨flds_keep h1 h3, cur, h3.trans h2⟩
theorem FRow.lt {w : World} {g : Nat} {l : List FVal} (h : FRow w g l) : g < w.heap.size := by
  obtain ⟨h1, cur, h2⟩ := h; exact lt_of_block h2
end Go.Proofs.YtpobhbdomldecaaGreatDoor
namespace Go.Proofs.YtpobhbdomldecaaGreatDoor
open Go.RowKit
set_option linter.unusedSimpArgs false
set_option linter.unusedVariables false
theorem wp_of_callP {P : Program} {o : Oper} {a : Act} {w : World} {f : FuncId} {args : Array Value} {R : Value → World → Prop} {K : Act → World → Prop} {Q : Exit → Act → World → Prop} (h : (execOp a.eval o).run P w = .ok (.enter f args) w)
    (hc : Calls P f args w (fun e w' => ∃ v, e = .returned v ∧ R v w')) (hK : ∀ v w', R v w' → K (a.put o.dst v) w') : o.wp P a w K Q := by
  unfold Oper.wp; rw [h]
  exact hc.mono fun e w' ⟨v, he, hR⟩ => by subst he; exact hK v w' hR
def FIn (B : Nat) (w : World) (v : FVal) (f : FSpec) : Prop := B ≤ w.heap.size ∧ FSem B w v f
theorem FIn.below {B : Nat} {w w' : World} {v : FVal} {f : FSpec} (h : FIn B w v f) (hb : Below w.heap.size w w') : FIn B w' v f := ⟨Nat.le_trans h.1 hb.size, h.2.later (Keep8.of_below hb h.1)⟩
def MadeF (B : Nat) (f : FSpec) (w : World) (e : Ending) (w' : World) : Prop := ∃ u, e = .returned u ∧ ∃ v : FVal, u = v.val ∧ FIn B w' v f ∧ Below w.heap.size w w'
theorem madeF {B : Nat} {f : FSpec} {w w' : World} {e : Ending} (hB : B ≤ w.heap.size) (h : ∃ v : FVal, e = .returned v.val ∧ FSem B w' v f ∧ Below w.heap.size w w') : MadeF B f w e w' := by
  obtain ⟨v, he, hs, hb⟩ := h
  exact ⟨v.val, he, v, rfl, ⟨Nat.le_trans hB hb.size, hs⟩, hb⟩
structure SigAt (B : Nat) (w : World) (b o : Nat) (idx : Int) (wots path : List ByteArray) : Prop where
  c0 : CellAt B w b o (.int .u64 idx)
  c1 : ∃ a c, CellAt B w b (o + 1) (.slice a (len wots) c) ∧ Strs B w a wots
  c2 : ∃ a c, CellAt B w b (o + 2) (.slice a (len path) c) ∧ Strs B w a path
theorem SigAt.below {B : Nat} {w w' : World} {b o : Nat} {idx : Int} {wots path : List ByteArray} (h : SigAt B w b o idx wots path) (hb : Below w.heap.size w w') : SigAt B w' b o idx wots path := by
  obtain ⟨h0, ⟨a1, k1, h1, s1⟩, ⟨a2, k2, h2, s2⟩⟩ := h
  exact ⟨h0.below hb, ⟨a1, k1, h1.below hb, s1.below hb⟩, ⟨a2, k2, h2.below hb, s2.below hb⟩⟩
def RowOf (B : Nat) (specs : List FSpec) (w : World) (e : Ending) (w' : World) : Prop :=
  ∃ g c, ∃ l : List FVal, e = .returned (.slice (some ⟨g, 0, none⟩) (len l) c) ∧ FRow w' g l ∧ FSems B w' l specs ∧ Below w.heap.size w w'
end Go.Proofs.YtpobhbdomldecaaGreatDoor
namespace Go.Proofs.YtpobhbdomldecaaGreatDoor
open Go.RowKit
set_option linter.unusedSimpArgs false
set_option linter.unusedVariables false
def RowIn (B : Nat) (specs : List FSpec) (u : Value) (w : World) : Prop := ∃ g c, ∃ l : List FVal, u = .slice (some ⟨g, 0, none⟩) (len l) c ∧ FRow w g l ∧ B ≤ w.heap.size ∧ FSems B w l specs
theorem RowIn.below {B : Nat} {specs : List FSpec} {u : Value} {w w' : World} (h : RowIn B specs u w) (hb : Below w.heap.size w w') : RowIn B specs u w' := by
  obtain ⟨g, c, l, hu, hF, hB, hS⟩ := h
  exact ⟨g, c, l, hu, hF.below hb, Nat.le_trans hB hb.size, hS.later (Keep8.of_below hb hB)⟩
structure SlotAt (B : Nat) (w : World) (b o : Nat) (L : Int) (q : Bool) (idx : Int) (wots path : List ByteArray) : Prop where
  c0 : CellAt B w b o (.int .u64 L)
  c1 : CellAt B w b (o + 1) (.bool q)
  c2 : SigAt B w b (o + 2) idx wots path
theorem SlotAt.below {B : Nat} {w w' : World} {b o : Nat} {L : Int} {q : Bool} {idx : Int} {wots path : List ByteArray} (h : SlotAt B w b o L q idx wots path) (hb : Below w.heap.size w w') : SlotAt B w' b o L q idx wots path := ⟨h.c0.below hb, h.c1.below hb, h.c2.below hb⟩
structure PartAt (B : Nat) (w : World) (b o : Nat) (root : ByteArray) (weight first life keys : Int) : Prop where
  c0 : CellAt B w b o (.string root)
  c1 : CellAt B w b (o + 1) (.int .u64 weight)
  c2 : CellAt B w b (o + 2) (.int .u64 first)
  c3 : CellAt B w b (o + 3) (.int .u64 life)
  c4 : CellAt B w b (o + 4) (.int .u64 keys)
theorem PartAt.below {B : Nat} {w w' : World} {b o : Nat} {root : ByteArray} {weight first life keys : Int} (h : PartAt B w b o root weight first life keys) (hb : Below w.heap.size w w') : PartAt B w' b o root weight first life keys := ⟨h.c0.below hb, h.c1.below hb, h.c2.below hb, h.c3.below hb, h.c4.below hb⟩
def partSpecs (root : ByteArray) (weight first life keys : Int) : List FSpec :=
  [⟨⟨#[102]⟩, false, first == 0, true, numP first⟩, ⟨⟨#[107]⟩, false, keys == 0, true, numP keys⟩, ⟨⟨#[108]⟩, false, life == 0, true, numP life⟩, ⟨⟨#[114]⟩, true, false, decide (root.size = 32), binP root⟩, ⟨⟨#[119]⟩, false, weight == 0, true, numP weight⟩]
def U64i (x : Int) : Prop := 0 ≤ x ∧ x ≤ 18446744073709551615
set_option maxRecDepth 100000 in
set_option maxHeartbeats 4000000 in
theorem ofpart_any (B sb so : Nat) (root : ByteArray) (weight first life keys : Int) (w : World) (hB : B ≤ w.heap.size) (h : PartAt B w sb so root weight first life keys) (hr : root.size ≤ 9223372036854775807) (hw : U64i weight) (hf : U64i first) (hl : U64i life) (hk : U64i keys) :
    Calls Tryz.prog 89 #[.pointer (some ⟨sb, so, none⟩)] w (RowOf B (partSpecs root weight first life keys) w) := by
  obtain ⟨S0, hS0⟩ : ∃ S : FSpec, (⟨⟨#[102]⟩, false, first == 0, true, numP first⟩ : FSpec) = S := ⟨_, rfl⟩
  obtain ⟨S1, hS1⟩ : ∃ S : FSpec, (⟨⟨#[107]⟩, false, keys == 0, true, numP keys⟩ : FSpec) = S := ⟨_, rfl⟩
  obtain ⟨S2, hS2⟩ : ∃ S : FSpec, (⟨⟨#[108]⟩, false, life == 0, true, numP life⟩ : FSpec) = S := ⟨_, rfl⟩
  obtain ⟨S3, hS3⟩ : ∃ S : FSpec, (⟨⟨#[114]⟩, true, false, decide (root.size = 32), binP root⟩ : FSpec) = S := ⟨_, rfl⟩
  obtain ⟨S4, hS4⟩ : ∃ S : FSpec, (⟨⟨#[119]⟩, false, weight == 0, true, numP weight⟩ : FSpec) = S := ⟨_, rfl⟩
  have HSP : Hid (partSpecs root weight first life keys = [S0, S1, S2, S3, S4]) := Lib.hid (by unfold partSpecs; rw [hS0, hS1, hS2, hS3, hS4])
  have HS0 : Hid (∀ w', Below w.heap.size w w' → Calls Tryz.prog 151 #[.string ⟨#[102]⟩, .pointer (some ⟨sb, so + 2, none⟩)] w' (MadeF B S0 w')) := Lib.hid (fun w' hb => by
    rw [← hS0]
    exact (fnum_any B ⟨#[102]⟩ sb (so + 2) first w' (by decide) (Nat.le_trans hB hb.size) (h.c2.below hb) hf.1 hf.2).mono (fun e w'' hh => madeF (Nat.le_trans hB hb.size) hh))
  have HS1 : Hid (∀ w', Below w.heap.size w w' → Calls Tryz.prog 151 #[.string ⟨#[107]⟩, .pointer (some ⟨sb, so + 4, none⟩)] w' (MadeF B S1 w')) := Lib.hid (fun w' hb => by
    rw [← hS1]
    exact (fnum_any B ⟨#[107]⟩ sb (so + 4) keys w' (by decide) (Nat.le_trans hB hb.size) (h.c4.below hb) hk.1 hk.2).mono (fun e w'' hh => madeF (Nat.le_trans hB hb.size) hh))
  have HS2 : Hid (∀ w', Below w.heap.size w w' → Calls Tryz.prog 151 #[.string ⟨#[108]⟩, .pointer (some ⟨sb, so + 3, none⟩)] w' (MadeF B S2 w')) := Lib.hid (fun w' hb => by
    rw [← hS2]
    exact (fnum_any B ⟨#[108]⟩ sb (so + 3) life w' (by decide) (Nat.le_trans hB hb.size) (h.c3.below hb) hl.1 hl.2).mono (fun e w'' hh => madeF (Nat.le_trans hB hb.size) hh))
  have HS3 : Hid (∀ w', Below w.heap.size w w' → Calls Tryz.prog 152 #[.string ⟨#[114]⟩, .pointer (some ⟨sb, so, none⟩)] w' (MadeF B S3 w')) := Lib.hid (fun w' hb => by
    rw [← hS3]
    exact (fdigest_any B ⟨#[114]⟩ sb so root w' (by decide) (Nat.le_trans hB hb.size) (h.c0.below hb) hr).mono (fun e w'' hh => madeF (Nat.le_trans hB hb.size) hh))
  have HS4 : Hid (∀ w', Below w.heap.size w w' → Calls Tryz.prog 151 #[.string ⟨#[119]⟩, .pointer (some ⟨sb, so + 1, none⟩)] w' (MadeF B S4 w')) := Lib.hid (fun w' hb => by
    rw [← hS4]
    exact (fnum_any B ⟨#[119]⟩ sb (so + 1) weight w' (by decide) (Nat.le_trans hB hb.size) (h.c1.below hb) hw.1 hw.2).mono (fun e w'' hh => madeF (Nat.le_trans hB hb.size) hh))
  clear h hS3 hS0 hS1 hS2 hS4
  go_enter Tryz.func89, Tryz.ntmps89
  go_upto_region 1 with fail
  refine wp_region_tail 20 1000 (none) (phis [fun u _ => u = (.pointer (some ⟨sb, so, none⟩)), fun u _ => u = (.pointer (some ⟨sb, so, none⟩)), fun u _ => u = (.pointer (some ⟨sb, so + 2, none⟩)), fun u w' => ∃ v : FVal, u = v.val ∧ FIn B w' v S0, fun u _ => u = (.pointer (some ⟨sb, so, none⟩)), fun u _ => u = (.pointer (some ⟨sb, so, none⟩)), fun u _ => u = (.pointer (some ⟨sb, so + 4, none⟩)), fun u w' => ∃ v : FVal, u = v.val ∧ FIn B w' v S1, fun u _ => u = (.pointer (some ⟨sb, so, none⟩)), fun u _ => u = (.pointer (some ⟨sb, so, none⟩)), fun u _ => u = (.pointer (some ⟨sb, so + 3, none⟩)), fun u w' => ∃ v : FVal, u = v.val ∧ FIn B w' v S2, fun u _ => u = (.pointer (some ⟨sb, so, none⟩)), fun u _ => u = (.pointer (some ⟨sb, so, none⟩)), fun u _ => u = (.pointer (some ⟨sb, so, none⟩)), fun u w' => ∃ v : FVal, u = v.val ∧ FIn B w' v S3, fun u _ => u = (.pointer (some ⟨sb, so, none⟩)), fun u _ => u = (.pointer (some ⟨sb, so, none⟩)), fun u _ => u = (.pointer (some ⟨sb, so + 1, none⟩)), fun u w' => ∃ v : FVal, u = v.val ∧ FIn B w' v S4]) rfl (by kernel_rfl) (by kernel_rfl) (mono_of ⟨mono_eq, mono_eq, mono_eq, ?m3, mono_eq, mono_eq, mono_eq, ?m7, mono_eq, mono_eq, mono_eq, ?m11, mono_eq, mono_eq, mono_eq, ?m15, mono_eq, mono_eq, mono_eq, ?m19, trivial⟩) (steps_of 20 ⟨?s0, ?s1, ?s2, ?s3, ?s4, ?s5, ?s6, ?s7, ?s8, ?s9, ?s10, ?s11, ?s12, ?s13, ?s14, ?s15, ?s16, ?s17, ?s18, ?s19, trivial⟩) ?_
  case m3 =>
    exact ⟨fun u w1 w2 h ⟨v, h1, h2⟩ => ⟨v, h1, h2.below h⟩, fun _ u w1 w2 h ⟨v, h1, h2⟩ => ⟨v, h1, h2.below (extB_none h)⟩⟩
  case m7 =>
    exact ⟨fun u w1 w2 h ⟨v, h1, h2⟩ => ⟨v, h1, h2.below h⟩, fun _ u w1 w2 h ⟨v, h1, h2⟩ => ⟨v, h1, h2.below (extB_none h)⟩⟩
  case m11 =>
    exact ⟨fun u w1 w2 h ⟨v, h1, h2⟩ => ⟨v, h1, h2.below h⟩, fun _ u w1 w2 h ⟨v, h1, h2⟩ => ⟨v, h1, h2.below (extB_none h)⟩⟩
  case m15 =>
    exact ⟨fun u w1 w2 h ⟨v, h1, h2⟩ => ⟨v, h1, h2.below h⟩, fun _ u w1 w2 h ⟨v, h1, h2⟩ => ⟨v, h1, h2.below (extB_none h)⟩⟩
  case m19 =>
    exact ⟨fun u w1 w2 h ⟨v, h1, h2⟩ => ⟨v, h1, h2.below h⟩, fun _ u w1 w2 h ⟨v, h1, h2⟩ => ⟨v, h1, h2.below (extB_none h)⟩⟩
  case s0 =>
    refine step_val (v := (.pointer (some ⟨sb, so, none⟩))) (fun av wv hE hS hO hD => ?_) (fun _ => rfl)
    have h0 : av.eval (.tmp 0) = (.pointer (some ⟨sb, so, none⟩)) := hO.2.2 0 rfl
    have f0 := (ev_form av 0).symm.trans h0
    refine ⟨rfl, ?_⟩
    simp [go_sem, f0]
  case s1 =>
    refine step_val (v := (.pointer (some ⟨sb, so, none⟩))) (fun av wv hE hS hO hD => ?_) (fun _ => rfl)
    have d3 : av.eval (.tmp 3) = (.pointer (some ⟨sb, so, none⟩)) := hD.1 rfl _ rfl
    have f3 := (ev_form av 3).symm.trans d3
    refine ⟨rfl, ?_⟩
    simp [go_sem, f3]
  case s2 =>
    refine step_val (v := (.pointer (some ⟨sb, so + 2, none⟩))) (fun av wv hE hS hO hD => ?_) (fun _ => rfl)
    have d4 : av.eval (.tmp 4) = (.pointer (some ⟨sb, so, none⟩)) := hD.1 rfl _ rfl
    have f4 := (ev_form av 4).symm.trans d4
    refine ⟨rfl, ?_⟩
    simp [go_sem, f4]
  case s3 =>
    refine step_wp (fun av wv hE hS hO hD => ?_)
    have d5 : av.eval (.tmp 5) = (.pointer (some ⟨sb, so + 2, none⟩)) := hD.1 rfl _ rfl
    have f5 := (ev_form av 5).symm.trans d5
    refine ⟨rfl, ?_⟩
    refine wp_of_callP (f := 151) (args := #[.string ⟨#[102]⟩, .pointer (some ⟨sb, so + 2, none⟩)]) (by simp [go_sem, f5]) (HS0.out wv (of_drew hE)) (fun u w2 ⟨v, hu, hs, hb⟩ => ⟨u, rfl, es_of_ext hb, v, hu, hs⟩)
  case s4 =>
    refine step_val (v := (.pointer (some ⟨sb, so, none⟩))) (fun av wv hE hS hO hD => ?_) (fun _ => rfl)
    have h0 : av.eval (.tmp 0) = (.pointer (some ⟨sb, so, none⟩)) := hO.2.2 0 rfl
    have f0 := (ev_form av 0).symm.trans h0
    refine ⟨rfl, ?_⟩
    simp [go_sem, f0]
  case s5 =>
    refine step_val (v := (.pointer (some ⟨sb, so, none⟩))) (fun av wv hE hS hO hD => ?_) (fun _ => rfl)
    have d7 : av.eval (.tmp 7) = (.pointer (some ⟨sb, so, none⟩)) := hD.1 rfl _ rfl
    have f7 := (ev_form av 7).symm.trans d7
    refine ⟨rfl, ?_⟩
    simp [go_sem, f7]
  case s6 =>
    refine step_val (v := (.pointer (some ⟨sb, so + 4, none⟩))) (fun av wv hE hS hO hD => ?_) (fun _ => rfl)
    have d8 : av.eval (.tmp 8) = (.pointer (some ⟨sb, so, none⟩)) := hD.1 rfl _ rfl
    have f8 := (ev_form av 8).symm.trans d8
    refine ⟨rfl, ?_⟩
    simp [go_sem, f8]
  case s7 =>
    refine step_wp (fun av wv hE hS hO hD => ?_)
    have d9 : av.eval (.tmp 9) = (.pointer (some ⟨sb, so + 4, none⟩)) := hD.1 rfl _ rfl
    have f9 := (ev_form av 9).symm.trans d9
    refine ⟨rfl, ?_⟩
    refine wp_of_callP (f := 151) (args := #[.string ⟨#[107]⟩, .pointer (some ⟨sb, so + 4, none⟩)]) (by simp [go_sem, f9]) (HS1.out wv (of_drew hE)) (fun u w2 ⟨v, hu, hs, hb⟩ => ⟨u, rfl, es_of_ext hb, v, hu, hs⟩)
  case s8 =>
    refine step_val (v := (.pointer (some ⟨sb, so, none⟩))) (fun av wv hE hS hO hD => ?_) (fun _ => rfl)
    have h0 : av.eval (.tmp 0) = (.pointer (some ⟨sb, so, none⟩)) := hO.2.2 0 rfl
    have f0 := (ev_form av 0).symm.trans h0
    refine ⟨rfl, ?_⟩
    simp [go_sem, f0]
  case s9 =>
    refine step_val (v := (.pointer (some ⟨sb, so, none⟩))) (fun av wv hE hS hO hD => ?_) (fun _ => rfl)
    have d11 : av.eval (.tmp 11) = (.pointer (some ⟨sb, so, none⟩)) := hD.1 rfl _ rfl
    have f11 := (ev_form av 11).symm.trans d11
    refine ⟨rfl, ?_⟩
    simp [go_sem, f11]
  case s10 =>
    refine step_val (v := (.pointer (some ⟨sb, so + 3, none⟩))) (fun av wv hE hS hO hD => ?_) (fun _ => rfl)
    have d12 : av.eval (.tmp 12) = (.pointer (some ⟨sb, so, none⟩)) := hD.1 rfl _ rfl
    have f12 := (ev_form av 12).symm.trans d12
    refine ⟨rfl, ?_⟩
    simp [go_sem, f12]
  case s11 =>
    refine step_wp (fun av wv hE hS hO hD => ?_)
    have d13 : av.eval (.tmp 13) = (.pointer (some ⟨sb, so + 3, none⟩)) := hD.1 rfl _ rfl
    have f13 := (ev_form av 13).symm.trans d13
    refine ⟨rfl, ?_⟩
    refine wp_of_callP (f := 151) (args := #[.string ⟨#[108]⟩, .pointer (some ⟨sb, so + 3, none⟩)]) (by simp [go_sem, f13]) (HS2.out wv (of_drew hE)) (fun u w2 ⟨v, hu, hs, hb⟩ => ⟨u, rfl, es_of_ext hb, v, hu, hs⟩)
  case s12 =>
    refine step_val (v := (.pointer (some ⟨sb, so, none⟩))) (fun av wv hE hS hO hD => ?_) (fun _ => rfl)
    have h0 : av.eval (.tmp 0) = (.pointer (some ⟨sb, so, none⟩)) := hO.2.2 0 rfl
    have f0 := (ev_form av 0).symm.trans h0
    refine ⟨rfl, ?_⟩
    simp [go_sem, f0]
  case s13 =>
    refine step_val (v := (.pointer (some ⟨sb, so, none⟩))) (fun av wv hE hS hO hD => ?_) (fun _ => rfl)
    have d15 : av.eval (.tmp 15) = (.pointer (some ⟨sb, so, none⟩)) := hD.1 rfl _ rfl
    have f15 := (ev_form av 15).symm.trans d15
    refine ⟨rfl, ?_⟩
    simp [go_sem, f15]
  case s14 =>
    refine step_val (v := (.pointer (some ⟨sb, so, none⟩))) (fun av wv hE hS hO hD => ?_) (fun _ => rfl)
    have d16 : av.eval (.tmp 16) = (.pointer (some ⟨sb, so, none⟩)) := hD.1 rfl _ rfl
    have f16 := (ev_form av 16).symm.trans d16
    refine ⟨rfl, ?_⟩
    simp [go_sem, f16]
  case s15 =>
    refine step_wp (fun av wv hE hS hO hD => ?_)
    have d17 : av.eval (.tmp 17) = (.pointer (some ⟨sb, so, none⟩)) := hD.1 rfl _ rfl
    have f17 := (ev_form av 17).symm.trans d17
    refine ⟨rfl, ?_⟩
    refine wp_of_callP (f := 152) (args := #[.string ⟨#[114]⟩, .pointer (some ⟨sb, so, none⟩)]) (by simp [go_sem, f17]) (HS3.out wv (of_drew hE)) (fun u w2 ⟨v, hu, hs, hb⟩ => ⟨u, rfl, es_of_ext hb, v, hu, hs⟩)
  case s16 =>
    refine step_val (v := (.pointer (some ⟨sb, so, none⟩))) (fun av wv hE hS hO hD => ?_) (fun _ => rfl)
    have h0 : av.eval (.tmp 0) = (.pointer (some ⟨sb, so, none⟩)) := hO.2.2 0 rfl
    have f0 := (ev_form av 0).symm.trans h0
    refine ⟨rfl, ?_⟩
    simp [go_sem, f0]
  case s17 =>
    refine step_val (v := (.pointer (some ⟨sb, so, none⟩))) (fun av wv hE hS hO hD => ?_) (fun _ => rfl)
    have d19 : av.eval (.tmp 19) = (.pointer (some ⟨sb, so, none⟩)) := hD.1 rfl _ rfl
    have f19 := (ev_form av 19).symm.trans d19
    refine ⟨rfl, ?_⟩
    simp [go_sem, f19]
  case s18 =>
    refine step_val (v := (.pointer (some ⟨sb, so + 1, none⟩))) (fun av wv hE hS hO hD => ?_) (fun _ => rfl)
    have d20 : av.eval (.tmp 20) = (.pointer (some ⟨sb, so, none⟩)) := hD.1 rfl _ rfl
    have f20 := (ev_form av 20).symm.trans d20
    refine ⟨rfl, ?_⟩
    simp [go_sem, f20]
  case s19 =>
    refine step_wp (fun av wv hE hS hO hD => ?_)
    have d21 : av.eval (.tmp 21) = (.pointer (some ⟨sb, so + 1, none⟩)) := hD.1 rfl _ rfl
    have f21 := (ev_form av 21).symm.trans d21
    refine ⟨rfl, ?_⟩
    refine wp_of_callP (f := 151) (args := #[.string ⟨#[119]⟩, .pointer (some ⟨sb, so + 1, none⟩)]) (by simp [go_sem, f21]) (HS4.out wv (of_drew hE)) (fun u w2 ⟨v, hu, hs, hb⟩ => ⟨u, rfl, es_of_ext hb, v, hu, hs⟩)
  intro a' w' hE hO hall
  have hA := act_of_outer (ds := [3, 4, 5, 6, 7, 8, 9, 10, 11, 12, 13, 14, 15, 16, 17, 18, 19, 20, 21, 22]) rfl hO (by kernel_rfl)
  have e3 : (fun u _ => u = (.pointer (some ⟨sb, so, none⟩))) (a'.eval (.tmp 3)) w' := hall.1 _ rfl
  have e4 : (fun u _ => u = (.pointer (some ⟨sb, so, none⟩))) (a'.eval (.tmp 4)) w' := hall.2.1 _ rfl
  have e5 : (fun u _ => u = (.pointer (some ⟨sb, so + 2, none⟩))) (a'.eval (.tmp 5)) w' := hall.2.2.1 _ rfl
  have e6 : (fun u w' => ∃ v : FVal, u = v.val ∧ FIn B w' v S0) (a'.eval (.tmp 6)) w' := hall.2.2.2.1 _ rfl
  have e7 : (fun u _ => u = (.pointer (some ⟨sb, so, none⟩))) (a'.eval (.tmp 7)) w' := hall.2.2.2.2.1 _ rfl
  have e8 : (fun u _ => u = (.pointer (some ⟨sb, so, none⟩))) (a'.eval (.tmp 8)) w' := hall.2.2.2.2.2.1 _ rfl
  have e9 : (fun u _ => u = (.pointer (some ⟨sb, so + 4, none⟩))) (a'.eval (.tmp 9)) w' := hall.2.2.2.2.2.2.1 _ rfl
  have e10 : (fun u w' => ∃ v : FVal, u = v.val ∧ FIn B w' v S1) (a'.eval (.tmp 10)) w' := hall.2.2.2.2.2.2.2.1 _ rfl
  have e11 : (fun u _ => u = (.pointer (some ⟨sb, so, none⟩))) (a'.eval (.tmp 11)) w' := hall.2.2.2.2.2.2.2.2.1 _ rfl
  have e12 : (fun u _ => u = (.pointer (some ⟨sb, so, none⟩))) (a'.eval (.tmp 12)) w' := hall.2.2.2.2.2.2.2.2.2.1 _ rfl
  have e13 : (fun u _ => u = (.pointer (some ⟨sb, so + 3, none⟩))) (a'.eval (.tmp 13)) w' := hall.2.2.2.2.2.2.2.2.2.2.1 _ rfl
  have e14 : (fun u w' => ∃ v : FVal, u = v.val ∧ FIn B w' v S2) (a'.eval (.tmp 14)) w' := hall.2.2.2.2.2.2.2.2.2.2.2.1 _ rfl
  have e15 : (fun u _ => u = (.pointer (some ⟨sb, so, none⟩))) (a'.eval (.tmp 15)) w' := hall.2.2.2.2.2.2.2.2.2.2.2.2.1 _ rfl
  have e16 : (fun u _ => u = (.pointer (some ⟨sb, so, none⟩))) (a'.eval (.tmp 16)) w' := hall.2.2.2.2.2.2.2.2.2.2.2.2.2.1 _ rfl
  have e17 : (fun u _ => u = (.pointer (some ⟨sb, so, none⟩))) (a'.eval (.tmp 17)) w' := hall.2.2.2.2.2.2.2.2.2.2.2.2.2.2.1 _ rfl
  have e18 : (fun u w' => ∃ v : FVal, u = v.val ∧ FIn B w' v S3) (a'.eval (.tmp 18)) w' := hall.2.2.2.2.2.2.2.2.2.2.2.2.2.2.2.1 _ rfl
  have e19 : (fun u _ => u = (.pointer (some ⟨sb, so, none⟩))) (a'.eval (.tmp 19)) w' := hall.2.2.2.2.2.2.2.2.2.2.2.2.2.2.2.2.1 _ rfl
  have e20 : (fun u _ => u = (.pointer (some ⟨sb, so, none⟩))) (a'.eval (.tmp 20)) w' := hall.2.2.2.2.2.2.2.2.2.2.2.2.2.2.2.2.2.1 _ rfl
  have e21 : (fun u _ => u = (.pointer (some ⟨sb, so + 1, none⟩))) (a'.eval (.tmp 21)) w' := hall.2.2.2.2.2.2.2.2.2.2.2.2.2.2.2.2.2.2.1 _ rfl
  have e22 : (fun u w' => ∃ v : FVal, u = v.val ∧ FIn B w' v S4) (a'.eval (.tmp 22)) w' := hall.2.2.2.2.2.2.2.2.2.2.2.2.2.2.2.2.2.2.2.1 _ rfl
  obtain ⟨v6, hv6⟩ : ∃ v, a'.eval (.tmp 6) = v := ⟨_, rfl⟩
  rw [hv6] at e6
  obtain ⟨v10, hv10⟩ : ∃ v, a'.eval (.tmp 10) = v := ⟨_, rfl⟩
  rw [hv10] at e10
  obtain ⟨v14, hv14⟩ : ∃ v, a'.eval (.tmp 14) = v := ⟨_, rfl⟩
  rw [hv14] at e14
  obtain ⟨v18, hv18⟩ : ∃ v, a'.eval (.tmp 18) = v := ⟨_, rfl⟩
  rw [hv18] at e18
  obtain ⟨v22, hv22⟩ : ∃ v, a'.eval (.tmp 22) = v := ⟨_, rfl⟩
  rw [hv22] at e22
  simp only [List.foldl_cons, List.foldl_nil, Act.put, List.setIfInBounds_toArray, List.set_cons_succ, List.set_cons_zero, e3, e4, e5, hv6, e7, e8, e9, hv10, e11, e12, e13, hv14, e15, e16, e17, hv18, e19, e20, e21, hv22] at hA
  clear hO hall e3 e4 e5 hv6 e7 e8 e9 hv10 e11 e12 e13 hv14 e15 e16 e17 hv18 e19 e20 e21 hv22
  subst hA
  obtain ⟨x0, rfl, s0⟩ := e6
  obtain ⟨x1, rfl, s1⟩ := e10
  obtain ⟨x2, rfl, s2⟩ := e14
  obtain ⟨x3, rfl, s3⟩ := e18
  obtain ⟨x4, rfl, s4⟩ := e22
  have HSS : Hid (FSems B w' [x0, x1, x2, x3, x4] [S0, S1, S2, S3, S4]) := Lib.hid ⟨rfl, fun i hi => by
    have : i = 0 ∨ i = 1 ∨ i = 2 ∨ i = 3 ∨ i = 4 := by simp [len] at hi; omega
    rcases this with rfl | rfl | rfl | rfl | rfl
    · exact s0.2
    · exact s1.2
    · exact s2.2
    · exact s3.2
    · exact s4.2⟩
  have HBW : Hid (Below w.heap.size w w' ∧ B ≤ w'.heap.size) := Lib.hid ⟨of_drew hE, s0.1⟩
  clear s0 s1 s2 s3 s4 hE
  unfold FVal.val
  go_wp2
  go_ret
  refine ⟨w'.heap.size, 5, [x0, x1, x2, x3, x4], rfl, ⟨Flds.block (l := [x0, x1, x2, x3, x4]) (heap_alloc_new w' _), _, heap_alloc_new w' _⟩, ?_, bnext HBW.out.1 (balloc (Below.refl _ _) _)⟩
  rw [HSP.out]
  exact HSS.out.later (Keep8.of_below (balloc (Below.refl _ _) _) HBW.out.2)
end Go.Proofs.YtpobhbdomldecaaGreatDoor
namespace Go.Proofs.YtpobhbdomldecaaGreatDoor
open Go.RowKit
set_option linter.unusedSimpArgs false
set_option linter.unusedVariables false
set_option maxRecDepth 100000 in
theorem wpart2_any (B : Nat) (root : ByteArray) (weight first life keys : Int) (w : World) (ht : PTab B w) (hr : root.size ≤ 9223372036854775807) (hw : U64i weight) (hf : U64i first) (hl : U64i life) (hk : U64i keys)
    (hsz : allMay (partSpecs root weight first life keys) = true → (layP (partSpecs root weight first life keys)).size ≤ 60000000000000) :
    Calls Tryz.prog 41 #[.agg #[.string root, .int .u64 weight, .int .u64 first, .int .u64 life, .int .u64 keys]] w (LaidIs (partSpecs root weight first life keys) w) := by
  have HT := Lib.hid ht
  clear ht
  go_enter Tryz.func41, Tryz.ntmps41
  go_wp2_with fail
  obtain ⟨V, hV⟩ : ∃ V, w.alloc (.cells #[.string root, .int .u64 weight, .int .u64 first, .int .u64 life, .int .u64 keys] 53) = V := ⟨_, rfl⟩
  have HB : Hid (Below w.heap.size w V) := Lib.hid (by rw [← hV]; (repeat (first | exact Below.refl _ _ | assumption | (refine bdrew ?_) | (refine bdrewN ?_ _) | (refine balloc ?_ _) | (refine bset ?_ (by first | omega | (simp; done) | (simp; omega)) _) | (refine bnext ?_ (by assumption)))))
  have hblk : V.heap[w.heap.size]? = some (.cells #[.string root, .int .u64 weight, .int .u64 first, .int .u64 life, .int .u64 keys] 53 (0, 0)) := by rw [← hV]; exact heap_alloc_new _ _
  have HSL : Hid (PartAt B V w.heap.size 0 root weight first life keys) := Lib.hid ⟨cellAt_new hblk (by decide) rfl, cellAt_new hblk (by decide) rfl, cellAt_new hblk (by decide) rfl, cellAt_new hblk (by decide) rfl, cellAt_new hblk (by decide) rfl⟩
  have HTV := Lib.hid (HT.out.keep HB.out HT.out.size)
  try rw [hV]
  clear hV hblk HT
  refine (ofpart_any B w.heap.size 0 root weight first life keys V HTV.out.size HSL.out hr hw hf hl hk).mono ?_
  rintro e w1 ⟨g, c, l, rfl, hF, hS, hb⟩
  have HF := Lib.hid hF
  have HS := Lib.hid hS
  have HB1 : Hid (Below w.heap.size w w1) := Lib.hid (bnext HB.out hb)
  have HT1 := Lib.hid (HTV.out.keep hb HTV.out.size)
  have hl : len l = 5 := hS.1.symm
  have HL := Lib.hid hl
  clear hF hS hb hl HTV HSL
  go_wp2_with fail
  refine (wlaid2_any B g 0 c w1 l (partSpecs root weight first life keys) w1 HF.out.flds (by rw [HL.out]; decide) (by rw [HL.out]; decide) HS.out (Keep8.refl HT1.out.size) HT1.out hsz).mono ?_
  rintro e w2 ⟨rfl, hb2⟩
  have HB2 : Hid (Below w.heap.size w w2) := Lib.hid (bnext HB1.out hb2)
  clear hb2
  cases hm : allMay (partSpecs root weight first life keys) with
  | true =>
    have HM := Lib.hid hm
    clear hm
    rw [if_pos rfl]
    go_wp2
    go_ret2
    exact ⟨by rw [HM.out]; rfl, HB2.out⟩
  | false =>
    have HM := Lib.hid hm
    clear hm
    rw [if_neg (by decide)]
    go_wp2
    go_ret2
    exact ⟨by rw [HM.out]; rfl, HB2.out⟩
end Go.Proofs.YtpobhbdomldecaaGreatDoor
namespace Go.Proofs.YtpobhbdomldecaaGreatDoor
open Go.RowKit
set_option linter.unusedSimpArgs false
set_option linter.unusedVariables false
theorem binP_len (s : ByteArray) : (binP s).size ≤ 9 + s.size := laidP_len 1 _ _
end Go.Proofs.YtpobhbdomldecaaGreatDoor
namespace Go.Proofs.YtpobhbdomldecaaGreatDoor
open Go.RowKit
set_option linter.unusedSimpArgs false
set_option linter.unusedVariables false
theorem may_part (root : ByteArray) (weight first life keys : Int) : allMay (partSpecs root weight first life keys) = decide (root.size = 32) := by
  show (true && (true && (true && (decide (root.size = 32) && (true && true))))) = _
  cases decide (root.size = 32) <;> rfl
end Go.Proofs.YtpobhbdomldecaaGreatDoor
namespace Go.Proofs.YtpobhbdomldecaaGreatDoor
set_option linter.unusedSimpArgs false
set_option linter.unusedVariables false
open Go.RowKit Go.ChangeMaps
theorem ba_beq (a b : ByteArray) : (a == b) = decide (a = b) := by
  show ByteArray.instBEq.beq a b = _
  obtain ⟨x⟩ := a
  obtain ⟨y⟩ := b
  have h : ByteArray.instBEq.beq (⟨x⟩ : ByteArray) ⟨y⟩ = (x == y) := rfl
  rw [h]
  by_cases e : x = y
  · subst e; simp
  · have : (x == y) = false := by simpa using e
    rw [this]; symm; rw [decide_eq_false_iff_not]; intro h2; cases h2; exact e rfl
instance : LawfulBEq ByteArray where
  rfl := by intro a; rw [ba_beq]; exact decide_eq_true rfl
  eq_of_beq := by intro a b h; rw [ba_beq] at h; exact of_decide_eq_true h
def smGet (l : List (ByteArray × Value)) (k : ByteArray) : Option Value := (l.find? (fun p => p.1 == k)).map (·.2)
def smPut : List (ByteArray × Value) → ByteArray → Value → List (ByteArray × Value)
  | [], k, v => [(k, v)]
  | p :: r, k, v => if p.1 = k then (k, v) :: r else p :: smPut r k v
section
open Go.MapKept
variable {P : Program} {K E t : TypeId} {w : World} {b : Nat} {l : List (ByteArray × Value)}
section
variable {ops : Array Oper} {rest : List Oper} {o : Oper} {a : Act} {Q : Exit → Act → World → Prop}
end
end
end Go.Proofs.YtpobhbdomldecaaGreatDoor
namespace Go.Proofs.YtpobhbdomldecaaGreatDoor
open Go.RowKit Go.ChangeMaps Go.MapKept
set_option linter.unusedSimpArgs false
set_option linter.unusedVariables false
theorem smGet_cons (p : ByteArray × Value) (l : List (ByteArray × Value)) (k : ByteArray) : smGet (p :: l) k = if p.1 = k then some p.2 else smGet l k := by
  unfold smGet
  rw [List.find?_cons]
  by_cases h : p.1 = k
  · simp [h]
  · have : (p.1 == k) = false := by simpa using h
    simp [h, this]
theorem smGet_smPut (l : List (ByteArray × Value)) (k j : ByteArray) (v : Value) : smGet (smPut l k v) j = if k = j then some v else smGet l j := by
  induction l with
  | nil => rw [smPut, smGet_cons]
  | cons p r ih =>
    unfold smPut
    by_cases h : p.1 = k
    · rw [if_pos h, smGet_cons, smGet_cons]
      by_cases h2 : k = j
      · simp [h2]
      · have : ¬ p.1 = j := fun e => h2 (h.symm.trans e)
        simp [h2, this]
    · rw [if_neg h, smGet_cons, smGet_cons, ih]
      by_cases h2 : k = j
      · have : ¬ p.1 = j := fun e => h (e.trans h2.symm)
        simp [h2, this]
      · simp [h2]
def KeysOk (gs : List GSpec) : Prop := ∀ i j, i < gs.length → j < gs.length → (gth gs i).key = (gth gs j).key → i = j
def Disj (gs : List GSpec) : Prop := ∀ i j, i < gs.length → j < gs.length → i ≠ j → ∀ o, o ∈ (gth gs i).offs → o ∉ (gth gs j).offs
def SeenIs (gs : List GSpec) (L : List (ByteArray × Value)) (seen : List Nat) : Prop := ∀ i, i < gs.length → smGet L (gth gs i).key = if i ∈ seen then some (.int .i64 1) else none
theorem SeenIs.put {gs : List GSpec} {L : List (ByteArray × Value)} {seen : List Nat} (h : SeenIs gs L seen) (hk : KeysOk gs) {j : Nat} (hj : j < gs.length) : SeenIs gs (smPut L (gth gs j).key (.int .i64 1)) (j :: seen) := fun i hi => by
  rw [smGet_smPut]
  by_cases e : (gth gs j).key = (gth gs i).key
  · have := hk j i hj hi e
    subst this
    rw [if_pos rfl, if_pos (List.mem_cons_self ..)]
  · rw [if_neg e, h i hi]
    have : i ≠ j := fun e2 => e (by rw [e2])
    by_cases hm : i ∈ seen
    · rw [if_pos hm, if_pos (List.mem_cons_of_mem _ hm)]
    · rw [if_neg hm, if_neg (by simp [this, hm])]
theorem Flds.chg {rb tb : Nat} {w w' : World} {b off : Nat} {l : List FVal} (h : Flds w (some ⟨b, off, none⟩) l) (hc : Chg rb tb w w') (h1 : b ≠ rb) (h2 : b ≠ tb) : Flds w' (some ⟨b, off, none⟩) l := fun i hi => by
  obtain ⟨b', off', e, h3⟩ := h i hi
  cases e
  have hb := hc.block b (lt_of_cell h3.c0) h1 h2
  have e : ∀ q, w'.cell? ⟨b, q, none⟩ = w.cell? ⟨b, q, none⟩ := fun q => World.cell?_of_block (w := w) hb
  obtain ⟨c0, c1, c2, c3, c4, c5⟩ := h3
  exact ⟨b, off, rfl, by constructor <;> (rw [e]; assumption)⟩
end Go.Proofs.YtpobhbdomldecaaGreatDoor
namespace Go.Proofs.YtpobhbdomldecaaGreatDoor
open Go.RowKit Go.ChangeMaps Go.MapKept
set_option linter.unusedSimpArgs false
set_option linter.unusedVariables false
def CKeep (w w' : World) : Prop := ∀ (b : Nat) (cs : Array Value) (T : TypeId) (fz : Nat × Nat), w.heap[b]? = some (.cells cs T fz) → w'.heap[b]? = w.heap[b]?
theorem cells_of_cell {w : World} {b o : Nat} {v : Value} (h : w.cell? ⟨b, o, none⟩ = some v) : ∃ (cs : Array Value) (T : TypeId) (fz : Nat × Nat), w.heap[b]? = some (.cells cs T fz) := by
  unfold World.cell? at h
  split at h
  · next cs T fz he => exact ⟨_, _, _, he⟩
  · cases h
theorem CKeep.cell {w w' : World} (hk : CKeep w w') {b o : Nat} {v : Value} (h : w.cell? ⟨b, o, none⟩ = some v) : w'.cell? ⟨b, o, none⟩ = some v := by
  obtain ⟨cs, T, fz, h2⟩ := cells_of_cell h
  rw [World.cell?_of_block (w := w) (hk _ _ _ _ h2)]; exact h
theorem CKeep.tx {w w' : World} (hk : CKeep w w') {a : Option Addr} {l : List ByteArray} (h : Tx w a l) : Tx w' a l := h.keep fun b off cs e h2 => hk _ _ _ _ h2
theorem CKeep.ux {w w' : World} (hk : CKeep w w') {a : Option Addr} {l : List Int} (h : Ux w a l) : Ux w' a l := h.keep fun b off cs e h2 => hk _ _ _ _ h2
theorem CKeep.rev {w w' : World} (hk : CKeep w w') {rb tb : Nat} {r : Rev} {d : RevD} (h : RevIs rb tb w r d) : RevIs rb tb w' r d :=
  ⟨h.pos, h.L, h.signed, h.idx, h.wn, hk.tx h.ws, h.wo, h.pn, hk.tx h.ps, h.po, h.root, h.wt, h.first, h.life, h.keys⟩
theorem CKeep.holds {w w' : World} (hk : CKeep w w') {rb tb : Nat} {v : Value} {d : DV} (h : HoldsD rb tb w v d) : HoldsD rb tb w' v d := by
  cases d with
  | num n => exact h
  | flag q => exact h
  | str s => exact h
  | strs l => obtain ⟨a, c, h1, h2, h3, h4⟩ := h; exact ⟨a, c, h1, h2, h3, hk.tx h4⟩
  | nums l => obtain ⟨a, c, h1, h2, h3, h4⟩ := h; exact ⟨a, c, h1, h2, h3, hk.ux h4⟩
  | revs l =>
    obtain ⟨a, c, h1, h2, h3, rs, h4, h5, h6⟩ := h
    refine ⟨a, c, h1, h2, h3, rs, h4, fun i hi => ?_, fun i hi => hk.rev (h6 i hi)⟩
    obtain ⟨b, off, e, ⟨c0, c1, c2, c3, c4, c5, c6, c7, c8, c9, c10⟩⟩ := h5 i hi
    exact ⟨b, off, e, ⟨hk.cell c0, hk.cell c1, hk.cell c2, hk.cell c3, hk.cell c4, hk.cell c5, hk.cell c6, hk.cell c7, hk.cell c8, hk.cell c9, hk.cell c10⟩⟩
end Go.Proofs.YtpobhbdomldecaaGreatDoor
namespace Go.Proofs.YtpobhbdomldecaaGreatDoor
open Go.RowKit
set_option linter.unusedSimpArgs false
set_option linter.unusedVariables false
def LastsR (P : World → List FVal → Prop) : Prop := ∀ w w' l, Below w.heap.size w w' → P w l → P w' l
def RowG (P : World → List FVal → Prop) (u : Value) (w : World) : Prop := ∃ g c, ∃ l : List FVal, u = .slice (some ⟨g, 0, none⟩) (len l) c ∧ len l ≤ c ∧ FRow w g l ∧ P w l
theorem RowG.below {P : World → List FVal → Prop} (hP : LastsR P) {u : Value} {w w' : World} (h : RowG P u w) (hb : Below w.heap.size w w') : RowG P u w' := by
  obtain ⟨g, c, l, hu, hc, hF, hp⟩ := h
  exact ⟨g, c, l, hu, hc, hF.below hb, hP _ _ _ hb hp⟩
end Go.Proofs.YtpobhbdomldecaaGreatDoor
namespace Go.Proofs.YtpobhbdomldecaaGreatDoor
open Go.RowKit
set_option linter.unusedSimpArgs false
set_option linter.unusedVariables false
structure MsgAt (B : Nat) (w : World) (b o : Nat) (hd : ByteArray) (pt : ByteArray) (cnt : Int) (prv : Int) (fst : Int) (lst : Int) : Prop where
  c0 : CellAt B w b (o) (.string hd)
  c1 : CellAt B w b (o + 1) (.string pt)
  c2 : CellAt B w b (o + 2) (.int .u64 cnt)
  c3 : CellAt B w b (o + 3) (.int .u64 prv)
  c4 : CellAt B w b (o + 4) (.int .u64 fst)
  c5 : CellAt B w b (o + 5) (.int .u64 lst)
theorem MsgAt.below {B : Nat} {w w' : World} {b o : Nat} {hd : ByteArray} {pt : ByteArray} {cnt : Int} {prv : Int} {fst : Int} {lst : Int} (h : MsgAt B w b o hd pt cnt prv fst lst) (hb : Below w.heap.size w w') : MsgAt B w' b o hd pt cnt prv fst lst := ⟨h.c0.below hb, h.c1.below hb, h.c2.below hb, h.c3.below hb, h.c4.below hb, h.c5.below hb⟩
structure HeaderAt (B : Nat) (w : World) (b o : Nat) (rnd : Int) (prev : ByteArray) (txns : ByteArray) (seed : ByteArray) : Prop where
  c0 : CellAt B w b (o) (.int .u64 rnd)
  c1 : CellAt B w b (o + 1) (.string prev)
  c2 : CellAt B w b (o + 2) (.string txns)
  c3 : CellAt B w b (o + 3) (.string seed)
theorem HeaderAt.below {B : Nat} {w w' : World} {b o : Nat} {rnd : Int} {prev : ByteArray} {txns : ByteArray} {seed : ByteArray} (h : HeaderAt B w b o rnd prev txns seed) (hb : Below w.heap.size w w') : HeaderAt B w' b o rnd prev txns seed := ⟨h.c0.below hb, h.c1.below hb, h.c2.below hb, h.c3.below hb⟩
end Go.Proofs.YtpobhbdomldecaaGreatDoor
namespace Go.Proofs.YtpobhbdomldecaaGreatDoor
open Go.RowKit
set_option linter.unusedSimpArgs false
set_option linter.unusedVariables false
structure TEnv (B qb rb tb n : Nat) (T : TypeId) (w : World) : Prop where
  rd : ∃ cs, w.heap[rb]? = some (.cells cs 282 (0, 0))
  th : ∃ cs, w.heap[tb]? = some (.cells cs T (0, 0))
  ne : tb ≠ rb
  nq : qb ≠ tb
  le : B ≤ tb
  t8 : T ≠ 5
  tf : T ≠ 183
theorem TEnv.below {B qb rb tb n : Nat} {T : TypeId} {w w' : World} (h : TEnv B qb rb tb n T w) (hb : Below w.heap.size w w') : TEnv B qb rb tb n T w' := by
  obtain ⟨cs, h1⟩ := h.rd
  obtain ⟨ct, h2⟩ := h.th
  exact ⟨⟨cs, (hb.block _ (lt_of_block h1)).trans h1⟩, ⟨ct, (hb.block _ (lt_of_block h2)).trans h2⟩, h.ne, h.nq, h.le, h.t8, h.tf⟩
theorem RecAt.cellAt {B rb tb : Nat} {T : TypeId} {n : Nat} {w : World} {x : Rcd} (h : RecAt rb tb T n w x) (hT : T ≠ 5) {o : Nat} (ho : o < n) : ∃ v, CellAt B w tb o v ∧ HoldsD rb tb w v (x o) := by
  obtain ⟨cs, h1, h2, h3⟩ := h
  obtain ⟨v, h4, h5⟩ := h3 o ho
  exact ⟨v, cellAt_new h1 hT h4, h5⟩
theorem Kd.strs {x0 x : Rcd} (h : Kd x0 x) {o : Nat} (h0 : kindD (x0 o) = 3) : ∃ n, x o = .strs n := by
  have := (h o).trans h0
  cases hx : x o <;> rw [hx] at this <;> first | exact ⟨_, rfl⟩ | cases this
theorem Kd.nums {x0 x : Rcd} (h : Kd x0 x) {o : Nat} (h0 : kindD (x0 o) = 4) : ∃ n, x o = .nums n := by
  have := (h o).trans h0
  cases hx : x o <;> rw [hx] at this <;> first | exact ⟨_, rfl⟩ | cases this
theorem Kd.revs {x0 x : Rcd} (h : Kd x0 x) {o : Nat} (h0 : kindD (x0 o) = 5) : ∃ n, x o = .revs n := by
  have := (h o).trans h0
  cases hx : x o <;> rw [hx] at this <;> first | exact ⟨_, rfl⟩ | cases this
section
variable {B qb rb tb n : Nat} {T : TypeId} {w : World} {x0 : Rcd} {s : ByteArray}
end
theorem FRow.chg {rb tb g : Nat} {w w' : World} {l : List FVal} (h : FRow w g l) (hc : Chg rb tb w w') (h1 : g ≠ rb) (h2 : g ≠ tb) : FRow w' g l := by
  obtain ⟨hf, cur, hg⟩ := h
  have h3 := hc.block g (lt_of_block hg) h1 h2
  exact ⟨flds_keep hf h3, cur, h3.trans hg⟩
structure GOk (x0 : Rcd) (gs : List GSpec) : Prop where
  keys : KeysOk gs
  disj : Disj gs
  frames : ∀ g ∈ gs, g.Frames
  kinds : ∀ g ∈ gs, g.Kinds x0
end Go.Proofs.YtpobhbdomldecaaGreatDoor
namespace Go.Proofs.YtpobhbdomldecaaGreatDoor
open Go.RowKit
set_option linter.unusedSimpArgs false
set_option linter.unusedVariables false
section
variable {B qb rb tb n : Nat} {T : TypeId} {w : World} {x0 : Rcd} {s : ByteArray}
end
theorem RowG.imp {P Q : World → List FVal → Prop} {u : Value} {w : World} (h : RowG P u w) (hi : ∀ l, P w l → Q w l) : RowG Q u w := by
  obtain ⟨g, c, l, hu, hc, hF, hp⟩ := h
  exact ⟨g, c, l, hu, hc, hF, hi l hp⟩
end Go.Proofs.YtpobhbdomldecaaGreatDoor
namespace Go.Proofs.YtpobhbdomldecaaGreatDoor
open Go.RowKit
set_option linter.unusedSimpArgs false
set_option linter.unusedVariables false
theorem Kd.str {x0 x : Rcd} (h : Kd x0 x) {o : Nat} (h0 : kindD (x0 o) = 2) : ∃ n, x o = .str n := by
  have := (h o).trans h0
  cases hx : x o <;> rw [hx] at this <;> first | exact ⟨_, rfl⟩ | cases this
section
variable {B qb rb tb n : Nat} {T : TypeId} {w : World} {x0 : Rcd} {s : ByteArray}
end
end Go.Proofs.YtpobhbdomldecaaGreatDoor
namespace Go.Proofs.YtpobhbdomldecaaGreatDoor
open Go.RowKit
set_option linter.unusedSimpArgs false
set_option linter.unusedVariables false
def LiesPart (rb tb : Nat) (w : World) (x : Rcd) : Prop := True
theorem LiesPart.below {rb tb : Nat} {w w' : World} {x : Rcd} (h : LiesPart rb tb w x) (hb : Below w.heap.size w w') : LiesPart rb tb w' x := trivial
theorem LiesPart.chg {rb tb : Nat} {w w' : World} {x : Rcd} (h : LiesPart rb tb w x) (hb : Chg rb tb w w') : LiesPart rb tb w' x := trivial
def LiesSlot (rb tb : Nat) (w : World) (x : Rcd) (a3 : Option Addr) (c3 : Nat) (a4 : Option Addr) (c4 : Nat) : Prop := HoldsD rb tb w (.slice a3 (len (x 3).l) c3) (x 3) ∧ HoldsD rb tb w (.slice a4 (len (x 4).l) c4) (x 4)
theorem LiesSlot.below {rb tb : Nat} {w w' : World} {x : Rcd} {a3 : Option Addr} {c3 : Nat} {a4 : Option Addr} {c4 : Nat} (h : LiesSlot rb tb w x a3 c3 a4 c4) (hb : Below w.heap.size w w') : LiesSlot rb tb w' x a3 c3 a4 c4 := ⟨h.1.chg (Chg.of_below hb), h.2.chg (Chg.of_below hb)⟩
theorem LiesSlot.chg {rb tb : Nat} {w w' : World} {x : Rcd} {a3 : Option Addr} {c3 : Nat} {a4 : Option Addr} {c4 : Nat} (h : LiesSlot rb tb w x a3 c3 a4 c4) (hb : Chg rb tb w w') : LiesSlot rb tb w' x a3 c3 a4 c4 := ⟨h.1.chg hb, h.2.chg hb⟩
def LiesCert (rb tb : Nat) (w : World) (x : Rcd) (a2 : Option Addr) (c2 : Nat) (a3 : Option Addr) (c3 : Nat) (a4 : Option Addr) (c4 : Nat) (a5 : Option Addr) (c5 : Nat) : Prop := HoldsD rb tb w (.slice a2 (len (x 2).rs) c2) (x 2) ∧ HoldsD rb tb w (.slice a3 (len (x 3).ns) c3) (x 3) ∧ HoldsD rb tb w (.slice a4 (len (x 4).l) c4) (x 4) ∧ HoldsD rb tb w (.slice a5 (len (x 5).l) c5) (x 5)
theorem LiesCert.below {rb tb : Nat} {w w' : World} {x : Rcd} {a2 : Option Addr} {c2 : Nat} {a3 : Option Addr} {c3 : Nat} {a4 : Option Addr} {c4 : Nat} {a5 : Option Addr} {c5 : Nat} (h : LiesCert rb tb w x a2 c2 a3 c3 a4 c4 a5 c5) (hb : Below w.heap.size w w') : LiesCert rb tb w' x a2 c2 a3 c3 a4 c4 a5 c5 := ⟨h.1.chg (Chg.of_below hb), h.2.1.chg (Chg.of_below hb), h.2.2.1.chg (Chg.of_below hb), h.2.2.2.chg (Chg.of_below hb)⟩
theorem LiesCert.chg {rb tb : Nat} {w w' : World} {x : Rcd} {a2 : Option Addr} {c2 : Nat} {a3 : Option Addr} {c3 : Nat} {a4 : Option Addr} {c4 : Nat} {a5 : Option Addr} {c5 : Nat} (h : LiesCert rb tb w x a2 c2 a3 c3 a4 c4 a5 c5) (hb : Chg rb tb w w') : LiesCert rb tb w' x a2 c2 a3 c3 a4 c4 a5 c5 := ⟨h.1.chg hb, h.2.1.chg hb, h.2.2.1.chg hb, h.2.2.2.chg hb⟩
def LiesMsg (rb tb : Nat) (w : World) (x : Rcd) : Prop := True
theorem LiesMsg.below {rb tb : Nat} {w w' : World} {x : Rcd} (h : LiesMsg rb tb w x) (hb : Below w.heap.size w w') : LiesMsg rb tb w' x := trivial
theorem LiesMsg.chg {rb tb : Nat} {w w' : World} {x : Rcd} (h : LiesMsg rb tb w x) (hb : Chg rb tb w w') : LiesMsg rb tb w' x := trivial
def LiesHeader (rb tb : Nat) (w : World) (x : Rcd) : Prop := True
theorem LiesHeader.below {rb tb : Nat} {w w' : World} {x : Rcd} (h : LiesHeader rb tb w x) (hb : Below w.heap.size w w') : LiesHeader rb tb w' x := trivial
theorem LiesHeader.chg {rb tb : Nat} {w w' : World} {x : Rcd} (h : LiesHeader rb tb w x) (hb : Chg rb tb w w') : LiesHeader rb tb w' x := trivial
end Go.Proofs.YtpobhbdomldecaaGreatDoor
namespace Go.Proofs.YtpobhbdomldecaaGreatDoor
open Go.RowKit
set_option linter.unusedSimpArgs false
set_option linter.unusedVariables false
structure TE7 (B : Nat) (w : World) : Prop where
  p : PTab B w
  t : Tabs B w
  e : ErrType w
  s : B ≤ w.heap.size
  g : 3 < B
theorem TE7.below {B : Nat} {w w' : World} (h : TE7 B w) (hb : Below w.heap.size w w') : TE7 B w' := ⟨h.p.keep hb h.s, h.t.below hb, h.e.below hb, Nat.le_trans h.s hb.size, h.g⟩
end Go.Proofs.YtpobhbdomldecaaGreatDoor
namespace Go.Proofs.YtpobhbdomldecaaGreatDoor
set_option linter.unusedSimpArgs false
set_option linter.unusedVariables false
open Go.RowKit
def RefB (w : World) (b : Nat) (s : ByteArray) (a : Nat) (most : Int) : Prop := w.heap[b]? = some (.cells #[.string s, .int .i64 a, .int .i64 most] 276 (0, 0))
end Go.Proofs.YtpobhbdomldecaaGreatDoor
namespace Go.Proofs.YtpobhbdomldecaaGreatDoor
open Go.RowKit
set_option linter.unusedSimpArgs false
set_option linter.unusedVariables false
abbrev Cst := Except Flt Nat
def Cst.flt : Cst → Flt
  | .ok _ => (0, 0)
  | .error f => f
def CurB (w : World) (cb rb : Nat) (f : Flt) : Prop := w.heap[cb]? = some (.cells #[.pointer (some ⟨rb, 0, none⟩), .int .i64 f.1, .int .i64 f.2] 271 (0, 0))
structure CurIs (w : World) (cb rb : Nat) (s : ByteArray) (σ : Cst) : Prop where
  c : CurB w cb rb σ.flt
  ne : cb ≠ rb
  sz : s.size ≤ 140737488355328
  st : match σ with | .ok a => RefB w rb s a 10240 ∧ a ≤ s.size | .error f => f.1 ≠ 0 ∧ ∃ a, RefB w rb s a 10240 ∧ a ≤ s.size
theorem CurIs.below {w w' : World} {cb rb : Nat} {s : ByteArray} {σ : Cst} (h : CurIs w cb rb s σ) (hb : Below w.heap.size w w') : CurIs w' cb rb s σ := by
  refine ⟨(hb.block _ (lt_of_block h.c)).trans h.c, h.ne, h.sz, ?_⟩
  have hs := h.st
  cases σ with
  | ok a => exact ⟨(hb.block _ (lt_of_block hs.1)).trans hs.1, hs.2⟩
  | error f => obtain ⟨h1, a, h2, h3⟩ := hs; exact ⟨h1, a, (hb.block _ (lt_of_block h2)).trans h2, h3⟩
theorem CurIs.rd {w : World} {cb rb : Nat} {s : ByteArray} {σ : Cst} (h : CurIs w cb rb s σ) : ∃ a, RefB w rb s a 10240 ∧ a ≤ s.size := by
  have hs := h.st
  cases σ with
  | ok a => exact ⟨a, hs⟩
  | error f => exact hs.2
theorem CurIs.set {w : World} {cb rb : Nat} {s : ByteArray} {σ : Cst} (h : CurIs w cb rb s σ) (f : Flt) (hf : f.1 ≠ 0) : CurIs ((w.setCell ⟨cb, 1, none⟩ (.int .i64 f.1)).setCell ⟨cb, 2, none⟩ (.int .i64 f.2)) cb rb s (.error f) := by
  obtain ⟨a, h1, h2⟩ := h.rd
  exact ⟨block_setCell (block_setCell h.c _) _, h.ne, h.sz, hf, a, block_setCell_ne (block_setCell_ne h1 (by exact fun e => h.ne e.symm) _) (by exact fun e => h.ne e.symm) _, h2⟩
end Go.Proofs.YtpobhbdomldecaaGreatDoor
namespace Go.Proofs.YtpobhbdomldecaaGreatDoor
open Go.RowKit
set_option linter.unusedSimpArgs false
set_option linter.unusedVariables false
def isKey (all k : ByteArray) (n : Nat) : Bool := (List.range n).any fun i => (all.extract i (i + 1)).toList == k.toList
end Go.Proofs.YtpobhbdomldecaaGreatDoor
namespace Go.Proofs.YtpobhbdomldecaaGreatDoor
open Go.RowKit
set_option linter.unusedSimpArgs false
set_option linter.unusedVariables false
abbrev RStep := Rcd → Cst → Rcd × Cst
theorem CurIs.keep {w w' : World} {cb rb : Nat} {s : ByteArray} {σ : Cst} (h : CurIs w cb rb s σ) (h1 : w'.heap[cb]? = w.heap[cb]?) (h2 : w'.heap[rb]? = w.heap[rb]?) : CurIs w' cb rb s σ := by
  refine ⟨h1.trans h.c, h.ne, h.sz, ?_⟩
  have hst := h.st
  cases σ with
  | ok a => exact ⟨h2.trans hst.1, hst.2⟩
  | error f => obtain ⟨h3, a, h4, h5⟩ := hst; exact ⟨h3, a, h2.trans h4, h5⟩
end Go.Proofs.YtpobhbdomldecaaGreatDoor
namespace Go.Proofs.YtpobhbdomldecaaGreatDoor
open Go.RowKit
set_option linter.unusedSimpArgs false
set_option linter.unusedVariables false
structure StepOk (x0 : Rcd) (g : GSpec) (f : RStep) : Prop where
  good : ∀ x a, fresh x0 g x → match g.read x a with
    | .error e => (f x (.ok a)).2 = .error e
    | .ok y => if g.empty y.1 = true then (f x (.ok a)).2 = .error (5, 0) else f x (.ok a) = (y.1, .ok y.2)
  bad : ∀ x e, (f x (.error e)).2 = .error e
def recth (l : List (UInt8 × RStep)) (i : Nat) : UInt8 × RStep := l.getD i (0, fun x σ => (x, σ))
structure SpecsOk (x0 : Rcd) (all : ByteArray) (specs : List (UInt8 × RStep)) (gs : List GSpec) : Prop where
  len : specs.length = gs.length
  keys : ∀ i, i < gs.length → (gth gs i).key.toList = [(recth specs i).1]
  all : ∀ k : ByteArray, isKey all k all.size = true ↔ ∃ i, i < gs.length ∧ k.toList = [(recth specs i).1]
  rise : ∀ i j, i < j → j < gs.length → (recth specs i).1 < (recth specs j).1
  steps : ∀ i, i < gs.length → StepOk x0 (gth gs i) (recth specs i).2
section
variable {x0 : Rcd} {s all : ByteArray} {specs : List (UInt8 × RStep)} {gs : List GSpec}
theorem SpecsOk.inj (h : SpecsOk x0 all specs gs) {i j : Nat} (hi : i < gs.length) (hj : j < gs.length) (e : (recth specs i).1 = (recth specs j).1) : i = j := by
  rcases Nat.lt_trichotomy i j with h1 | h1 | h1
  · have := h.rise i j h1 hj; rw [e] at this; exact absurd this (UInt8.lt_irrefl _)
  · exact h1
  · have := h.rise j i h1 hi; rw [e] at this; exact absurd this (UInt8.lt_irrefl _)
end
end Go.Proofs.YtpobhbdomldecaaGreatDoor
namespace Go.Proofs.YtpobhbdomldecaaGreatDoor
open Go.RowKit
set_option linter.unusedSimpArgs false
set_option linter.unusedVariables false
theorem Chg.low {rb cb : Nat} {w w1 w' : World} (h : Below w.heap.size w w1) (hc : Chg rb cb w1 w') (h1 : w.heap.size ≤ rb) (h2 : w.heap.size ≤ cb) : Below w.heap.size w w' :=
  ⟨hc.os.trans h.os, hc.tape.trans h.tape, hc.output.trans h.output, Nat.le_trans h.size hc.size, fun i hi => (hc.block i (Nat.lt_of_lt_of_le hi h.size) (by omega) (by omega)).trans (h.block i hi)⟩
end Go.Proofs.YtpobhbdomldecaaGreatDoor
namespace Go.Proofs.YtpobhbdomldecaaGreatDoor
open Go.RowKit
set_option linter.unusedSimpArgs false
set_option linter.unusedVariables false
def Nms (B : Nat) (w : World) (a : Option Addr) (l : List Int) : Prop := ∀ i, i < len l → ∃ b off, a = some ⟨b, off, none⟩ ∧ CellAt B w b (off + i) (.int .u64 (nth l i))
theorem Nms.keep {B : Nat} {w w' : World} {a : Option Addr} {l : List Int} (h : Nms B w a l) (hk : Keep8 B w w') : Nms B w' a l := fun i hi => by
  obtain ⟨b, off, e, hc⟩ := h i hi; exact ⟨b, off, e, hc.keep hk⟩
theorem Nms.below {B : Nat} {w w' : World} {a : Option Addr} {l : List Int} (h : Nms B w a l) (hk : Below w.heap.size w w') : Nms B w' a l := fun i hi => by
  obtain ⟨b, off, e, hc⟩ := h i hi; exact ⟨b, off, e, hc.below hk⟩
end Go.Proofs.YtpobhbdomldecaaGreatDoor
namespace Go.Proofs.YtpobhbdomldecaaGreatDoor
open Go.RowKit
set_option linter.unusedSimpArgs false
set_option linter.unusedVariables false
def AtF (s : ByteArray) (a : Nat) (t : ByteArray) : Prop := a ≤ s.size ∧ ∃ R, s.data.toList.drop a = t.data.toList ++ R
theorem AtF.le {s t : ByteArray} {a : Nat} (h : AtF s a t) : a + t.size ≤ s.size := by
  obtain ⟨h1, R, h2⟩ := h
  have := congrArg List.length h2
  rw [List.length_drop, List.length_append, ba_len, ba_len] at this
  omega
theorem AtF.nil {s : ByteArray} {a : Nat} (h : a ≤ s.size) : AtF s a ByteArray.empty := ⟨h, s.data.toList.drop a, by rfl⟩
def POk : DV → Prop
  | .num n => U64i n
  | .nums l => ∀ n ∈ l, U64i n
  | _ => True
def DOk : DV → Prop
  | .revs l => ∀ r ∈ l, ∀ o, POk (revC r o)
  | d => POk d
structure FG (s : ByteArray) (x0 : Rcd) (g : GSpec) (f : Rcd → FSpec) : Prop where
  key : ∀ y, (f y).key = g.key
  ksz : g.key.size ≤ 10240
  must : ∀ y, (f y).must = g.must
  loc : ∀ y z, (∀ o, o ∈ g.offs → y o = z o) → f y = f z
  emp : ∀ y, Kd x0 y → (f y).empty = g.empty y
  full : g.must = true → ∀ y, (f y).empty = false
  un : g.must = false → (f x0).empty = true ∧ (f x0).may = true
  zero : ∀ v, Kd x0 v → (f v).empty = true → ∀ o, o ∈ g.offs → v o = x0 o
  back : ∀ x a y, a ≤ s.size → fresh x0 g x → Kd x0 x → g.read x a = .ok y → g.empty y.1 = false → (f y.1).may = true ∧ AtF s a (f y.1).bytes ∧ y.2 = a + (f y.1).bytes.size ∧ ∀ o, o ∈ g.offs → DOk (y.1 o)
  forth : ∀ v x a, Kd x0 v → (∀ o, DOk (v o)) → fresh x0 g x → Kd x0 x → (f v).may = true → (f v).empty = false → AtF s a (f v).bytes → ∃ y, g.read x a = .ok (y, a + (f v).bytes.size) ∧ ∀ o, o ∈ g.offs → y o = v o
variable {s : ByteArray} {x0 : Rcd}
end Go.Proofs.YtpobhbdomldecaaGreatDoor
namespace Go.Proofs.YtpobhbdomldecaaGreatDoor
open Go.RowKit
set_option linter.unusedSimpArgs false
set_option linter.unusedVariables false
abbrev FPair := GSpec × (Rcd → FSpec)
def gsOf (P : List FPair) : List GSpec := P.map fun p => p.1
def pth (P : List FPair) (i : Nat) : FPair := P.getD i (GSpec.zero, fun _ => ⟨ByteArray.empty, false, false, false, ByteArray.empty⟩)
theorem pth_eq (P : List FPair) (i : Nat) (h : i < P.length) : pth P i = P[i] := by unfold pth; rw [List.getD_eq_getElem?_getD, List.getElem?_eq_getElem h]; rfl
theorem gsOf_len (P : List FPair) : (gsOf P).length = P.length := List.length_map _
theorem gth_of {P : List FPair} {i : Nat} (h : i < P.length) : gth (gsOf P) i = (pth P i).1 := by
  rw [gth_eq _ _ (by rw [gsOf_len]; exact h), pth_eq P i h]; unfold gsOf; rw [List.getElem_map]
structure FGs (s : ByteArray) (x0 : Rcd) (P : List FPair) : Prop where
  fg : ∀ p ∈ P, FG s x0 p.1 p.2
  ok : GOk x0 (gsOf P)
  len : P.length ≤ 1000
variable {s : ByteArray} {x0 : Rcd} {P : List FPair}
theorem FGs.at (h : FGs s x0 P) {i : Nat} (hi : i < P.length) : FG s x0 (gth (gsOf P) i) (pth P i).2 := by
  rw [gth_of hi]; exact h.fg _ (by rw [pth_eq P i hi]; exact List.getElem_mem _)
theorem kept_le (l : List FSpec) : (keptF l).length ≤ l.length := List.length_filter_le _ _
end Go.Proofs.YtpobhbdomldecaaGreatDoor
namespace Go.Proofs.YtpobhbdomldecaaGreatDoor
open Go.RowKit
set_option linter.unusedSimpArgs false
set_option linter.unusedVariables false
def putB (w : World) (t : Nat) (y : Obj) : World := { w with heap := w.heap.setIfInBounds t y }
theorem putB_ne {w : World} {t k : Nat} {y : Obj} (h : k ≠ t) : (putB w t y).heap[k]? = w.heap[k]? := by
  show (w.heap.setIfInBounds t y)[k]? = _
  rw [Array.getElem?_setIfInBounds_ne (fun e => h e.symm)]
theorem putB_size (w : World) (t : Nat) (y : Obj) : (putB w t y).heap.size = w.heap.size := Array.size_setIfInBounds
theorem putB_at {w : World} {t : Nat} {y x : Obj} (h : (putB w t y).heap[t]? = some x) : x = y := by
  have h' : (w.heap.setIfInBounds t y)[t]? = some x := h
  by_cases hl : t < w.heap.size
  · rw [Array.getElem?_setIfInBounds_self_of_lt hl] at h'; cases h'; rfl
  · rw [Array.getElem?_eq_none (by rw [Array.size_setIfInBounds]; omega)] at h'; cases h'
theorem keep_putB {B t : Nat} {w w' : World} (hb : Below w.heap.size w w') (hB : B ≤ w.heap.size) (ht : B ≤ t) (y : Obj) : Keep8 B (putB w t y) (putB w' t y) := by
  refine ⟨by rw [putB_size]; exact hB, by rw [putB_size, putB_size]; exact hb.size, fun k hk => ?_, fun k x hx hn => ?_⟩
  · rw [putB_ne (by omega), putB_ne (by omega)]; exact hb.block k (by omega)
  · by_cases e : k = t
    · subst e
      have hl : k < w.heap.size := by have := lt_of_block hx; rw [putB_size] at this; exact this
      have := putB_at hx
      subst this
      show (w'.heap.setIfInBounds k x)[k]? = some x
      rw [Array.getElem?_setIfInBounds_self_of_lt (Nat.lt_of_lt_of_le hl hb.size)]
    · rw [putB_ne e] at hx ⊢
      rw [hb.block k (lt_of_block hx)]; exact hx
def FIT (B t : Nat) (w : World) (v : FVal) (f : FSpec) : Prop := B ≤ w.heap.size ∧ B ≤ t ∧ ∀ y, FSem B (putB w t y) v f
theorem FIT.below {B t : Nat} {w w' : World} {v : FVal} {f : FSpec} (h : FIT B t w v f) (hb : Below w.heap.size w w') : FIT B t w' v f :=
  ⟨Nat.le_trans h.1 hb.size, h.2.1, fun y => (h.2.2 y).later (keep_putB hb h.1 h.2.1 y)⟩
def CellOff (B t : Nat) (w : World) (b o : Nat) (x : Value) : Prop := CellAt B w b o x ∧ b ≠ t
theorem CellOff.below {B t : Nat} {w w' : World} {b o : Nat} {x : Value} (h : CellOff B t w b o x) (hb : Below w.heap.size w w') : CellOff B t w' b o x := ⟨h.1.below hb, h.2⟩
def StrsOff (B t : Nat) (w : World) (a : Option Addr) (l : List ByteArray) : Prop := ∀ i, i < len l → ∃ b off, a = some ⟨b, off, none⟩ ∧ CellOff B t w b (off + i) (.string (sth l i))
theorem StrsOff.below {B t : Nat} {w w' : World} {a : Option Addr} {l : List ByteArray} (h : StrsOff B t w a l) (hb : Below w.heap.size w w') : StrsOff B t w' a l := fun i hi => by
  obtain ⟨b, off, e, hc⟩ := h i hi; exact ⟨b, off, e, hc.below hb⟩
section
variable {B t : Nat} {w : World}
end
end Go.Proofs.YtpobhbdomldecaaGreatDoor
namespace Go.Proofs.YtpobhbdomldecaaGreatDoor
open Go.RowKit
set_option linter.unusedSimpArgs false
set_option linter.unusedVariables false
abbrev CP := Nat → Nat → Value → Prop
def StrsC (C : CP) (a : Option Addr) (l : List ByteArray) : Prop := ∀ i, i < len l → ∃ b off, a = some ⟨b, off, none⟩ ∧ C b (off + i) (.string (sth l i))
theorem StrsC.imp {C D : CP} (h : ∀ b o x, C b o x → D b o x) {a : Option Addr} {l : List ByteArray} (hs : StrsC C a l) : StrsC D a l := fun i hi => by
  obtain ⟨b, off, e, hc⟩ := hs i hi; exact ⟨b, off, e, h _ _ _ hc⟩
structure RevCl (C : CP) (b o : Nat) (d : RevD) : Prop where
  c0 : C b o (.int .u64 d.pos)
  c1 : C b (o + 1) (.int .u64 d.L)
  c2 : C b (o + 2) (.bool d.signed)
  c3 : C b (o + 3) (.int .u64 d.idx)
  c4 : ∃ a c, C b (o + 4) (.slice a (len d.ws) c) ∧ StrsC C a d.ws
  c5 : ∃ a c, C b (o + 5) (.slice a (len d.ps) c) ∧ StrsC C a d.ps
  c6 : C b (o + 6) (.string d.root)
  c7 : C b (o + 7) (.int .u64 d.wt)
  c8 : C b (o + 8) (.int .u64 d.first)
  c9 : C b (o + 9) (.int .u64 d.life)
  c10 : C b (o + 10) (.int .u64 d.keys)
theorem RevCl.imp {C D : CP} (h : ∀ b o x, C b o x → D b o x) {b o : Nat} {d : RevD} (k : RevCl C b o d) : RevCl D b o d := by
  obtain ⟨a4, k4, h4, s4⟩ := k.c4
  obtain ⟨a5, k5, h5, s5⟩ := k.c5
  exact ⟨h _ _ _ k.c0, h _ _ _ k.c1, h _ _ _ k.c2, h _ _ _ k.c3, ⟨a4, k4, h _ _ _ h4, s4.imp h⟩, ⟨a5, k5, h _ _ _ h5, s5.imp h⟩, h _ _ _ k.c6, h _ _ _ k.c7, h _ _ _ k.c8, h _ _ _ k.c9, h _ _ _ k.c10⟩
def RvsC (C : CP) (a : Option Addr) (l : List RevD) : Prop := ∀ i, i < len l → ∃ b off, a = some ⟨b, off, none⟩ ∧ RevCl C b (off + i * 11) (lth l i)
theorem RvsC.imp {C D : CP} (h : ∀ b o x, C b o x → D b o x) {a : Option Addr} {l : List RevD} (k : RvsC C a l) : RvsC D a l := fun i hi => by
  obtain ⟨b, off, e, hc⟩ := k i hi; exact ⟨b, off, e, hc.imp h⟩
def NoRow (t : Nat) (w : World) : Prop := ∃ cs T fr, w.heap[t]? = some (.cells cs T fr) ∧ T ≠ 183
theorem NoRow.lt {t : Nat} {w : World} (h : NoRow t w) : t < w.heap.size := by obtain ⟨cs, T, fr, h1, _⟩ := h; exact lt_of_block h1
theorem NoRow.below {t : Nat} {w w' : World} (h : NoRow t w) (hb : Below w.heap.size w w') : NoRow t w' := by
  obtain ⟨cs, T, fr, h1, h2⟩ := h; exact ⟨cs, T, fr, (hb.block _ (lt_of_block h1)).trans h1, h2⟩
theorem NoRow.ne {t g : Nat} {w : World} {l : List FVal} (h : NoRow t w) (hF : FRow w g l) : g ≠ t := fun e => by
  subst e
  obtain ⟨cs, T, fr, h1, h2⟩ := h
  obtain ⟨_, cur, h3⟩ := hF
  rw [h1] at h3; cases h3; exact h2 rfl
section
variable {B t : Nat} {w : World}
end
end Go.Proofs.YtpobhbdomldecaaGreatDoor
namespace Go.Proofs.YtpobhbdomldecaaGreatDoor
open Go.RowKit
set_option linter.unusedSimpArgs false
set_option linter.unusedVariables false
theorem catB_size_le {α : Type} (f : α → ByteArray) (M : Nat) : ∀ l : List α, (∀ x ∈ l, (f x).size ≤ M) → (catB (l.map f)).size ≤ l.length * M
  | [], _ => by simp [catB]
  | x :: r, h => by
    rw [List.map_cons, catB, ByteArray.size_append, List.length_cons, Nat.succ_mul]
    have h1 := h x (List.mem_cons_self ..)
    have h2 := catB_size_le f M r (fun y hy => h y (List.mem_cons_of_mem _ hy))
    omega
theorem layP_size (fs : List FSpec) (M : Nat) (h : ∀ f ∈ fs, f.key.size ≤ 1 ∧ f.bytes.size ≤ M) : (layP fs).size ≤ 9 + fs.length * (M + 10) := by
  unfold layP
  rw [ByteArray.size_append]
  have h1 : (mapP (keptF fs).length).size ≤ 9 := laidP_len 4 _ ByteArray.empty
  have h2 := catB_size_le fieldP (M + 10) (keptF fs) (fun f hf => by
    obtain ⟨h3, h4⟩ := h f (List.mem_filter.1 hf).1
    unfold fieldP
    rw [ByteArray.size_append]
    have h5 : (strP f.key).size ≤ 9 + f.key.size := laidP_len 2 _ _
    omega)
  have h3 := Nat.mul_le_mul_right (M + 10) (kept_le fs)
  omega
theorem numP_size (n : Int) : (numP n).size ≤ 9 := laidP_len 0 _ ByteArray.empty
theorem may_all {fs : List FSpec} (h : allMay fs = true) : ∀ f ∈ fs, f.may = true := List.all_eq_true.1 h
theorem partSz {root : ByteArray} {weight first life keys : Int} (h : allMay (partSpecs root weight first life keys) = true) : (layP (partSpecs root weight first life keys)).size ≤ 300 := by
  have hr : root.size = 32 := of_decide_eq_true (may_all h ⟨⟨#[114]⟩, true, false, decide (root.size = 32), binP root⟩ (by unfold partSpecs; simp))
  have hb := binP_len root
  refine Nat.le_trans (layP_size _ 41 fun f hf => ?_) (show 9 + 5 * 51 ≤ 300 by decide)
  unfold partSpecs at hf
  simp only [List.mem_cons, List.not_mem_nil, or_false] at hf
  rcases hf with rfl | rfl | rfl | rfl | rfl
  · exact ⟨Nat.le_refl _, Nat.le_trans (numP_size _) (by decide)⟩
  · exact ⟨Nat.le_refl _, Nat.le_trans (numP_size _) (by decide)⟩
  · exact ⟨Nat.le_refl _, Nat.le_trans (numP_size _) (by decide)⟩
  · exact ⟨Nat.le_refl _, by show (binP root).size ≤ 41; omega⟩
  · exact ⟨Nat.le_refl _, Nat.le_trans (numP_size _) (by decide)⟩
end Go.Proofs.YtpobhbdomldecaaGreatDoor
namespace Go.Proofs.YtpobhbdomldecaaGreatDoor
open Go.RowKit
set_option linter.unusedSimpArgs false
set_option linter.unusedVariables false
def psp (r : Prt) : List FSpec := partSpecs r.root r.wt r.first r.life r.keys
def pbs (r : Prt) : ByteArray := layP (psp r)
theorem pmay_eq (r : Prt) : allMay (psp r) = decide (r.root.size = 32) := may_part _ _ _ _ _
theorem pbs_size {r : Prt} (h : allMay (psp r) = true) : (pbs r).size ≤ 300 := partSz h
def elP15 (l : List Prt) : List ByteArray := l.map pbs
theorem elP15_len (l : List Prt) : len (elP15 l) = len l := by unfold elP15; rw [len_eq, len_eq, List.length_map]
theorem elP15_at (l : List Prt) (i : Nat) (h : i < len l) : tth (elP15 l) i = pbs (pnth l i) := by
  have h2 : i < l.length := h
  rw [pnth_eq l i h2]
  unfold tth elP15
  rw [List.getD_eq_getElem?_getD, List.getElem?_map, List.getElem?_eq_getElem h2]
  rfl
theorem elP15_snoc (l : List Prt) (m : Nat) (h : m < len l) : elP15 (l.take (m + 1)) = elP15 (l.take m) ++ [pbs (pnth l m)] := by
  unfold elP15
  have h2 : m < l.length := h
  rw [List.take_succ_eq_append_getElem h2, List.map_append, pnth_eq l m h2]
  rfl
theorem check_may {l : List Prt} (h : checkOf l = 0) {i : Nat} (hi : i < len l) : allMay (psp (pnth l i)) = true := by
  have h1 := lackB_none (check_zero h).2.2.1 i hi
  unfold lacksB at h1
  rw [pmay_eq]
  simp at h1
  simp [h1.1]
theorem elP15_size {l : List Prt} (h : checkOf l = 0) : ∀ i, i < len (elP15 l) → (tth (elP15 l) i).size ≤ 300 := fun i hi => by
  rw [elP15_len] at hi
  rw [elP15_at l i hi]
  exact pbs_size (check_may h hi)
def elemsP (l : List Prt) : List ByteArray := if checkOf l = 0 then elP15 l else []
def rootP (l : List Prt) : ByteArray := if checkOf l = 0 then treeR (elP15 l) else ⟨#[]⟩
def ElemsIs (l : List Prt) (w : World) (e : Ending) (w' : World) : Prop := ∃ v, e = .returned (.tuple #[v, .int .i64 (checkOf l)]) ∧ TextsAre (elemsP l) v w' ∧ Below w.heap.size w w'
theorem pnth_rep (n i : Nat) (p : Prt) (h : i < n) : pnth (List.replicate n p) i = p := by
  rw [pnth_eq _ i (by rw [List.length_replicate]; exact h), List.getElem_replicate]
theorem len_rep {α : Type} (n : Nat) (p : α) : len (List.replicate n p) = n := by rw [len_eq, List.length_replicate]
theorem wsum_rep (n : Nat) (p : Prt) : ∀ k, k ≤ n → wsum (List.replicate n p) k = k * p.wt
  | 0, _ => by simp [wsum]
  | k + 1, h => by
    show wsum (List.replicate n p) k + (pnth (List.replicate n p) k).wt = _
    rw [wsum_rep n p k (by omega), pnth_rep n k p (by omega)]
    rw [Int.natCast_add, Int.add_mul]
    simp
theorem lack_rep (n : Nat) (p : Prt) (h : lacksB p = false) : lackB (List.replicate n p) = false := lackB_false (fun j hj => by
  rw [len_rep] at hj
  rw [pnth_rep n j p hj]; exact h)
end Go.Proofs.YtpobhbdomldecaaGreatDoor
namespace Go.Proofs.YtpobhbdomldecaaGreatDoor
open Go.RowKit
set_option linter.unusedSimpArgs false
set_option linter.unusedVariables false
structure Hdr where
  rnd : Int
  prev : ByteArray
  txns : ByteArray
  seed : ByteArray
abbrev Hdr.val (r : Hdr) : Value := .agg #[.int .u64 r.rnd, .string r.prev, .string r.txns, .string r.seed]
def Hdr.cells (r : Hdr) : List Value := [.int .u64 r.rnd, .string r.prev, .string r.txns, .string r.seed]
theorem Hdr.cells_len (r : Hdr) : r.cells.length = 4 := rfl
theorem Hdr.cells_one (r : Hdr) : ∀ u ∈ r.cells, u.oneCell' = true := by intro u hu; simp only [Hdr.cells, List.mem_cons, List.not_mem_nil, or_false] at hu; rcases hu with rfl | rfl | rfl | rfl <;> rfl
def Hdr.zero : Hdr := ⟨0, ByteArray.empty, ByteArray.empty, ByteArray.empty⟩
def hnth (l : List Hdr) (i : Nat) : Hdr := l.getD i Hdr.zero
theorem hnth_eq (l : List Hdr) (i : Nat) (h : i < l.length) : hnth l i = l[i] := by unfold hnth; rw [List.getD_eq_getElem?_getD, List.getElem?_eq_getElem h]; rfl
structure HdrAt (w : World) (b o : Nat) (r : Hdr) : Prop where
  c0 : w.cell? ⟨b, o, none⟩ = some (.int .u64 r.rnd)
  c1 : w.cell? ⟨b, o + 1, none⟩ = some (.string r.prev)
  c2 : w.cell? ⟨b, o + 2, none⟩ = some (.string r.txns)
  c3 : w.cell? ⟨b, o + 3, none⟩ = some (.string r.seed)
theorem HdrAt.below {w w' : World} {b o : Nat} {r : Hdr} (h : HdrAt w b o r) (hb : Below w.heap.size w w') : HdrAt w' b o r := by
  have hl := lt_of_cell h.c0
  have e : ∀ q, w'.cell? ⟨b, q, none⟩ = w.cell? ⟨b, q, none⟩ := fun q => hb.cell (p := ⟨b, q, none⟩) hl
  obtain ⟨c0, c1, c2, c3⟩ := h
  constructor <;> (rw [e]; assumption)
def Hdrs (w : World) (a : Option Addr) (l : List Hdr) : Prop := ∀ i, i < len l → ∃ b off, a = some ⟨b, off, none⟩ ∧ HdrAt w b (off + i * 4) (hnth l i)
theorem Hdrs.nil (w : World) (a : Option Addr) : Hdrs w a [] := fun i hi => absurd hi (by simp [len])
theorem Hdrs.below {w w' : World} {a : Option Addr} {l : List Hdr} (h : Hdrs w a l) (hb : Below w.heap.size w w') : Hdrs w' a l := fun i hi => by
  obtain ⟨b, off, rfl, hc⟩ := h i hi
  exact ⟨b, off, rfl, hc.below hb⟩
theorem Hdrs.drew {w w' : World} {a : Option Addr} {l : List Hdr} (h : Hdrs w a l) (hb : Drew w w') : Hdrs w' a l := h.below (hb.below _)
theorem Hdrs.take {w : World} {a : Option Addr} {l : List Hdr} (h : Hdrs w a l) (k : Nat) : Hdrs w a (l.take k) := fun i hi => by
  have hi2 : i < l.length ∧ i < k := by simp only [len, List.length_take] at hi; omega
  have hi3 : i < (l.take k).length := hi
  have e : hnth (l.take k) i = hnth l i := by rw [hnth_eq l i hi2.1, hnth_eq _ i hi3, List.getElem_take]
  rw [e]; exact h i hi2.1
theorem Hdrs.drop {w : World} {b off : Nat} {l : List Hdr} (h : Hdrs w (some ⟨b, off, none⟩) l) (k : Nat) : Hdrs w (some ⟨b, off + k * 4, none⟩) (l.drop k) := fun i hi => by
  have hi2 : k + i < l.length := by simp only [len, List.length_drop] at hi; omega
  have hi3 : i < (l.drop k).length := hi
  have e : hnth (l.drop k) i = hnth l (k + i) := by rw [hnth_eq l _ hi2, hnth_eq _ i hi3, List.getElem_drop]
  obtain ⟨b', off', e2, hc⟩ := h (k + i) hi2
  cases e2
  exact ⟨b, _, rfl, by rw [e, show off + k * 4 + i * 4 = off + (k + i) * 4 by omega]; exact hc⟩
theorem Hdrs.own {w : World} {base e n : Nat} {v : Value} {l : List Hdr} (h : w.ownsRow base e 4 v n (l.flatMap Hdr.cells)) : ∃ a cap, v = .slice a (len l) cap ∧ Hdrs w a l ∧ len l ≤ cap := by
  have hn : len l = n := by have := h.1; rw [flat_length Hdr.cells 4 Hdr.cells_len] at this; rw [len_eq]; omega
  obtain ⟨h1, h2⟩ := h
  rcases h2 with ⟨rfl, h2⟩ | ⟨g, cap, cur, rfl, hg, hh, hc1, hc2, hc3, hc4⟩
  · obtain rfl : l = [] := List.eq_nil_of_length_eq_zero (by rw [← len_eq]; omega)
    exact ⟨none, 0, rfl, Hdrs.nil _ _, Nat.le_refl _⟩
  · refine ⟨some ⟨g, 0, none⟩, cap, by rw [hn], fun i hi => ⟨g, 0, rfl, ?_⟩, by omega⟩
    have hown : w.ownsRow base e 4 (.slice (some ⟨g, 0, none⟩) n cap) n (l.flatMap Hdr.cells) := ⟨h1, .inr ⟨g, cap, cur, rfl, hg, hh, hc1, hc2, hc3, hc4⟩⟩
    have key : ∀ r, r < 4 → w.cell? ⟨g, 0 + i * 4 + r, none⟩ = (hnth l i).cells[r]? := fun r hr => by
      have := hown.cellAt (i * 4 + r) (by rw [← hn]; omega)
      rw [Nat.zero_add, this, flat_get Hdr.cells 4 Hdr.cells_len l i r hi hr, hnth_eq l i hi]
    exact ⟨key 0 (by decide), key 1 (by decide), key 2 (by decide), key 3 (by decide)⟩
theorem Hdrs.block {w : World} {g : Nat} {l : List Hdr} {t : TypeId} {fr : Nat × Nat} (h : w.heap[g]? = some (.cells (l.flatMap Hdr.cells).toArray t fr)) : Hdrs w (some ⟨g, 0, none⟩) l := fun i hi => ⟨g, 0, rfl, by
  have key : ∀ r, r < 4 → w.cell? ⟨g, 0 + i * 4 + r, none⟩ = (hnth l i).cells[r]? := fun r hr => by
    rw [Nat.zero_add, block_cell h, List.getElem?_toArray, flat_get Hdr.cells 4 Hdr.cells_len l i r hi hr, hnth_eq l i hi]
  exact ⟨key 0 (by decide), key 1 (by decide), key 2 (by decide), key 3 (by decide)⟩⟩
structure Hdr.Ok (r : Hdr) : Prop where
  r0 : U64i r.rnd
  p1 : r.prev.size ≤ 1000000
  t1 : r.txns.size ≤ 1000000
  s1 : r.seed.size ≤ 1000000
theorem Hdr.zero_ok : Hdr.zero.Ok := ⟨⟨by decide, by decide⟩, by decide, by decide, by decide⟩
end Go.Proofs.YtpobhbdomldecaaGreatDoor
namespace Go.Proofs.YtpobhbdomldecaaGreatDoor
open Go.RowKit
set_option linter.unusedSimpArgs false
set_option linter.unusedVariables false
structure PT (B : Nat) (w : World) : Prop where
  p : PTab B w
  s : B ≤ w.heap.size
theorem PT.below {B : Nat} {w w' : World} (h : PT B w) (hb : Below w.heap.size w w') : PT B w' := ⟨h.p.keep hb h.s, Nat.le_trans h.s hb.size⟩
end Go.Proofs.YtpobhbdomldecaaGreatDoor
namespace Go.Proofs.YtpobhbdomldecaaGreatDoor
open Go.RowKit
set_option linter.unusedSimpArgs false
set_option linter.unusedVariables false
def BoxL (w : World) (xb : Nat) (a : Option Addr) (n cap : Nat) : Prop := w.heap[xb]? = some (.cells #[.slice a n cap] 22 (0, 0))
theorem BoxL.below {w w' : World} {xb : Nat} {a : Option Addr} {n cap : Nat} (h : BoxL w xb a n cap) (hb : Below w.heap.size w w') : BoxL w' xb a n cap := (hb.block _ (lt_of_block h)).trans h
def BoxT (w : World) (xb : Nat) (a : Option Addr) (n cap : Nat) : Prop := w.heap[xb]? = some (.cells #[.slice a n cap] 36 (0, 0))
theorem BoxT.below {w w' : World} {xb : Nat} {a : Option Addr} {n cap : Nat} (h : BoxT w xb a n cap) (hb : Below w.heap.size w w') : BoxT w' xb a n cap := (hb.block _ (lt_of_block h)).trans h
end Go.Proofs.YtpobhbdomldecaaGreatDoor
namespace Go.Proofs.YtpobhbdomldecaaGreatDoor
open Go.RowKit
set_option linter.unusedSimpArgs false
set_option linter.unusedVariables false
theorem own_at {base n c : Nat} {w : World} {a : Option Addr} {l : List ByteArray} (h : w.ownsRow base 9 1 (.slice a n c) n (l.map Value.string)) (m : Nat) (hm : m < n) : ∃ g, a = some ⟨g, 0, none⟩ ∧ base ≤ g ∧ w.cell? ⟨g, m, none⟩ = some (.string (tth l m)) ∧ w.frozen? ⟨g, m, none⟩ = false ∧ g < w.heap.size := by
  have hn : l.length = n := by have := h.1; simpa using this
  rcases h.2 with ⟨hz, h9⟩ | ⟨g9, cap, cur, hv, hg, hh, h1, h2, h3, h4⟩
  · omega
  · cases hv
    refine ⟨g9, rfl, hg, ?_, block_free hh m, lt_of_block hh⟩
    have h5 := h.cellAt m (by omega)
    have hi2 : m < l.length := by omega
    rw [h5, List.getElem?_map, List.getElem?_eq_getElem hi2, tth_eq l m hi2]; rfl
end Go.Proofs.YtpobhbdomldecaaGreatDoor
namespace Go.Proofs.YtpobhbdomldecaaGreatDoor
open Go.RowKit
set_option linter.unusedSimpArgs false
set_option linter.unusedVariables false
def Apart (u v : Value) : Prop := ∀ k, u.ownBlock = some k → v.ownBlock ≠ some k
theorem Apart.symm {u v : Value} (h : Apart u v) : Apart v u := fun k h1 h2 => h k h2 h1
theorem Apart.keep {w w1 : World} {u v : Value} {base e size n : Nat} {xs : List Value} (h : Apart u v) (ho : w.ownsRow base e size u n xs) (hg : w.grownBy w1 v.ownBlock) : w1.ownsRow base e size u n xs :=
  ho.kept hg (by
    cases hp : Value.ownBlock u with
    | none => exact .inl rfl
    | some k => exact .inr (fun e => h k hp e.symm))
end Go.Proofs.YtpobhbdomldecaaGreatDoor
namespace Go.Proofs.YtpobhbdomldecaaGreatDoor
open Go.RowKit
set_option linter.unusedSimpArgs false
set_option linter.unusedVariables false
def Ref9At (els : List ByteArray) (b : Nat) (w : World) : Prop := ∃ a c, w.heap[b]? = some (.cells #[.slice a (len els) c] 157 (0, 0)) ∧ Txts w a els
theorem Ref9At.below {els : List ByteArray} {b : Nat} {w w' : World} (h : Ref9At els b w) (hb : Below w.heap.size w w') : Ref9At els b w' := by
  obtain ⟨a, c, h1, h2⟩ := h
  exact ⟨a, c, (hb.block _ (lt_of_block h1)).trans h1, h2.below hb⟩
end Go.Proofs.YtpobhbdomldecaaGreatDoor
namespace Go.Proofs.YtpobhbdomldecaaGreatDoor
open Go.RowKit
set_option linter.unusedSimpArgs false
set_option linter.unusedVariables false
theorem own_setk {base n c g m k : Nat} {w : World} {e : TypeId} {xs : List Value} {u : Value} (h : w.ownsRow base e k (.slice (some ⟨g, 0, none⟩) n c) n xs) : (w.setCell ⟨g, m, none⟩ u).ownsRow base e k (.slice (some ⟨g, 0, none⟩) n c) n (xs.set m u) := by
  refine ⟨by rw [List.length_set]; exact h.1, ?_⟩
  rcases h.2 with ⟨hz, _⟩ | ⟨g9, cap, cur, hv, hg, hh, h1, h2, h3, h4⟩
  · cases hz
  · cases hv
    refine Or.inr ⟨g, c, cur.setIfInBounds m u, rfl, hg, block_setCell hh u, h1, h2, by rw [Array.size_setIfInBounds]; exact h3, ?_⟩
    rw [Array.toList_setIfInBounds, ← h4, List.take_set]
theorem flat_set {α β : Type} (f : α → List β) (k : Nat) (hf : ∀ x, (f x).length = k) {u : β} {x' : α} : ∀ (l : List α) (i j : Nat) (hi : i < l.length), j < k → f x' = (f l[i]).set j u → (l.flatMap f).set (i * k + j) u = (l.set i x').flatMap f
  | x :: l, 0, j, _, hj, hx => by
    simp only [List.flatMap_cons, Nat.zero_mul, Nat.zero_add, List.getElem_cons_zero, List.set_cons_zero] at hx ⊢
    rw [List.set_append_left _ _ (by rw [hf]; exact hj), hx]
  | x :: l, i + 1, j, hi, hj, hx => by
    simp only [List.flatMap_cons, List.getElem_cons_succ, List.set_cons_succ] at hx ⊢
    rw [List.set_append_right _ _ (by rw [hf, Nat.add_mul]; omega), hf, show (i + 1) * k + j - k = i * k + j by rw [Nat.add_mul]; omega]
    rw [flat_set f k hf l i j (by simpa using hi) hj hx]
def OwnH (base g c : Nat) (L : List Hdr) (w : World) : Prop := w.ownsRow base 33 4 (.slice (some ⟨g, 0, none⟩) (len L) c) (len L) (L.flatMap Hdr.cells)
theorem OwnH.below {base g c : Nat} {L : List Hdr} {w w' : World} (h : OwnH base g c L w) (hb : Below w.heap.size w w') : OwnH base g c L w' := own_below h hb
theorem OwnH.set {base g c : Nat} {L : List Hdr} {w : World} (h : OwnH base g c L w) {i j : Nat} {u : Value} {r' : Hdr} (hi : i < len L) (hj : j < 4) (hr : r'.cells = (hnth L i).cells.set j u) : OwnH base g c (L.set i r') (w.setCell ⟨g, i * 4 + j, none⟩ u) := by
  unfold OwnH
  have hl : len (L.set i r') = len L := by rw [len_eq, len_eq, List.length_set]
  rw [hl, ← flat_set Hdr.cells 4 Hdr.cells_len L i j hi hj (by rw [hr, hnth_eq L i hi])]
  exact own_setk h
theorem OwnH.lt {base g c : Nat} {L : List Hdr} {w : World} (h : OwnH base g c L w) : base ≤ g ∧ g < w.heap.size := h.1 |> fun _ => World.ownsRow.lt h g rfl
structure HCells (w : World) (g i : Nat) (r : Hdr) : Prop where
  c0 : w.cell? ⟨g, i * 4, none⟩ = some (.int .u64 r.rnd)
  c1 : w.cell? ⟨g, i * 4 + 1, none⟩ = some (.string r.prev)
  c2 : w.cell? ⟨g, i * 4 + 2, none⟩ = some (.string r.txns)
  c3 : w.cell? ⟨g, i * 4 + 3, none⟩ = some (.string r.seed)
  f : ∀ o, w.frozen? ⟨g, o, none⟩ = false
theorem OwnH.at {base g c : Nat} {L : List Hdr} {w : World} (h : OwnH base g c L w) {i : Nat} (hi : i < len L) : HCells w g i (hnth L i) := by
  obtain ⟨a, cap, e, hh, _⟩ := Hdrs.own h
  cases e
  obtain ⟨b, off, e, ⟨h0, h1, h2, h3⟩⟩ := hh i hi
  cases e
  rw [Nat.zero_add] at h0 h1 h2 h3
  rcases h.2 with ⟨hz, _⟩ | ⟨g9, cap, cur, hv, hg, hb, _⟩
  · cases hz
  · cases hv
    exact ⟨h0, h1, h2, h3, block_free hb⟩
end Go.Proofs.YtpobhbdomldecaaGreatDoor
namespace Go.Proofs.YtpobhbdomldecaaGreatDoor
open Go.RowKit
set_option linter.unusedSimpArgs false
set_option linter.unusedVariables false
set_option maxRecDepth 100000 in
theorem make_szn (k : Nat) (hk : k ≤ 100000) : ∃ cs : Array Value, (∀ W : World, (Instr.makeSlice 36 (.int .i64 (k : Nat)) (.int .i64 (k : Nat))).run Tryz.prog W = .ok (.slice (some ⟨W.heap.size, 0, none⟩) k k) (W.alloc (.cells cs 9))) ∧ cs.toList = List.replicate k (.string ⟨#[]⟩) := by
  obtain ⟨i0, hi, hz0, hz1, hz2⟩ := info_parts info_str
  have hr := fun W => run_make (P := Tryz.prog) W 36 9 i0 (.string ⟨#[]⟩) Tryz.underlying36 hi hz0 .i64 .i64 k k (by omega) (Int.le_refl _) (by rw [hz2]; omega) (by omega)
  refine ⟨_, hr, ?_⟩
  rw [hz1]
  show (madeCells #[.string ⟨#[]⟩] (k * 1)).toList = _
  rw [toList_madeCells_one, Nat.mul_one]
theorem take_lenP (l : List Prt) : l.take (len l) = l := by rw [len_eq]; exact List.take_length
structure PePr (l : List Prt) (w wr : World) (g m : Nat) : Prop where
  b : Below w.heap.size w wr
  o : wr.ownsRow w.heap.size 9 1 (.slice (some ⟨g, 0, none⟩) (len l) (len l)) (len l) ((elP15 (l.take m) ++ List.replicate (len l - m) (⟨#[]⟩ : ByteArray)).map Value.string)
theorem PePr.start {l : List Prt} {w wr : World} {cs : Array Value} (hn : len l ≤ 100000) (hb : Below w.heap.size w wr) (h : cs.toList = List.replicate (len l) (.string ⟨#[]⟩)) : PePr l w (wr.alloc (.cells cs 9)) wr.heap.size 0 :=
  have hs : cs.size = len l := by rw [← Array.length_toList, h, List.length_replicate]
  ⟨balloc hb _, ⟨by simp [elP15], .inr ⟨wr.heap.size, len l, cs, rfl, hb.size, heap_alloc_new _ _, Nat.le_refl _, by unfold maxLen; omega, by rw [hs, Nat.mul_one], by rw [h]; simp [elP15]⟩⟩⟩
theorem PePr.put {l : List Prt} {w wr : World} {g m : Nat} (h : PePr l w wr g m) (hm : m < len l) : (wr.setCell ⟨g, m, none⟩ (.string (pbs (pnth l m)))).ownsRow w.heap.size 9 1 (.slice (some ⟨g, 0, none⟩) (len l) (len l)) (len l) ((elP15 (l.take (m + 1)) ++ List.replicate (len l - (m + 1)) (⟨#[]⟩ : ByteArray)).map Value.string) := by
  have h1 := own_setk (m := m) (u := .string (pbs (pnth l m))) h.o
  have e : ((elP15 (l.take m)).map Value.string).length = m := by
    rw [List.length_map]; show len (elP15 (l.take m)) = m; rw [elP15_len, len_eq, List.length_take]; rw [len_eq] at hm; omega
  rw [List.map_append, List.map_replicate, List.set_append_right _ _ (by omega), e, Nat.sub_self, show len l - m = (len l - (m + 1)) + 1 by omega, List.replicate_succ, List.set_cons_zero] at h1
  rw [elP15_snoc l m hm, List.append_assoc, List.map_append, List.map_append, List.map_replicate]
  exact h1
set_option maxRecDepth 100000 in
set_option maxHeartbeats 4000000 in
theorem pelements_any (B : Nat) (l : List Prt) (a : Option Addr) (cap : Nat) (w : World) (ht : PT B w) (hc : Prts w a l) (ho : ∀ i, (pnth l i).Ok) (hn : len l ≤ 100000) :
    Calls Tryz.prog 30 #[.slice a (len l) cap] w (ElemsIs l w) := by
  have HT := Lib.hid ht
  have HC := Lib.hid hc
  have HO := Lib.hid ho
  have HN := Lib.hid hn
  clear ht hc ho hn
  rcases checkOf_two l with hk | hk
  · have HK := Lib.hid hk
    have HE : Hid (elemsP l = elP15 l) := Lib.hid (if_pos hk)
    obtain ⟨cs, hmk, hcs⟩ := make_szn (len l) HN.out
    have HCS := Lib.hid hcs
    have HMK := Lib.hid hmk
    clear hcs hmk hk
    go_enter Tryz.func30, Tryz.ntmps30
    go_wp2_with fail
    refine (check_any a cap l w (by have := HN.out; omega) HC.out HO.out).mono ?_
    rintro e w1 ⟨rfl, hb⟩
    have HB := Lib.hid hb
    rw [HK.out]
    clear hb
    have mk := HMK.out
    go_wp2_with fail
    go_loopg [20] (len l) (fun gg i wr => ∃ m : Nat, gg + m = len l ∧ i = .int .i64 (m : Nat) ∧ Hid (PePr l w wr w1.heap.size m))
    case atStart => exact ⟨0, rfl, rfl, Lib.hid (PePr.start HN.out HB.out HCS.out)⟩
    case round =>
      obtain ⟨m, hm, rfl, HS⟩ := hrel
      by_cases hlt : m < len l
      · obtain ⟨b, off, rfl, ⟨e0, e1, e2, e3, e4⟩⟩ := (HC.out.below HS.out.b) m hlt
        have HRO := Lib.hid (HO.out m)
        have HRM := Lib.hid (check_may HK.out hlt)
        have HRS : Hid ((pnth l m).root.size = 32) := Lib.hid (by have := HRM.out; rw [pmay_eq] at this; exact of_decide_eq_true this)
        obtain ⟨r, hr⟩ : ∃ r, pnth l m = r := ⟨_, rfl⟩
        rw [hr] at e0 e1 e2 e3 e4 HRO HRM HRS
        have HRE := Lib.hid hr
        have b0 : (m : Int) < len l := by omega
        have HLT := Lib.hid hlt
        have HSB := Lib.hid (HS.out.b)
        have HTR := Lib.hid (HT.out.below HS.out.b)
        clear hr hlt
        go_wp2_with fail
        refine (wpart2_any B r.root r.wt r.first r.life r.keys _ (HTR.out.below (balloc (Below.refl _ _) _)).p (by rw [HRS.out]; decide) ⟨HRO.out.wt0, by have := HRO.out.wt1; omega⟩ ⟨HRO.out.fi0, by have := HRO.out.fi1; omega⟩ ⟨HRO.out.li0, by have := HRO.out.li1; omega⟩ ⟨HRO.out.ke0, by have := HRO.out.ke1; omega⟩ (fun h => Nat.le_trans (partSz h) (by decide))).mono ?_
        rintro e w2 ⟨rfl, hb⟩
        rw [show allMay (partSpecs r.root r.wt r.first r.life r.keys) = true from HRM.out, if_pos rfl]
        have HB2 : Hid (Below w.heap.size w w2) := Lib.hid (bnext (balloc HSB.out _) hb)
        have HP2 : Hid (PePr l w w2 w1.heap.size m) := Lib.hid ⟨HB2.out, own_below (HS.out.o.alloc _) hb⟩
        clear hb e0 e1 e2 e3 e4
        obtain ⟨g', hg', _, c0, fz⟩ := own_at HP2.out.o m HLT.out
        cases hg'
        have HNN := HN.out
        go_wp2
        have HP3 := Lib.hid (HP2.out.put HLT.out)
        have HB3 : Hid (Below w.heap.size w (w2.setCell ⟨w1.heap.size, m, none⟩ (.string (pbs (pnth l m))))) := Lib.hid (bset HB2.out HB.out.size _)
        rw [HRE.out] at HP3 HB3
        go_roundg (gk - 1)
        case rel => exact ⟨m + 1, by omega, by go_num, Lib.hid ⟨HB3.out, HP3.out⟩⟩
        case measure => omega
      · obtain rfl : m = len l := by omega
        have b0 : ¬ ((len l : Nat) : Int) < (len l : Nat) := by omega
        have HSO := Lib.hid HS.out.o
        rw [take_lenP, Nat.sub_self, List.replicate_zero, List.append_nil] at HSO
        have HSB := Lib.hid HS.out.b
        go_wp2
        go_ret2
        exact ⟨.slice (some ⟨w1.heap.size, 0, none⟩) (len l) (len l), by rw [HK.out]; rfl, by rw [HE.out]; exact TextsAre.own HSO.out, HSB.out⟩
  · have HK := Lib.hid hk
    have HE : Hid (elemsP l = []) := Lib.hid (if_neg (by rw [hk]; decide))
    clear hk
    go_enter Tryz.func30, Tryz.ntmps30
    go_wp2_with fail
    refine (check_any a cap l w (by have := HN.out; omega) HC.out HO.out).mono ?_
    rintro e w1 ⟨rfl, hb⟩
    have HB := Lib.hid hb
    rw [HK.out]
    clear hb
    go_wp2
    go_ret2
    exact ⟨.slice none 0 0, by rw [HK.out]; rfl, by rw [HE.out]; exact TextsAre.nil _, HB.out⟩
set_option maxRecDepth 100000 in
theorem ptroot_any (B : Nat) (l : List Prt) (a : Option Addr) (cap : Nat) (w : World) (ht : PT B w) (hc : Prts w a l) (ho : ∀ i, (pnth l i).Ok) (hn : len l ≤ 65536) :
    Calls Tryz.prog 32 #[.slice a (len l) cap] w fun e w' => e = .returned (.tuple #[.string (rootP l), .int .i64 (checkOf l)]) ∧ Below w.heap.size w w' := by
  have HN := Lib.hid hn
  have HW := Lib.hid (pelements_any B l a cap w ht hc ho (by omega))
  clear ht hc ho hn
  rcases checkOf_two l with hk | hk
  · have HK := Lib.hid hk
    have HE : Hid (elemsP l = elP15 l) := Lib.hid (if_pos hk)
    have HR : Hid (rootP l = treeR (elP15 l)) := Lib.hid (if_pos hk)
    clear hk
    go_enter Tryz.func32, Tryz.ntmps32
    go_wp2_with fail
    refine HW.out.mono ?_
    rintro e w1 ⟨v, rfl, hv, hb⟩
    rw [HE.out] at hv
    obtain ⟨a9, c9, rfl, hv1, hv2, hv3⟩ := hv
    rw [HK.out]
    have HB := Lib.hid hb
    have HV := Lib.hid hv1
    clear hb hv1 hv2 hv3
    go_wp2_with fail
    refine (build_any (elP15 l) a9 c9 w1 HV.out (by rw [elP15_len]; exact HN.out) (fun i hi => Nat.le_trans (elP15_size HK.out i hi) (by decide))).mono ?_
    rintro e w2 ⟨b, rfl, hs, ht, hb⟩
    have HB2 := Lib.hid (bnext HB.out hb)
    have HT := Lib.hid ht
    clear hs ht hb
    go_wp2_with fail
    refine (root_any (elP15 l) b w2 HT.out).mono ?_
    rintro e w3 ⟨rfl, rfl⟩
    go_wp2
    go_ret2
    exact ⟨by rw [HK.out, HR.out]; rfl, HB2.out⟩
  · have HK := Lib.hid hk
    have HR : Hid (rootP l = ⟨#[]⟩) := Lib.hid (if_neg (by rw [hk]; decide))
    clear hk
    go_enter Tryz.func32, Tryz.ntmps32
    go_wp2_with fail
    refine HW.out.mono ?_
    rintro e w1 ⟨v, rfl, hv, hb⟩
    rw [HK.out]
    have HB := Lib.hid hb
    clear hb hv
    go_wp2
    go_ret2
    exact ⟨by rw [HK.out, HR.out]; rfl, HB.out⟩
end Go.Proofs.YtpobhbdomldecaaGreatDoor
namespace Go.Proofs.YtpobhbdomldecaaGreatDoor
open Go.RowKit
set_option linter.unusedSimpArgs false
set_option linter.unusedVariables false
abbrev setP (w : World) (g o : Nat) (v : Prt) : World :=
  ((((w.setCell ⟨g, o, none⟩ (.string v.root)).setCell ⟨g, o + 1, none⟩ (.int .u64 v.wt)).setCell ⟨g, o + 2, none⟩ (.int .u64 v.first)).setCell ⟨g, o + 3, none⟩ (.int .u64 v.life)).setCell ⟨g, o + 4, none⟩ (.int .u64 v.keys)
structure KnPr (w wr : World) (g m : Nat) : Prop where
  b : Below w.heap.size w wr
  g0 : w.heap.size ≤ g
  h : ∃ cur, wr.heap[g]? = some (.cells cur 53 (0, 0)) ∧ cur.size = 65537 * 5 ∧ ∀ i, i < m → ∀ r, r < 5 → cur[i * 5 + r]? = (prtOf 1).cells[r]?
theorem KnPr.put {w wr : World} {g m : Nat} (h : KnPr w wr g m) (hm : m < 65537) : KnPr w (setP wr g (m * 5) (prtOf 1)) g (m + 1) := by
  obtain ⟨cur, h1, h2, h3⟩ := h.h
  refine ⟨((((h.b.setCell h.g0 _).setCell h.g0 _).setCell h.g0 _).setCell h.g0 _).setCell h.g0 _, h.g0, _, block_setCell (block_setCell (block_setCell (block_setCell (block_setCell h1 _) _) _) _) _, by simpa using h2, fun i hi r hr => ?_⟩
  by_cases e : i = m
  · subst e
    have hs : i * 5 + 4 < cur.size := by omega
    have hr' : r = 0 ∨ r = 1 ∨ r = 2 ∨ r = 3 ∨ r = 4 := by omega
    rcases hr' with rfl | rfl | rfl | rfl | rfl
    · simp only [Nat.add_zero]
      rw [Array.getElem?_setIfInBounds_ne (by omega), Array.getElem?_setIfInBounds_ne (by omega), Array.getElem?_setIfInBounds_ne (by omega), Array.getElem?_setIfInBounds_ne (by omega), Array.getElem?_setIfInBounds_self_of_lt (by omega)]; rfl
    · rw [Array.getElem?_setIfInBounds_ne (by omega), Array.getElem?_setIfInBounds_ne (by omega), Array.getElem?_setIfInBounds_ne (by omega), Array.getElem?_setIfInBounds_self_of_lt (by simp; omega)]; rfl
    · rw [Array.getElem?_setIfInBounds_ne (by omega), Array.getElem?_setIfInBounds_ne (by omega), Array.getElem?_setIfInBounds_self_of_lt (by simp; omega)]; rfl
    · rw [Array.getElem?_setIfInBounds_ne (by omega), Array.getElem?_setIfInBounds_self_of_lt (by simp; omega)]; rfl
    · rw [Array.getElem?_setIfInBounds_self_of_lt (by simp; omega)]; rfl
  · rw [Array.getElem?_setIfInBounds_ne (by omega), Array.getElem?_setIfInBounds_ne (by omega), Array.getElem?_setIfInBounds_ne (by omega), Array.getElem?_setIfInBounds_ne (by omega), Array.getElem?_setIfInBounds_ne (by omega)]
    exact h3 i (by omega) r hr
theorem KnPr.prts {w wr : World} {g : Nat} (h : KnPr w wr g 65537) : Prts wr (some ⟨g, 0, none⟩) (List.replicate 65537 (prtOf 1)) := fun i hi => by
  rw [len_rep] at hi
  obtain ⟨cur, h1, h2, h3⟩ := h.h
  rw [pnth_rep _ _ _ hi]
  have e : ∀ r, r < 5 → wr.cell? ⟨g, 0 + i * 5 + r, none⟩ = (prtOf 1).cells[r]? := fun r hr => by
    rw [block_cell h1, Nat.zero_add]; exact h3 i hi r hr
  exact ⟨g, 0, rfl, e 0 (by decide), e 1 (by decide), e 2 (by decide), e 3 (by decide), e 4 (by decide)⟩
theorem KnPr.cells {w wr : World} {g k m : Nat} (h : KnPr w wr g k) (hm : m < 65537) : (∃ u, wr.cell? ⟨g, m * 5, none⟩ = some u) ∧ (∃ u, wr.cell? ⟨g, m * 5 + 1, none⟩ = some u) ∧ (∃ u, wr.cell? ⟨g, m * 5 + 2, none⟩ = some u) ∧ (∃ u, wr.cell? ⟨g, m * 5 + 3, none⟩ = some u) ∧ (∃ u, wr.cell? ⟨g, m * 5 + 4, none⟩ = some u) ∧ ∀ o, wr.frozen? ⟨g, o, none⟩ = false := by
  obtain ⟨cur, h1, h2, -⟩ := h.h
  have e : ∀ o, o < 65537 * 5 → ∃ u, wr.cell? ⟨g, o, none⟩ = some u := fun o ho => ⟨cur[o]'(by omega), by rw [block_cell h1]; exact Array.getElem?_eq_getElem _⟩
  exact ⟨e _ (by omega), e _ (by omega), e _ (by omega), e _ (by omega), e _ (by omega), fun o => block_free h1 o⟩
set_option maxRecDepth 100000 in
theorem make_p (N : Nat) (hN : N = 65537) : ∃ cs : Array Value, cs.size = 65537 * 5 ∧ ∀ W : World, (Instr.makeSlice 43 (.int .i64 65537) (.int .i64 65537)).run Tryz.prog W = .ok (.slice (some ⟨W.heap.size, 0, none⟩) N N) (W.alloc (.cells cs 53)) := by
  subst hN
  obtain ⟨i0, hi, hz0, hz1, hz2⟩ := info_parts info_prt
  have hr := fun W => run_make (P := Tryz.prog) W 43 53 i0 Prt.zero.val Tryz.underlying43 hi hz0 .i64 .i64 65537 65537 (by omega) (Int.le_refl _) (by rw [hz2]; omega) (by omega)
  refine ⟨_, ?_, hr⟩
  rw [size_madeCells, hz1]
  rfl
theorem KnPr.start {w wr : World} {cs : Array Value} (hb : Below w.heap.size w wr) (h : cs.size = 65537 * 5) : KnPr w (wr.alloc (.cells cs 53)) wr.heap.size 0 :=
  ⟨balloc hb _, hb.size, cs, heap_alloc_new _ _, h, fun i hi => absurd hi (Nat.not_lt_zero _)⟩
def fullX : ByteArray := ⟨(Go.Lib.repeatL [120] 32).toArray⟩
theorem fullX_size : fullX.size = 32 := by decide
theorem pfullx_any (w : World) : Calls Tryz.prog 40 #[.string ⟨#[120]⟩] w fun e w' => e = .returned (.string fullX) ∧ Below w.heap.size w w' := by
  go_enter Tryz.func40, Tryz.ntmps40
  go_wp2_with fail
  refine (Tryz.strings_Repeat ⟨#[120]⟩ 32 _ (by decide) (by decide)).mono ?_
  rintro e w1 ⟨rfl, hb⟩
  go_wp2
  go_ret
  exact ⟨rfl, hb⟩
def oneX : Prt := ⟨fullX, 5, 1, 2, 3⟩
theorem oneX_ok : ∀ i, (pnth [oneX] i).Ok := oks (fun p hp => by
  obtain rfl : p = oneX := by simpa using hp
  exact ⟨by decide, by decide, by decide, by decide, by decide, by decide, by decide, by decide⟩)
theorem oneX_check : checkOf [oneX] = 0 := checkOf_ok (by decide) (by decide) (lackB_false (fun j hj => by
  obtain rfl : j = 0 := by have : len [oneX] = 1 := rfl; omega
  show lacksB oneX = false
  unfold lacksB; rw [show oneX.root = fullX from rfl, fullX_size]; rfl)) (by decide)
theorem txts_oneX {w : World} {b : Nat} {s : ByteArray} {t : TypeId} {fr : Nat × Nat} (h : w.heap[b]? = some (.cells #[.string s] t fr)) : Txts w (some ⟨b, 0, none⟩) [s] := fun i hi => ⟨b, 0, rfl, by
  obtain rfl : i = 0 := by have : len [s] = 1 := rfl; omega
  rw [block_cell h]; rfl⟩
theorem zero_check : checkOf [Prt.zero] = 2 := checkOf_no (fun h => by have := lackB_none h.2.2.1 0 (by decide); revert this; decide)
theorem run_cutP (g n k : Nat) (h : k ≤ n) (w : World) : (Instr.slice 43 (.slice (some ⟨g, 0, none⟩) n n) none (some (.int .i64 (k : Nat))) none).run Tryz.prog w = .ok (.slice (some ⟨g, 0, none⟩) k n) w := by
  simp [go_sem, h]
theorem rep_ok (n : Nat) : ∀ i, (pnth (List.replicate n (prtOf 1)) i).Ok := oks (fun p hp => by rw [List.eq_of_mem_replicate hp]; exact prtOf_ok (by decide) (by decide))
theorem manyC : checkOf (List.replicate 65537 (prtOf 1)) = 2 := checkOf_no (fun h => by have := h.2.1; rw [len_rep] at this; omega)
theorem mostC : checkOf (List.replicate 65536 (prtOf 1)) = 0 := checkOf_ok (by rw [len_rep]; decide) (by rw [len_rep]; decide) (lack_rep _ _ (by unfold lacksB; rw [show (prtOf 1).root = fullP from rfl, fullP_size]; rfl)) (by rw [len_rep, wsum_rep _ _ _ (Nat.le_refl _)]; decide)
theorem manyT : totalOf (List.replicate 65537 (prtOf 1)) = 0 := by unfold totalOf; rw [if_neg (by rw [manyC]; decide)]
theorem mostT : totalOf (List.replicate 65536 (prtOf 1)) = 65536 := by unfold totalOf; rw [if_pos mostC, len_rep, wsum_rep _ _ _ (Nat.le_refl _)]; rfl
abbrev halfX : Prt := prtOf 9223372036854775808
abbrev lessX : Prt := prtOf 9223372036854775807
theorem halfX_ok : halfX.Ok := prtOf_ok (by decide) (by decide)
theorem lessX_ok : lessX.Ok := prtOf_ok (by decide) (by decide)
theorem hh_ok : ∀ i, (pnth [halfX, halfX] i).Ok := oks (fun p hp => by
  simp at hp
  subst hp; exact halfX_ok)
theorem hl_ok : ∀ i, (pnth [halfX, lessX] i).Ok := oks (fun p hp => by
  simp at hp
  rcases hp with rfl | rfl
  · exact halfX_ok
  · exact lessX_ok)
theorem h4_ok : ∀ i, (pnth [halfX, halfX, halfX, halfX] i).Ok := oks (fun p hp => by
  simp at hp
  subst hp; exact halfX_ok)
theorem hh_check : checkOf [halfX, halfX] = 2 := by decide
theorem h4_check : checkOf [halfX, halfX, halfX, halfX] = 2 := by decide
theorem hl_total : totalOf [halfX, lessX] = 18446744073709551615 := by decide
structure HalfAt (g : Nat) (w : World) : Prop where
  a : w.heap[g]? = some (.cells #[.string fullP, .int .u64 9223372036854775808, .int .u64 0, .int .u64 0, .int .u64 0] 53 (0, 0))
  b : w.heap[g + 1]? = some (.cells #[.string fullP, .int .u64 9223372036854775807, .int .u64 0, .int .u64 0, .int .u64 0] 53 (0, 0))
theorem HalfAt.below {g : Nat} {w w' : World} (h : HalfAt g w) (hb : Below w.heap.size w w') : HalfAt g w' :=
  ⟨(hb.block _ (lt_of_block h.a)).trans h.a, (hb.block _ (lt_of_block h.b)).trans h.b⟩
set_option maxRecDepth 100000 in
set_option maxHeartbeats 4000000 in
theorem pknown_law (B : Nat) (w : World) (ht : PT B w) :
    Calls Tryz.prog 7 #[] w fun e w' => e = .returned (.bool true) ∧ Below w.heap.size w w' := by
  have HT := Lib.hid ht
  clear ht
  obtain ⟨N, hN⟩ : ∃ N : Nat, N = 65537 := ⟨_, rfl⟩
  obtain ⟨cs, hcs, mk⟩ := make_p N hN
  have HN := Lib.hid hN
  clear hN
  have HCS := Lib.hid hcs
  clear hcs
  go_enter Tryz.func7, Tryz.ntmps7
  go_wp2_with fail
  refine (pfull_any _).mono ?_
  rintro e w1 ⟨rfl, hb⟩
  have HB := Lib.hid hb
  clear hb
  go_wp2
  go_loopg [3] N (fun gg i wr => ∃ m : Nat, gg + m = N ∧ i = .int .i64 (m : Nat) ∧ Hid (KnPr w wr w1.heap.size m))
  case atStart => exact ⟨0, rfl, rfl, Lib.hid (KnPr.start HB.out HCS.out)⟩
  case round =>
    obtain ⟨m, hm, rfl, HS⟩ := hrel
    by_cases hlt : m < N
    · have b0 : (m : Int) < N := by omega
      have HLT := Lib.hid hlt
      have HNX := Lib.hid (HS.out.put (by have := HN.out; omega))
      obtain ⟨⟨k0, c0⟩, ⟨k1, c1⟩, ⟨k2, c2⟩, ⟨k3, c3⟩, ⟨k4, c4⟩, fz⟩ := HS.out.cells (m := m) (by have := HN.out; omega)
      have HNN : N ≤ 100000 := by have := HN.out; omega
      go_wp2
      go_roundg (gk - 1)
      case rel => exact ⟨m + 1, by omega, by go_num, Lib.hid HNX.out⟩
      case measure => omega
    · obtain rfl : m = N := by omega
      have b0 : ¬ ((m : Nat) : Int) < (m : Nat) := by omega
      have HS' : Hid (KnPr w wr w1.heap.size 65537) := Lib.hid (by have := HS.out; rwa [HN.out] at this)
      clear HS
      obtain ⟨M, hM⟩ : ∃ M : Nat, M = 65536 := ⟨_, rfl⟩
      have HM := Lib.hid hM
      have sl := run_cutP w1.heap.size m M (by rw [hM]; have := HN.out; omega)
      rw [show ((M : Nat) : Int) = 65536 by rw [hM]; rfl] at sl
      have HA : Hid (∀ w9, Below wr.heap.size wr w9 → Calls Tryz.prog 34 #[.slice (some ⟨w1.heap.size, 0, none⟩) m m] w9 fun e w' => e = .returned (.int .i64 2) ∧ Below w9.heap.size w9 w') := Lib.hid (fun w9 hb => by
        have h := check_any (some ⟨w1.heap.size, 0, none⟩) m (List.replicate 65537 (prtOf 1)) w9 (by rw [len_rep]; decide) (HS'.out.prts.below hb) (rep_ok 65537)
        rw [len_rep, ← HN.out, HN.out, manyC] at h
        rw [HN.out]
        exact h)
      have HC6 : Hid (∀ w9, Below wr.heap.size wr w9 → Calls Tryz.prog 34 #[.slice (some ⟨w1.heap.size, 0, none⟩) M m] w9 fun e w' => e = .returned (.int .i64 0) ∧ Below w9.heap.size w9 w') := Lib.hid (fun w9 hb => by
        have h := check_any (some ⟨w1.heap.size, 0, none⟩) m (List.replicate 65536 (prtOf 1)) w9 (by rw [len_rep]; decide) (by have := (HS'.out.prts.below hb).take 65536; rwa [List.take_replicate] at this) (rep_ok 65536)
        rw [len_rep, mostC] at h
        rw [HM.out]
        exact h)
      have HT7 : Hid (∀ w9, Below wr.heap.size wr w9 → Calls Tryz.prog 36 #[.slice (some ⟨w1.heap.size, 0, none⟩) m m] w9 fun e w' => e = .returned (.int .u64 0) ∧ Below w9.heap.size w9 w') := Lib.hid (fun w9 hb => by
        have h := total_any (some ⟨w1.heap.size, 0, none⟩) m (List.replicate 65537 (prtOf 1)) w9 (by rw [len_rep]; decide) (HS'.out.prts.below hb) (rep_ok 65537)
        rw [len_rep, ← HN.out, HN.out, manyT] at h
        rw [HN.out]
        exact h)
      have HT6 : Hid (∀ w9, Below wr.heap.size wr w9 → Calls Tryz.prog 36 #[.slice (some ⟨w1.heap.size, 0, none⟩) M m] w9 fun e w' => e = .returned (.int .u64 65536) ∧ Below w9.heap.size w9 w') := Lib.hid (fun w9 hb => by
        have h := total_any (some ⟨w1.heap.size, 0, none⟩) m (List.replicate 65536 (prtOf 1)) w9 (by rw [len_rep]; decide) (by have := (HS'.out.prts.below hb).take 65536; rwa [List.take_replicate] at this) (rep_ok 65536)
        rw [len_rep, mostT] at h
        rw [HM.out]
        exact h)
      clear hM
      go_upto_region 7 with fail
      refine wp_region_all 1000 (none) (phis [fun u _ => u = (.slice (some ⟨w1.heap.size, 0, none⟩) m m), fun u _ => u = (.int .i64 2), fun u _ => u = (.slice (some ⟨w1.heap.size, 0, none⟩) m m), fun u _ => u = (.slice (some ⟨w1.heap.size, 0, none⟩) M m), fun u _ => u = (.int .i64 0), fun u _ => u = (.int .i64 2), fun u _ => u = (.int .i64 0)]) rfl (by kernel_rfl) (mono_of ⟨mono_eq, mono_eq, mono_eq, mono_eq, mono_eq, mono_eq, mono_eq, trivial⟩) (steps_of 7 ⟨?s0, ?s1, ?s2, ?s3, ?s4, ?s5, ?s6, trivial⟩) ?_
      case s0 =>
        refine step_val (v := (.slice (some ⟨w1.heap.size, 0, none⟩) m m)) (fun av wv hE hS hO hD => ?_) (fun _ => rfl)
        have h2 : av.eval (.tmp 2) = (.slice (some ⟨w1.heap.size, 0, none⟩) m m) := hO.2.2 2 rfl
        have f2 := (ev_form av 2).symm.trans h2
        refine ⟨rfl, ?_⟩
        simp [go_sem, f2, sl]
      case s1 =>
        refine step_wp (fun av wv hE hS hO hD => ?_)
        have d32 : av.eval (.tmp 32) = (.slice (some ⟨w1.heap.size, 0, none⟩) m m) := hD.1 rfl _ rfl
        have f32 := (ev_form av 32).symm.trans d32
        refine ⟨rfl, ?_⟩
        refine wp_of_call (v := (.int .i64 2)) (by simp [go_sem, f32, sl]) (HA.out wv (of_drew hE)) (fun w2 hb => ⟨_, rfl, es_of_ext hb, rfl⟩)
      case s2 =>
        refine step_val (v := (.slice (some ⟨w1.heap.size, 0, none⟩) m m)) (fun av wv hE hS hO hD => ?_) (fun _ => rfl)
        have h2 : av.eval (.tmp 2) = (.slice (some ⟨w1.heap.size, 0, none⟩) m m) := hO.2.2 2 rfl
        have f2 := (ev_form av 2).symm.trans h2
        refine ⟨rfl, ?_⟩
        simp [go_sem, f2, sl]
      case s3 =>
        refine step_val (v := (.slice (some ⟨w1.heap.size, 0, none⟩) M m)) (fun av wv hE hS hO hD => ?_) (fun _ => rfl)
        have d34 : av.eval (.tmp 34) = (.slice (some ⟨w1.heap.size, 0, none⟩) m m) := hD.1 rfl _ rfl
        have f34 := (ev_form av 34).symm.trans d34
        refine ⟨rfl, ?_⟩
        simp [go_sem, f34, sl]
      case s4 =>
        refine step_wp (fun av wv hE hS hO hD => ?_)
        have d35 : av.eval (.tmp 35) = (.slice (some ⟨w1.heap.size, 0, none⟩) M m) := hD.1 rfl _ rfl
        have f35 := (ev_form av 35).symm.trans d35
        refine ⟨rfl, ?_⟩
        refine wp_of_call (v := (.int .i64 0)) (by simp [go_sem, f35, sl]) (HC6.out wv (of_drew hE)) (fun w2 hb => ⟨_, rfl, es_of_ext hb, rfl⟩)
      case s5 =>
        refine step_val (v := (.int .i64 2)) (fun av wv hE hS hO hD => ?_) (fun _ => rfl)
        have d33 : av.eval (.tmp 33) = (.int .i64 2) := hD.1 rfl _ rfl
        have f33 := (ev_form av 33).symm.trans d33
        refine ⟨rfl, ?_⟩
        simp [go_sem, f33, sl]
      case s6 =>
        refine step_val (v := (.int .i64 0)) (fun av wv hE hS hO hD => ?_) (fun _ => rfl)
        have d36 : av.eval (.tmp 36) = (.int .i64 0) := hD.1 rfl _ rfl
        have f36 := (ev_form av 36).symm.trans d36
        refine ⟨rfl, ?_⟩
        simp [go_sem, f36, sl]
      intro a' w' hE hO hall
      have hA := act_of_outer (ds := [32, 33, 34, 35, 36, 4, 5]) rfl hO (by kernel_rfl)
      have e32 : (fun u _ => u = (.slice (some ⟨w1.heap.size, 0, none⟩) m m)) (a'.eval (.tmp 32)) w' := hall.1 _ rfl
      have e33 : (fun u _ => u = (.int .i64 2)) (a'.eval (.tmp 33)) w' := hall.2.1 _ rfl
      have e34 : (fun u _ => u = (.slice (some ⟨w1.heap.size, 0, none⟩) m m)) (a'.eval (.tmp 34)) w' := hall.2.2.1 _ rfl
      have e35 : (fun u _ => u = (.slice (some ⟨w1.heap.size, 0, none⟩) M m)) (a'.eval (.tmp 35)) w' := hall.2.2.2.1 _ rfl
      have e36 : (fun u _ => u = (.int .i64 0)) (a'.eval (.tmp 36)) w' := hall.2.2.2.2.1 _ rfl
      have e4 : (fun u _ => u = (.int .i64 2)) (a'.eval (.tmp 4)) w' := hall.2.2.2.2.2.1 _ rfl
      have e5 : (fun u _ => u = (.int .i64 0)) (a'.eval (.tmp 5)) w' := hall.2.2.2.2.2.2.1 _ rfl
      simp only [List.foldl_cons, List.foldl_nil, Act.put, List.setIfInBounds_toArray, List.set_cons_succ, List.set_cons_zero, e32, e33, e34, e35, e36, e4, e5] at hA
      clear hO hall e32 e33 e34 e35 e36 e4 e5
      subst hA
      have HW := Lib.hid (show Below wr.heap.size wr w' from of_drew hE)
      clear hE
      go_wp2_with fail
      refine (pfullx_any _).mono ?_
      rintro e w2 ⟨rfl, hb⟩
      have HB2 := Lib.hid hb
      clear hb
      have HX2 : Hid (HalfAt w'.heap.size w2) := Lib.hid ⟨(HB2.out.block _ (by simp; omega)).trans (by (repeat (first | exact alloc_new_at _ (by repeat (first | rfl | refine alloc_size _ ?_)) | refine block_alloc ?_ _))), (HB2.out.block _ (by simp)).trans (by (repeat (first | exact alloc_new_at _ (by repeat (first | rfl | refine alloc_size _ ?_)) | refine block_alloc ?_ _)))⟩
      have HBW : Hid (Below wr.heap.size wr w2) := Lib.hid (bnext HW.out (bnext (balloc (balloc (Below.refl _ _) _) _) HB2.out))
      go_wp2_with fail
      have HMX : Hid (allMay (partSpecs fullX 5 1 2 3) = true) := Lib.hid (by rw [may_part]; rw [fullX_size]; rfl)
      refine (wpart2_any B fullX 5 1 2 3 _ (((HT.out.below HS'.out.b).below HBW.out).below (balloc (Below.refl _ _) _)).p (by rw [fullX_size]; decide) ⟨by decide, by decide⟩ ⟨by decide, by decide⟩ ⟨by decide, by decide⟩ ⟨by decide, by decide⟩ (fun h => Nat.le_trans (partSz h) (by decide))).mono ?_
      rintro e w3 ⟨rfl, hb⟩
      rw [HMX.out, if_pos rfl]
      have HB3 := Lib.hid hb
      clear hb
      have HO3 : Hid (w3.heap[w2.heap.size]? = some (.cells #[.string fullX, .int .u64 5, .int .u64 1, .int .u64 2, .int .u64 3] 53 (0, 0))) := Lib.hid ((HB3.out.block _ (by simp)).trans (heap_alloc_new _ _))
      have co : ∀ o, w3.cell? ⟨w2.heap.size, o, none⟩ = _ := block_cell HO3.out
      have HX3 := Lib.hid (HX2.out.below (bnext (balloc (Below.refl _ _) _) HB3.out))
      have HBV : Hid (Below wr.heap.size wr w3) := Lib.hid (bnext HBW.out (bnext (balloc (Below.refl _ _) _) HB3.out))
      obtain ⟨sx, hsx⟩ : ∃ sx, layP (partSpecs fullX 5 1 2 3) = sx := ⟨_, rfl⟩
      have HSX := Lib.hid hsx
      rw [hsx]
      clear hsx
      go_wp2_with fail
      refine (ptroot_any B [oneX] (some ⟨w3.heap.size, 0, none⟩) 1 _ (((HT.out.below HS'.out.b).below HBV.out).below (balloc (Below.refl _ _) _)) (Prts.block (heap_alloc_new _ _)) oneX_ok (by decide)).mono ?_
      rintro e w4 ⟨rfl, hb⟩
      rw [oneX_check]
      have HB4 : Hid (Below wr.heap.size wr w4) := Lib.hid (bnext HBV.out (bnext (balloc (Below.refl _ _) _) hb))
      have HX4 := Lib.hid (HX3.out.below (bnext (balloc (Below.refl _ _) _) hb))
      clear hb co
      obtain ⟨rx, hrx⟩ : ∃ rx, rootP [oneX] = rx := ⟨_, rfl⟩
      have HRX := Lib.hid hrx
      rw [hrx]
      clear hrx
      go_wp2_with fail
      refine (build_any [sx] (some ⟨w4.heap.size, 0, none⟩) 1 _ (txts_oneX (heap_alloc_new _ _)) (by show 1 ≤ 65536; decide) (fun i hi => by
        obtain rfl : i = 0 := by have : len [sx] = 1 := rfl; omega
        show sx.size ≤ _
        rw [← HSX.out]
        exact Nat.le_trans (partSz HMX.out) (by decide))).mono ?_
      rintro e w5 ⟨b, rfl, hs, ht, hb⟩
      have HB5 : Hid (Below wr.heap.size wr w5) := Lib.hid (bnext HB4.out (bnext (balloc (Below.refl _ _) _) hb))
      have HX5 := Lib.hid (HX4.out.below (bnext (balloc (Below.refl _ _) _) hb))
      have HTA := Lib.hid ht
      clear hs ht hb
      go_wp2_with fail
      refine (ptroot_any B [] none 0 _ ((HT.out.below HS'.out.b).below HB5.out) (Prts.nil _ _) (oks (fun p hp => by cases hp)) (by decide)).mono ?_
      rintro e w6 ⟨rfl, hb⟩
      rw [show checkOf [] = 2 from checkOf_no (fun h => by have := h.1; revert this; decide)]
      have HB6 : Hid (Below wr.heap.size wr w6) := Lib.hid (bnext HB5.out hb)
      have HX6 := Lib.hid (HX5.out.below hb)
      have HTB := Lib.hid (HTA.out.below hb)
      clear hb
      obtain ⟨rz, hrz⟩ : ∃ rz, rootP [] = rz := ⟨_, rfl⟩
      rw [hrz]
      clear hrz
      go_wp2_with fail
      refine (pelements_any B [Prt.zero] (some ⟨w6.heap.size, 0, none⟩) 1 _ (((HT.out.below HS'.out.b).below HB6.out).below (balloc (Below.refl _ _) _)) (Prts.block (heap_alloc_new _ _)) (oks (fun p hp => by
        obtain rfl : p = Prt.zero := by simpa using hp
        exact Prt.zero_ok)) (by decide)).mono ?_
      rintro e w7 ⟨v7, rfl, -, hb⟩
      rw [zero_check]
      have HB7 : Hid (Below wr.heap.size wr w7) := Lib.hid (bnext HB6.out (bnext (balloc (Below.refl _ _) _) hb))
      have HX7 := Lib.hid (HX6.out.below (bnext (balloc (Below.refl _ _) _) hb))
      have HTC := Lib.hid (HTB.out.below (bnext (balloc (Below.refl _ _) _) hb))
      clear hb
      go_wp2_with fail
      refine (works15_any _).mono ?_
      rintro e w8 ⟨rfl, hb⟩
      have HB8 : Hid (Below wr.heap.size wr w8) := Lib.hid (bnext HB7.out hb)
      have HX8 := Lib.hid (HX7.out.below hb)
      have HTD := Lib.hid (HTC.out.below hb)
      clear hb
      go_wp2_with fail
      refine (HT6.out w8 HB8.out).mono ?_
      rintro e w9 ⟨rfl, hb⟩
      have HB9 : Hid (Below wr.heap.size wr w9) := Lib.hid (bnext HB8.out hb)
      have HX9 := Lib.hid (HX8.out.below hb)
      have HTE := Lib.hid (HTD.out.below hb)
      clear hb
      go_wp2_with fail
      refine (HT7.out w9 HB9.out).mono ?_
      rintro e w10 ⟨rfl, hb⟩
      have HB10 : Hid (Below wr.heap.size wr w10) := Lib.hid (bnext HB9.out hb)
      have HXA := Lib.hid (HX9.out.below hb)
      have HTF := Lib.hid (HTE.out.below hb)
      clear hb
      have ch : ∀ o, w10.cell? ⟨w'.heap.size, o, none⟩ = _ := block_cell HXA.out.a
      go_wp2_with fail
      refine (check_any (some ⟨w10.heap.size, 0, none⟩) 2 [halfX, halfX] _ (by decide) (Prts.block (heap_alloc_new _ _)) hh_ok).mono ?_
      rintro e w11 ⟨rfl, hb⟩
      rw [hh_check]
      have HB11 : Hid (Below wr.heap.size wr w11) := Lib.hid (bnext HB10.out (bnext (balloc (Below.refl _ _) _) hb))
      have HXB := Lib.hid (HXA.out.below (bnext (balloc (Below.refl _ _) _) hb))
      have HTG := Lib.hid (HTF.out.below (bnext (balloc (Below.refl _ _) _) hb))
      clear hb ch
      have ch : ∀ o, w11.cell? ⟨w'.heap.size, o, none⟩ = _ := block_cell HXB.out.a
      have cl : ∀ o, w11.cell? ⟨w'.heap.size + 1, o, none⟩ = _ := block_cell HXB.out.b
      go_wp2_with fail
      refine (total_any (some ⟨w11.heap.size, 0, none⟩) 2 [halfX, lessX] _ (by decide) (Prts.block (heap_alloc_new _ _)) hl_ok).mono ?_
      rintro e w12 ⟨rfl, hb⟩
      rw [hl_total]
      have HB12 : Hid (Below wr.heap.size wr w12) := Lib.hid (bnext HB11.out (bnext (balloc (Below.refl _ _) _) hb))
      have HXC := Lib.hid (HXB.out.below (bnext (balloc (Below.refl _ _) _) hb))
      have HTH := Lib.hid (HTG.out.below (bnext (balloc (Below.refl _ _) _) hb))
      clear hb ch cl
      have ch : ∀ o, w12.cell? ⟨w'.heap.size, o, none⟩ = _ := block_cell HXC.out.a
      go_wp2_with fail
      refine (check_any (some ⟨w12.heap.size, 0, none⟩) 4 [halfX, halfX, halfX, halfX] _ (by decide) (Prts.block (heap_alloc_new _ _)) h4_ok).mono ?_
      rintro e w13 ⟨rfl, hb⟩
      rw [h4_check]
      have HB13 : Hid (Below wr.heap.size wr w13) := Lib.hid (bnext HB12.out (bnext (balloc (Below.refl _ _) _) hb))
      have HTI := Lib.hid (HTH.out.below (bnext (balloc (Below.refl _ _) _) hb))
      clear hb ch
      have HEQ : Hid (rx = treeR [sx]) := Lib.hid (by
        rw [← HRX.out, ← HSX.out]
        unfold rootP
        rw [if_pos oneX_check]
        rfl)
      go_wp2_with fail
      refine (root_any [sx] _ _ HTI.out).mono ?_
      rintro e w14 ⟨rfl, rfl⟩
      rw [show plD [sx] (depN [sx]) (depN [sx]) 0 = rx from HEQ.out.symm]
      go_wp2
      go_ret
      exact ⟨rfl, bnext HS'.out.b HB13.out⟩
end Go.Proofs.YtpobhbdomldecaaGreatDoor
namespace Go.Proofs.YtpobhbdomldecaaGreatDoor
set_option linter.unusedSimpArgs false
set_option linter.unusedVariables false
open Go.RowKit Go.ChangeShapes Go.WideShapes Go.ChangeAt
theorem own : ownKnob Tryz.prog.godebug = none := by kernel_rfl
end Go.Proofs.YtpobhbdomldecaaGreatDoor
namespace Go.Proofs.YtpobhbdomldecaaGreatDoor
set_option linter.unusedSimpArgs false
set_option linter.unusedVariables false
open Go.RowKit Go.ChangeShapes Go.WideShapes Go.ChangeAt
def rowD5 (r : PRow) : DataW Unit := .agg [.lit (.int .u64 r.below), .lit (.int .u8 r.first), .lit (.int .i64 r.size)]
set_option maxRecDepth 100000 in
theorem laid_prow {w : World} {fuel : Nat} {cs' : List Value} {r : PRow} {q : List MemPlace} (hl : cs'.length = 3) (h : DataW.trod (fun _ => ()) Tryz.prog w 0 (fun _ => true) false fuel 336 cs' = some (rowD5 r, q)) : cs' = r.cells := by
  match cs', hl with
  | [v0, v1, v2], _ =>
    obtain ⟨xs, m, _, e, _, hxl, hx⟩ := DataW.trod_struct Tryz.underlying336 h
    have cu : Tryz.prog.cellsOf 5 = 1 := by kernel_rfl
    have ci : Tryz.prog.cellsOf 3 = 1 := by kernel_rfl
    have cq : Tryz.prog.cellsOf 23 = 1 := by kernel_rfl
    have hxl' : xs.length = 3 := hxl
    have h0 : DataW.trod (fun _ => ()) Tryz.prog w 0 (fun _ => true) false m 23 (([v0, v1, v2].drop 0).take (Tryz.prog.cellsOf 23)) = xs[0]? := hx 0 _ rfl
    have h1 : DataW.trod (fun _ => ()) Tryz.prog w 0 (fun _ => true) false m 5 (([v0, v1, v2].drop 1).take (Tryz.prog.cellsOf 5)) = xs[1]? := hx 1 _ rfl
    have h2 : DataW.trod (fun _ => ()) Tryz.prog w 0 (fun _ => true) false m 3 (([v0, v1, v2].drop 2).take (Tryz.prog.cellsOf 3)) = xs[2]? := hx 2 _ rfl
    rw [cq] at h0
    rw [cu] at h1
    rw [ci] at h2
    match xs, hxl' with
    | [x0, x1, x2], _ =>
      obtain ⟨n0, e0, y0, _⟩ := DataW.trod_int Tryz.underlying23 (show DataW.trod (fun _ => ()) Tryz.prog w 0 (fun _ => true) false m 23 [v0] = some x0 from h0)
      obtain ⟨n1, e1, y1, _⟩ := DataW.trod_int Tryz.underlying5 (show DataW.trod (fun _ => ()) Tryz.prog w 0 (fun _ => true) false m 5 [v1] = some x1 from h1)
      obtain ⟨n2, e2, y2, _⟩ := DataW.trod_int Tryz.underlying3 (show DataW.trod (fun _ => ()) Tryz.prog w 0 (fun _ => true) false m 3 [v2] = some x2 from h2)
      subst y0 y1 y2
      simp [rowD5] at e e0 e1 e2
      obtain ⟨⟨a0, a1, a2⟩, _⟩ := e
      subst e0 e1 e2
      unfold PRow.cells
      rw [a0, a1, a2]
set_option maxRecDepth 100000 in
theorem laid_prows {w : World} {fuel : Nat} {cs : List Value} {l : List PRow} {p : List MemPlace} (h : DataW.trod (fun _ => ()) Tryz.prog w 0 (fun _ => true) false fuel 338 cs = some (.slice (l.map rowD5) [], p)) (hl : 0 < len l) :
    ∃ tb tq rc, cs = [.slice (some ⟨tb, tq, none⟩) (len l) rc] ∧ PRows w (some ⟨tb, tq, none⟩) l := by
  have hC : Tryz.prog.cellsOf 336 = 3 := by kernel_rfl
  rcases Go.Deep.open_slice Tryz.underlying338 h with ⟨_, hx⟩ | ⟨a, n, c, m, q, D, Pl, hcs, _, hln, hm, hmm, hx, hi⟩
  · simp at hx
  · simp only [Prod.mk.injEq, DataW.slice.injEq] at hx
    obtain ⟨⟨hD, _⟩, _⟩ := hx
    have hn : len l = n := by have := congrArg List.length hD; simpa [len] using this
    have hnm : n ≤ m := by rw [hmm]; simp; exact hln
    have each : ∀ i, i < len l → ∃ b off, a = ⟨b, off, none⟩ ∧ PRowAt w b (off + i * 3) (prth l i) := fun i hil => by
      obtain ⟨cs', hc, htr⟩ := hi i (by omega)
      rw [hC] at hc
      obtain ⟨_, hcl, hat⟩ := World.cells?_some hc
      have hDi : D i = rowD5 (prth l i) := by
        have h1 : (l.map rowD5)[i]? = ((List.range n).map D)[i]? := by rw [hD]
        have hil' : i < l.length := hil
        rw [List.getElem?_map, List.getElem?_map, List.getElem?_eq_getElem hil', List.getElem?_range (by omega)] at h1
        rw [prth_eq l i hil]
        exact (Option.some.inj h1).symm
      rw [hDi] at htr
      have hcs' := laid_prow hcl htr
      obtain ⟨b, off, spot⟩ := a
      have hat0 := hat 0 (by decide)
      rw [hcs'] at hat
      have hspot : spot = none := by
        obtain ⟨cs0, hc0, htr0⟩ := hi 0 (by omega)
        rw [hC] at hc0
        obtain ⟨_, hcl0, hat0⟩ := World.cells?_some hc0
        have h1 := hat0 0 (by decide)
        have h2 : cs0[0]? = some (cs0[0]'(by omega)) := List.getElem?_eq_getElem (by omega)
        rw [h2] at h1
        simpa [Addr.add] using World.cell?_spot h1
      subst hspot
      have key : ∀ j, j < 3 → w.cell? ⟨b, off + i * 3 + j, none⟩ = (prth l i).cells[j]? := fun j hj => by
        have h1 := hat j hj
        rw [Go.Deep.add_add] at h1
        have e : (⟨b, off, none⟩ : Addr).add (i * 3 + j) = ⟨b, off + i * 3 + j, none⟩ := by
          unfold Addr.add; split
          · rename_i h0; simp <;> omega
          · simp [Nat.add_assoc]
        rw [e] at h1; exact h1
      exact ⟨b, off, rfl, key 0 (by decide), key 1 (by decide), key 2 (by decide)⟩
    obtain ⟨b, off, rfl, _⟩ := each 0 hl
    refine ⟨b, off, c, by rw [hn]; exact hcs, fun i hil => ?_⟩
    obtain ⟨b', off', e, hR⟩ := each i hil
    cases e
    exact ⟨b, off, rfl, hR⟩
def tabD5 : DataW Unit := .agg ([0, 1, 2, 3, 4].map fun k => .slice ((hrowsP k).map rowD5) [])
set_option maxRecDepth 100000 in
theorem ptab_of {W : World} {g : Nat} {cs : Array Value} {fuel : Nat} {p : List MemPlace} (hgg : g = 5) (hg : Tryz.prog.globalNamed "sextant/pack.rows" = some g) (hv : W.var? Tryz.prog "sextant/pack.rows" = some cs)
    (h : DataW.trod (fun _ => ()) Tryz.prog W 0 (fun _ => true) false fuel 339 cs.toList = some (tabD5, p)) : PTab W.heap.size W := by
  obtain ⟨xs, m, _, e, hcl, hxl, hx⟩ := DataW.trod_array Tryz.underlying339 h
  have hC : Tryz.prog.cellsOf 338 = 1 := by kernel_rfl
  have hC5 : Tryz.prog.cellsOf 339 = 5 := by kernel_rfl
  rw [hC5] at hcl
  rw [hC] at hx
  have hd : tabD5 = .agg (xs.map (·.1)) := congrArg Prod.fst e
  unfold tabD5 at hd
  have hd2 : ([0, 1, 2, 3, 4].map fun k => (DataW.slice ((hrowsP k).map rowD5) [] : DataW Unit)) = xs.map (·.1) := by injection hd
  subst hgg
  have key : ∀ k, k < 5 → ∃ tb tq rc, cs[k]? = some (.slice (some ⟨tb, tq, none⟩) (len (hrowsP k)) rc) ∧ PRows W (some ⟨tb, tq, none⟩) (hrowsP k) := fun k hk => by
    have hxk : k < xs.length := by omega
    have h1 := hx k hk
    rw [List.getElem?_eq_getElem hxk] at h1
    have h2 : (xs[k]'hxk).1 = .slice ((hrowsP k).map rowD5) [] := by
      have h3 : (xs.map (·.1))[k]? = some (xs[k]'hxk).1 := by rw [List.getElem?_map, List.getElem?_eq_getElem hxk]; rfl
      rw [← hd2, List.getElem?_map] at h3
      have h4 : [0, 1, 2, 3, 4][k]? = some k := by
        have : k = 0 ∨ k = 1 ∨ k = 2 ∨ k = 3 ∨ k = 4 := by omega
        rcases this with rfl | rfl | rfl | rfl | rfl <;> rfl
      rw [h4] at h3
      exact (Option.some.inj h3).symm
    have h5 : DataW.trod (fun _ => ()) Tryz.prog W 0 (fun _ => true) false m 338 ((cs.toList.drop (k * 1)).take 1) = some (.slice ((hrowsP k).map rowD5) [], (xs[k]'hxk).2) := by rw [h1, ← h2]
    obtain ⟨tb, tq, rc, hcs, hr⟩ := laid_prows h5 (rowsP_pos k)
    refine ⟨tb, tq, rc, ?_, hr⟩
    have h6 : ((cs.toList.drop (k * 1)).take 1)[0]? = some (.slice (some ⟨tb, tq, none⟩) (len (hrowsP k)) rc) := by rw [hcs]; rfl
    rw [List.getElem?_take, if_pos (by decide), List.getElem?_drop] at h6
    simpa using h6
  have hlt : 5 < W.heap.size := by
    obtain ⟨tb, tq, rc, h1, h2⟩ := key 0 (by decide)
    have := World.var?_cell hg hv 0
    exact lt_of_cell (this.trans h1)
  refine ⟨hlt, Nat.le_refl _, fun k hk => ?_⟩
  obtain ⟨tb, tq, rc, h1, h2⟩ := key k hk
  refine ⟨tb, tq, rc, ?_, (World.var?_cell hg hv k).trans h1, h2⟩
  obtain ⟨b, off, e, hR⟩ := h2 0 (rowsP_pos k)
  cases e
  exact lt_of_cell hR.c0
end Go.Proofs.YtpobhbdomldecaaGreatDoor
namespace Go.Proofs.YtpobhbdomldecaaGreatDoor
set_option linter.unusedSimpArgs false
set_option linter.unusedVariables false
open Go.RowKit Go.ChangeShapes Go.WideShapes Go.ChangeAt
set_option maxRecDepth 100000 in
theorem of_laidHd {W : World} (h : laidMetH Tryz.prog Rows.headerRootsRow.laid W) : PT W.heap.size W := by
  have h' : laidMet Tryz.prog Rows.headerRootsRow.laid W := h
  obtain ⟨ps, ⟨g0, t0, cs0, f0, p0, q0, hg0, ht0, hv0, hd0, _⟩, _⟩ := h'
  obtain rfl : 5 = g0 := Option.some.inj ((show _ = some 5 by kernel_rfl).symm.trans hg0)
  obtain rfl : 339 = t0 := Option.some.inj ((show _ = some 339 by kernel_rfl).symm.trans ht0)
  exact ⟨ptab_of rfl hg0 hv0 hd0, Nat.le_refl _⟩
end Go.Proofs.YtpobhbdomldecaaGreatDoor
namespace Go.Proofs.YtpobhbdomldecaaGreatDoor.ptknown
set_option linter.unusedSimpArgs false
set_option linter.unusedVariables false
open Go.RowKit Go.ChangeShapes Go.WideShapes Go.ChangeAt
theorem door_met (os : Os) (args : Array Value) : laidMetH Tryz.prog Rows.partKnownRow.laid ((World.doorLaid Tryz.prog 72 os).forCall (fun _ _ => 0) ⟨#[], args, []⟩).memory :=
  laidMetH_of_parts3 (fuel := 8) (laidMet_of_run' 8 (by kernel_rfl) (by kernel_rfl)) (by kernel_rfl) (by kernel_rfl)
set_option maxRecDepth 100000 in
theorem lifted (os : Os) (started : os.Started) (H : Type) (enc : TypeId × Value → H) :
    ReturnsInHanded {} Tryz.checked os 7 .any (fun w args => (Rows.partKnownSpec.pre enc Tryz.prog Tryz.f7 [] false w args ∧ laidMetH Tryz.prog Rows.partKnownRow.laid w) ∧ sizedMet enc Tryz.prog Tryz.f7 (OpenSpec.ofChange Rows.partKnownSpec) false w args)
      (Rows.partKnownSpec.post enc Tryz.prog Tryz.f7 false true false false) := by
  refine returnsInHanded_of_change_and (C := Tryz.checked) (X := fun w _ => laidMetH Tryz.prog Rows.partKnownRow.laid w) (fun _ _ _ hh h => h.of_heap hh) own started (by kernel_rfl) Tryz.func7
    (ChangeSpec.witness_shaped (enc := enc) (C := Tryz.checked) (os := os) (X := fun w _ => laidMetH Tryz.prog Rows.partKnownRow.laid w) false (World.doorLaid Tryz.prog 72 os) #[] 8 rfl (World.shaped_of_RefB (by kernel_rfl) (by kernel_rfl)) (by kernel_rfl) (by kernel_rfl) (by kernel_rfl) (door_met os _)) ?_
  intro W base args ds gs before hval0 hW _ _ hL _
  have hW' := hW
  obtain ⟨p, q, hA0, hV, rfl, hfz, hnd⟩ := hW
  have hA : DataW.TrodAll enc Tryz.prog W 0 (fun _ => true) true Tryz.f7.params.toList args.toList ds p := hA0
  rw [Tryz.params7] at hA
  obtain ⟨hargs, rfl, rfl⟩ := trodAll_nil hA
  obtain rfl : args = #[] := by cases args; simp_all
  obtain ⟨rfl, rfl⟩ := trodVars_none hV
  have hT := of_laidHd (show laidMetH Tryz.prog Rows.headerRootsRow.laid W from hL)
  clear hA0 hval0
  refine (pknown_law W.heap.size W hT).mono fun e W' ⟨he, bel⟩ => ?_
  subst he
  exact ⟨_, rfl, _, _, _, [], _, [], hW', trodAll_mk1 (shut_bool Tryz.underlying4 _), trodAll_mk0, rfl, bel.frame _, fun h => by cases h⟩
end Go.Proofs.YtpobhbdomldecaaGreatDoor.ptknown
