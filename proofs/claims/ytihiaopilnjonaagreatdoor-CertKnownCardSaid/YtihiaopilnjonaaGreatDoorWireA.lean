/- Package wire: fields as they lie, what they mean; IndexFunc, ContainsFunc, all. -/
import Derived.Test.YtihiaopilnjonaaGreatDoorPackD
namespace Go.Proofs.YtihiaopilnjonaaGreatDoor
open Go.RowKit
set_option linter.unusedSimpArgs false
set_option linter.unusedVariables false

structure FVal where
  key : ByteArray
  must : Bool
  ef : Nat
  ec : Array Value
  mf : Nat
  mc : Array Value
  pf : Nat
  pc : Array Value
  gf : Nat
  gc : Array Value
abbrev FVal.val (r : FVal) : Value := .agg #[.string r.key, .bool r.must, .func (.func r.ef) #[] r.ec, .func (.func r.mf) #[] r.mc, .func (.func r.pf) #[] r.pc, .func (.func r.gf) #[] r.gc]
def FVal.cells (r : FVal) : List Value := [.string r.key, .bool r.must, .func (.func r.ef) #[] r.ec, .func (.func r.mf) #[] r.mc, .func (.func r.pf) #[] r.pc, .func (.func r.gf) #[] r.gc]
theorem FVal.cells_len (r : FVal) : r.cells.length = 6 := rfl
theorem FVal.cells_one (r : FVal) : ∀ u ∈ r.cells, u.oneCell' = true := by intro u hu; simp only [FVal.cells, List.mem_cons, List.not_mem_nil, or_false] at hu; rcases hu with rfl | rfl | rfl | rfl | rfl | rfl <;> rfl
def FVal.zero : FVal := ⟨ByteArray.empty, false, 0, #[], 0, #[], 0, #[], 0, #[]⟩
def fth (l : List FVal) (i : Nat) : FVal := l.getD i FVal.zero
theorem fth_eq (l : List FVal) (i : Nat) (h : i < l.length) : fth l i = l[i] := by unfold fth; rw [List.getD_eq_getElem?_getD, List.getElem?_eq_getElem h]; rfl
structure FValAt (w : World) (b o : Nat) (r : FVal) : Prop where
  c0 : w.cell? ⟨b, o, none⟩ = some (.string r.key)
  c1 : w.cell? ⟨b, o + 1, none⟩ = some (.bool r.must)
  c2 : w.cell? ⟨b, o + 2, none⟩ = some (.func (.func r.ef) #[] r.ec)
  c3 : w.cell? ⟨b, o + 3, none⟩ = some (.func (.func r.mf) #[] r.mc)
  c4 : w.cell? ⟨b, o + 4, none⟩ = some (.func (.func r.pf) #[] r.pc)
  c5 : w.cell? ⟨b, o + 5, none⟩ = some (.func (.func r.gf) #[] r.gc)
theorem FValAt.below {w w' : World} {b o : Nat} {r : FVal} (h : FValAt w b o r) (hb : Below w.heap.size w w') : FValAt w' b o r := by
  have hl := lt_of_cell h.c0
  have e : ∀ q, w'.cell? ⟨b, q, none⟩ = w.cell? ⟨b, q, none⟩ := fun q => hb.cell (p := ⟨b, q, none⟩) hl
  obtain ⟨c0, c1, c2, c3, c4, c5⟩ := h
  constructor <;> (rw [e]; assumption)
def Flds (w : World) (a : Option Addr) (l : List FVal) : Prop := ∀ i, i < len l → ∃ b off, a = some ⟨b, off, none⟩ ∧ FValAt w b (off + i * 6) (fth l i)
theorem Flds.nil (w : World) (a : Option Addr) : Flds w a [] := fun i hi => absurd hi (by simp [len])
theorem Flds.below {w w' : World} {a : Option Addr} {l : List FVal} (h : Flds w a l) (hb : Below w.heap.size w w') : Flds w' a l := fun i hi => by
  obtain ⟨b, off, rfl, hc⟩ := h i hi
  exact ⟨b, off, rfl, hc.below hb⟩
theorem Flds.drew {w w' : World} {a : Option Addr} {l : List FVal} (h : Flds w a l) (hb : Drew w w') : Flds w' a l := h.below (hb.below _)
theorem Flds.take {w : World} {a : Option Addr} {l : List FVal} (h : Flds w a l) (k : Nat) : Flds w a (l.take k) := fun i hi => by
  have hi2 : i < l.length ∧ i < k := by simp only [len, List.length_take] at hi; omega
  have hi3 : i < (l.take k).length := hi
  have e : fth (l.take k) i = fth l i := by rw [fth_eq l i hi2.1, fth_eq _ i hi3, List.getElem_take]
  rw [e]; exact h i hi2.1
theorem Flds.drop {w : World} {b off : Nat} {l : List FVal} (h : Flds w (some ⟨b, off, none⟩) l) (k : Nat) : Flds w (some ⟨b, off + k * 6, none⟩) (l.drop k) := fun i hi => by
  have hi2 : k + i < l.length := by simp only [len, List.length_drop] at hi; omega
  have hi3 : i < (l.drop k).length := hi
  have e : fth (l.drop k) i = fth l (k + i) := by rw [fth_eq l _ hi2, fth_eq _ i hi3, List.getElem_drop]
  obtain ⟨b', off', e2, hc⟩ := h (k + i) hi2
  cases e2
  exact ⟨b, _, rfl, by rw [e, show off + k * 6 + i * 6 = off + (k + i) * 6 by omega]; exact hc⟩
theorem Flds.own {w : World} {base e n : Nat} {v : Value} {l : List FVal} (h : w.ownsRow base e 6 v n (l.flatMap FVal.cells)) : ∃ a cap, v = .slice a (len l) cap ∧ Flds w a l ∧ len l ≤ cap := by
  have hn : len l = n := by have := h.1; rw [flat_length FVal.cells 6 FVal.cells_len] at this; rw [len_eq]; omega
  obtain ⟨h1, h2⟩ := h
  rcases h2 with ⟨rfl, h2⟩ | ⟨g, cap, cur, rfl, hg, hh, hc1, hc2, hc3, hc4⟩
  · obtain rfl : l = [] := List.eq_nil_of_length_eq_zero (by rw [← len_eq]; omega)
    exact ⟨none, 0, rfl, Flds.nil _ _, Nat.le_refl _⟩
  · refine ⟨some ⟨g, 0, none⟩, cap, by rw [hn], fun i hi => ⟨g, 0, rfl, ?_⟩, by omega⟩
    have hown : w.ownsRow base e 6 (.slice (some ⟨g, 0, none⟩) n cap) n (l.flatMap FVal.cells) := ⟨h1, .inr ⟨g, cap, cur, rfl, hg, hh, hc1, hc2, hc3, hc4⟩⟩
    have key : ∀ r, r < 6 → w.cell? ⟨g, 0 + i * 6 + r, none⟩ = (fth l i).cells[r]? := fun r hr => by
      have := hown.cellAt (i * 6 + r) (by rw [← hn]; omega)
      rw [Nat.zero_add, this, flat_get FVal.cells 6 FVal.cells_len l i r hi hr, fth_eq l i hi]
    exact ⟨key 0 (by decide), key 1 (by decide), key 2 (by decide), key 3 (by decide), key 4 (by decide), key 5 (by decide)⟩
theorem Flds.block {w : World} {g : Nat} {l : List FVal} {t : TypeId} {fr : Nat × Nat} (h : w.heap[g]? = some (.cells (l.flatMap FVal.cells).toArray t fr)) : Flds w (some ⟨g, 0, none⟩) l := fun i hi => ⟨g, 0, rfl, by
  have key : ∀ r, r < 6 → w.cell? ⟨g, 0 + i * 6 + r, none⟩ = (fth l i).cells[r]? := fun r hr => by
    rw [Nat.zero_add, block_cell h, List.getElem?_toArray, flat_get FVal.cells 6 FVal.cells_len l i r hi hr, fth_eq l i hi]
  exact ⟨key 0 (by decide), key 1 (by decide), key 2 (by decide), key 3 (by decide), key 4 (by decide), key 5 (by decide)⟩⟩

/-- What was there is there, below B, and elsewhere if it is no row of bytes. -/
structure Keep8 (B : Nat) (W0 w : World) : Prop where
  s0 : B ≤ W0.heap.size
  s1 : W0.heap.size ≤ w.heap.size
  low : ∀ k : Nat, k < B → w.heap[k]? = W0.heap[k]?
  keep : ∀ (k : Nat) (x : Obj), W0.heap[k]? = some x → Not8 x → w.heap[k]? = some x
theorem Keep8.refl {B : Nat} {w : World} (h : B ≤ w.heap.size) : Keep8 B w w := ⟨h, Nat.le_refl _, fun _ _ => rfl, fun _ _ h _ => h⟩
theorem Keep8.trans {B : Nat} {a b c : World} (h : Keep8 B a b) (k : Keep8 B b c) : Keep8 B a c := ⟨h.s0, Nat.le_trans h.s1 k.s1, fun i hi => (k.low i hi).trans (h.low i hi), fun i x hx hn => k.keep i x (h.keep i x hx hn) hn⟩
theorem Keep8.of_below {B : Nat} {w w' : World} (h : Below w.heap.size w w') (hB : B ≤ w.heap.size) : Keep8 B w w' := ⟨hB, h.size, fun k hk => h.block k (Nat.lt_of_lt_of_le hk hB), fun k x hx _ => (h.block k (lt_of_block hx)).trans hx⟩
theorem Keep8.next {B : Nat} {W0 w w' : World} (h : Keep8 B W0 w) (hb : Below w.heap.size w w') : Keep8 B W0 w' := h.trans (Keep8.of_below hb (Nat.le_trans h.s0 h.s1))
theorem Keep8.base {B B' : Nat} {W0 w w' : World} (h : Keep8 B W0 w) (hb : Below B' w w') (hB : W0.heap.size ≤ B') : Keep8 B W0 w' :=
  ⟨h.s0, Nat.le_trans h.s1 hb.size, fun k hk => (hb.block k (Nat.lt_of_lt_of_le hk (Nat.le_trans h.s0 hB))).trans (h.low k hk), fun k x hx hn => (hb.block k (Nat.lt_of_lt_of_le (lt_of_block hx) hB)).trans (h.keep k x hx hn)⟩
theorem Keep8.wk {B base b : Nat} {W0 w w' : World} (h : Keep8 B W0 w) (hk : WK base b w w') (hb : W0.heap.size ≤ b) (hB : B ≤ base) : Keep8 B W0 w' :=
  ⟨h.s0, Nat.le_trans h.s1 hk.bel.size, fun k hk2 => (hk.bel.block k (Nat.lt_of_lt_of_le hk2 hB)).trans (h.low k hk2), fun k x hx hn => hk.keep k x (h.keep k x hx hn) (by have := lt_of_block hx; omega) hn⟩

/-- What a field's functions say and do. -/
structure FSem (B : Nat) (W0 : World) (v : FVal) (f : FSpec) : Prop where
  key : v.key = f.key
  must : v.must = f.must
  ksz : f.key.size < 65536
  ee : ∀ args w, (callFunc v.ef args).run Tryz.prog w = .ok (.enter v.ef args) w
  em : ∀ args w, (callFunc v.mf args).run Tryz.prog w = .ok (.enter v.mf args) w
  ep : ∀ args w, (callFunc v.pf args).run Tryz.prog w = .ok (.enter v.pf args) w
  empty : ∀ w, Keep8 B W0 w → Calls Tryz.prog v.ef v.ec w fun e w' => e = .returned (.bool f.empty) ∧ Below w.heap.size w w'
  may : ∀ w, Keep8 B W0 w → Calls Tryz.prog v.mf v.mc w fun e w' => e = .returned (.bool f.may) ∧ Below w.heap.size w w'
  put : f.may = true → f.empty = false → ∀ w b base s, Keep8 B W0 w → W0.heap.size ≤ b → PTab B w → B ≤ base → WrB w b base s → s.size + f.bytes.size ≤ 60000000000000 →
    Calls Tryz.prog v.pf (#[.pointer (some ⟨b, 0, none⟩)] ++ v.pc) w fun e w' => e = .returned (.tuple #[]) ∧ WrB w' b base (s ++ f.bytes) ∧ WK base b w w'
theorem FSem.later {B : Nat} {W0 W1 : World} {v : FVal} {f : FSpec} (h : FSem B W0 v f) (hk : Keep8 B W0 W1) : FSem B W1 v f :=
  ⟨h.key, h.must, h.ksz, h.ee, h.em, h.ep, fun w hw => h.empty w (hk.trans hw), fun w hw => h.may w (hk.trans hw), fun h1 h2 w b base s hw hb => h.put h1 h2 w b base s (hk.trans hw) (Nat.le_trans hk.s1 hb)⟩
def spth (l : List FSpec) (i : Nat) : FSpec := l.getD i ⟨ByteArray.empty, false, false, false, ByteArray.empty⟩
theorem spth_eq (l : List FSpec) (i : Nat) (h : i < l.length) : spth l i = l[i] := by unfold spth; rw [List.getD_eq_getElem?_getD, List.getElem?_eq_getElem h]; rfl
/-- All fields of a list mean what is said. -/
def FSems (B : Nat) (W0 : World) (l : List FVal) (fs : List FSpec) : Prop := len fs = len l ∧ ∀ i, i < len l → FSem B W0 (fth l i) (spth fs i)
theorem FSems.later {B : Nat} {W0 W1 : World} {l : List FVal} {fs : List FSpec} (h : FSems B W0 l fs) (hk : Keep8 B W0 W1) : FSems B W1 l fs := ⟨h.1, fun i hi => (h.2 i hi).later hk⟩

/-- A function of fields that says yes or no, in all later worlds. -/
def SaysF (w : World) (l : List FVal) (g : Nat) (lb : Array Value) (p : Nat → Bool) : Prop :=
  (∀ args w', (callFunc g args).run Tryz.prog w' = .ok (.enter g args) w') ∧ ∀ i, i < len l → ∀ w', Below w.heap.size w w' → Calls Tryz.prog g (#[(fth l i).val] ++ lb) w' fun e w'' => e = .returned (.bool (p i)) ∧ Below w'.heap.size w' w''
def IdxOut (n : Nat) (p : Nat → Bool) (w : World) (e : Ending) (w' : World) : Prop :=
  ∃ r : Int, e = .returned (.int .i64 r) ∧ ((r = -1 ∧ ∀ i, i < n → p i = false) ∨ ∃ k : Nat, k < n ∧ r = k ∧ p k = true ∧ ∀ i, i < k → p i = false) ∧ Below w.heap.size w w'

set_option maxRecDepth 100000 in
set_option maxHeartbeats 4000000 in
theorem idxf_any (a : Option Addr) (c : Nat) (l : List FVal) (g : Nat) (lb : Array Value) (p : Nat → Bool) (w : World) (hl : Flds w a l) (hn : len l ≤ 1000) (hp : SaysF w l g lb p) :
    Calls Tryz.prog 202 #[.slice a (len l) c, .func (.func g) #[] lb] w (IdxOut (len l) p w) := by
  have HL := Lib.hid hl
  have HP := Lib.hid hp.2
  have eg := hp.1
  clear hl hp
  go_enter Tryz.func202, Tryz.ntmps202
  go_wp2
  go_loopg [8] (len l) (fun g i wr => ∃ m : Nat, g + m = len l ∧ i = .int .i64 m ∧ Hid (∀ i, i < m → p i = false) ∧ Hid (Below w.heap.size w wr))
  case atStart => exact ⟨0, rfl, rfl, fun i hi => by omega, Below.refl _ _⟩
  case round =>
    obtain ⟨m, hm, rfl, HN, HB⟩ := hrel
    by_cases hlt : m < len l
    · obtain ⟨b, off, rfl, c0, c1, c2, c3, c4, c5⟩ := (HL.out.below HB.out) m hlt
      have i1 : (m : Int) < len l := by omega
      have hcall := HP.out m hlt wr HB.out
      unfold FVal.val at hcall
      have HC := Lib.hid hcall
      clear hcall
      generalize fth l m = v at c0 c1 c2 c3 c4 c5 HC
      go_wp2_with fail
      refine HC.out.mono ?_
      rintro e w1 ⟨rfl, hb⟩
      have HB1 : Hid (Below w.heap.size w w1) := Lib.hid (bnext HB.out hb)
      clear hb c0 c1 c2 c3 c4 c5
      cases hpm : p m with
      | true =>
        go_wp2
        go_ret
        exact ⟨m, rfl, .inr ⟨m, hlt, rfl, hpm, HN.out⟩, HB1.out⟩
      | false =>
        have HN2 : Hid (∀ i, i < m + 1 → p i = false) := Lib.hid (fun i hi => by
          by_cases e : i = m
          · subst e; exact hpm
          · exact HN.out i (by omega))
        clear hpm
        go_wp2
        go_roundg (len l - (m + 1))
        case rel => exact ⟨m + 1, by omega, by go_num, HN2.out, HB1.out⟩
        case measure => omega
    · obtain rfl : m = len l := by omega
      have i1 : ¬ ((len l : Nat) : Int) < len l := by omega
      go_wp2
      go_ret
      exact ⟨-1, rfl, .inl ⟨rfl, HN.out⟩, HB.out⟩
theorem containsf_any (a : Option Addr) (c : Nat) (l : List FVal) (g : Nat) (lb : Array Value) (p : Nat → Bool) (w : World) (hl : Flds w a l) (hn : len l ≤ 1000) (hp : SaysF w l g lb p) :
    Calls Tryz.prog 170 #[.slice a (len l) c, .func (.func g) #[] lb] w fun e w' => ∃ b, e = .returned (.bool b) ∧ (b = true ↔ ∃ i, i < len l ∧ p i = true) ∧ Below w.heap.size w w' := by
  have H := Lib.hid (idxf_any a c l g lb p w hl hn hp)
  clear hl hp
  go_enter Tryz.func170, Tryz.ntmps170
  go_wp2_with fail
  refine H.out.mono ?_
  rintro e w1 ⟨r, rfl, hr, hb⟩
  have HB := Lib.hid hb
  clear hb
  rcases hr with ⟨rfl, hall⟩ | ⟨k, hk, rfl, hpk, -⟩
  · have HA := Lib.hid hall
    clear hall
    go_wp2
    go_ret
    exact ⟨false, rfl, ⟨fun h => (by cases h), fun ⟨i, hi, h⟩ => by rw [HA.out i hi] at h; cases h⟩, HB.out⟩
  · have HK := Lib.hid hpk
    clear hpk
    go_wp2
    go_ret
    exact ⟨true, rfl, ⟨fun _ => ⟨k, hk, HK.out⟩, fun _ => rfl⟩, HB.out⟩
end Go.Proofs.YtihiaopilnjonaaGreatDoor
