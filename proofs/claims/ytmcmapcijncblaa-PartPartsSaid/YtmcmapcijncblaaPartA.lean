/- Contracts of package part, of lists of participants. -/
import Derived.Test.YtmcmapcijncblaaLib
import Derived.Deep.QuietTactic
import Derived.BigQuiet
import Derived.StillTailTactics
namespace Go.Proofs.Ytmcmapcijncblaa
open Go.RowKit

structure Prt where
  root : ByteArray
  wt : Int
  first : Int
  life : Int
  keys : Int
abbrev Prt.val (r : Prt) : Value := .agg #[.string r.root, .int .u64 r.wt, .int .u64 r.first, .int .u64 r.life, .int .u64 r.keys]
def Prt.cells (r : Prt) : List Value := [.string r.root, .int .u64 r.wt, .int .u64 r.first, .int .u64 r.life, .int .u64 r.keys]
theorem Prt.cells_len (r : Prt) : r.cells.length = 5 := rfl
theorem Prt.cells_one (r : Prt) : ∀ u ∈ r.cells, u.oneCell' = true := by intro u hu; simp only [Prt.cells, List.mem_cons, List.not_mem_nil, or_false] at hu; rcases hu with rfl | rfl | rfl | rfl | rfl <;> rfl
def Prt.zero : Prt := ⟨ByteArray.empty, 0, 0, 0, 0⟩
def pnth (l : List Prt) (i : Nat) : Prt := l.getD i Prt.zero
theorem pnth_eq (l : List Prt) (i : Nat) (h : i < l.length) : pnth l i = l[i] := by unfold pnth; rw [List.getD_eq_getElem?_getD, List.getElem?_eq_getElem h]; rfl
structure PrtAt (w : World) (b o : Nat) (r : Prt) : Prop where
  c0 : w.cell? ⟨b, o, none⟩ = some (.string r.root)
  c1 : w.cell? ⟨b, o + 1, none⟩ = some (.int .u64 r.wt)
  c2 : w.cell? ⟨b, o + 2, none⟩ = some (.int .u64 r.first)
  c3 : w.cell? ⟨b, o + 3, none⟩ = some (.int .u64 r.life)
  c4 : w.cell? ⟨b, o + 4, none⟩ = some (.int .u64 r.keys)
theorem PrtAt.below {w w' : World} {b o : Nat} {r : Prt} (h : PrtAt w b o r) (hb : Below w.heap.size w w') : PrtAt w' b o r := by
  have hl := lt_of_cell h.c0
  have e : ∀ q, w'.cell? ⟨b, q, none⟩ = w.cell? ⟨b, q, none⟩ := fun q => hb.cell (p := ⟨b, q, none⟩) hl
  obtain ⟨c0, c1, c2, c3, c4⟩ := h
  constructor <;> (rw [e]; assumption)
def Prts (w : World) (a : Option Addr) (l : List Prt) : Prop := ∀ i, i < len l → ∃ b off, a = some ⟨b, off, none⟩ ∧ PrtAt w b (off + i * 5) (pnth l i)
theorem Prts.nil (w : World) (a : Option Addr) : Prts w a [] := fun i hi => absurd hi (by simp [len])
theorem Prts.below {w w' : World} {a : Option Addr} {l : List Prt} (h : Prts w a l) (hb : Below w.heap.size w w') : Prts w' a l := fun i hi => by
  obtain ⟨b, off, rfl, hc⟩ := h i hi
  exact ⟨b, off, rfl, hc.below hb⟩
theorem Prts.drew {w w' : World} {a : Option Addr} {l : List Prt} (h : Prts w a l) (hb : Drew w w') : Prts w' a l := h.below (hb.below _)
theorem Prts.take {w : World} {a : Option Addr} {l : List Prt} (h : Prts w a l) (k : Nat) : Prts w a (l.take k) := fun i hi => by
  have hi2 : i < l.length ∧ i < k := by simp only [len, List.length_take] at hi; omega
  have hi3 : i < (l.take k).length := hi
  have e : pnth (l.take k) i = pnth l i := by rw [pnth_eq l i hi2.1, pnth_eq _ i hi3, List.getElem_take]
  rw [e]; exact h i hi2.1
theorem Prts.drop {w : World} {b off : Nat} {l : List Prt} (h : Prts w (some ⟨b, off, none⟩) l) (k : Nat) : Prts w (some ⟨b, off + k * 5, none⟩) (l.drop k) := fun i hi => by
  have hi2 : k + i < l.length := by simp only [len, List.length_drop] at hi; omega
  have hi3 : i < (l.drop k).length := hi
  have e : pnth (l.drop k) i = pnth l (k + i) := by rw [pnth_eq l _ hi2, pnth_eq _ i hi3, List.getElem_drop]
  obtain ⟨b', off', e2, hc⟩ := h (k + i) hi2
  cases e2
  exact ⟨b, _, rfl, by rw [e, show off + k * 5 + i * 5 = off + (k + i) * 5 by omega]; exact hc⟩
theorem Prts.own {w : World} {base e n : Nat} {v : Value} {l : List Prt} (h : w.ownsRow base e 5 v n (l.flatMap Prt.cells)) : ∃ a cap, v = .slice a (len l) cap ∧ Prts w a l ∧ len l ≤ cap := by
  have hn : len l = n := by have := h.1; rw [flat_length Prt.cells 5 Prt.cells_len] at this; rw [len_eq]; omega
  obtain ⟨h1, h2⟩ := h
  rcases h2 with ⟨rfl, h2⟩ | ⟨g, cap, cur, rfl, hg, hh, hc1, hc2, hc3, hc4⟩
  · obtain rfl : l = [] := List.eq_nil_of_length_eq_zero (by rw [← len_eq]; omega)
    exact ⟨none, 0, rfl, Prts.nil _ _, Nat.le_refl _⟩
  · refine ⟨some ⟨g, 0, none⟩, cap, by rw [hn], fun i hi => ⟨g, 0, rfl, ?_⟩, by omega⟩
    have hown : w.ownsRow base e 5 (.slice (some ⟨g, 0, none⟩) n cap) n (l.flatMap Prt.cells) := ⟨h1, .inr ⟨g, cap, cur, rfl, hg, hh, hc1, hc2, hc3, hc4⟩⟩
    have key : ∀ r, r < 5 → w.cell? ⟨g, 0 + i * 5 + r, none⟩ = (pnth l i).cells[r]? := fun r hr => by
      have := hown.cellAt (i * 5 + r) (by rw [← hn]; omega)
      rw [Nat.zero_add, this, flat_get Prt.cells 5 Prt.cells_len l i r hi hr, pnth_eq l i hi]
    exact ⟨key 0 (by decide), key 1 (by decide), key 2 (by decide), key 3 (by decide), key 4 (by decide)⟩
theorem Prts.block {w : World} {g : Nat} {l : List Prt} {t : TypeId} {fr : Nat × Nat} (h : w.heap[g]? = some (.cells (l.flatMap Prt.cells).toArray t fr)) : Prts w (some ⟨g, 0, none⟩) l := fun i hi => ⟨g, 0, rfl, by
  have key : ∀ r, r < 5 → w.cell? ⟨g, 0 + i * 5 + r, none⟩ = (pnth l i).cells[r]? := fun r hr => by
    rw [Nat.zero_add, block_cell h, List.getElem?_toArray, flat_get Prt.cells 5 Prt.cells_len l i r hi hr, pnth_eq l i hi]
  exact ⟨key 0 (by decide), key 1 (by decide), key 2 (by decide), key 3 (by decide), key 4 (by decide)⟩⟩

/-- The numbers of a participant are uint64. -/
structure Prt.Ok (r : Prt) : Prop where
  wt0 : 0 ≤ r.wt
  wt1 : r.wt < 18446744073709551616
  fi0 : 0 ≤ r.first
  fi1 : r.first < 18446744073709551616
  li0 : 0 ≤ r.life
  li1 : r.life < 18446744073709551616
  ke0 : 0 ≤ r.keys
  ke1 : r.keys < 18446744073709551616
theorem Prt.zero_ok : Prt.zero.Ok := ⟨by decide, by decide, by decide, by decide, by decide, by decide, by decide, by decide⟩

/-- The weights of the first k together. -/
def wsum (l : List Prt) (k : Nat) : Int := match k with | 0 => 0 | k + 1 => wsum l k + (pnth l k).wt
theorem wsum_bd {l : List Prt} (h : ∀ i, (pnth l i).Ok) : ∀ k : Nat, 0 ≤ wsum l k ∧ wsum l k ≤ k * 18446744073709551615
  | 0 => ⟨by simp [wsum], by simp [wsum]⟩
  | k + 1 => by
    have ih := wsum_bd h k
    have a := (h k).wt0
    have b := (h k).wt1
    constructor
    · show 0 ≤ wsum l k + (pnth l k).wt; omega
    · show wsum l k + (pnth l k).wt ≤ _; omega
theorem wsum_mono {l : List Prt} (h : ∀ i, (pnth l i).Ok) {j : Nat} : ∀ {k : Nat}, j ≤ k → wsum l j ≤ wsum l k
  | 0, hk => by obtain rfl : j = 0 := by omega
                exact Int.le_refl _
  | k + 1, hk => by
    rcases Nat.lt_or_ge j (k + 1) with e | e
    · have := wsum_mono h (show j ≤ k by omega)
      have a := (h k).wt0
      show _ ≤ wsum l k + (pnth l k).wt; omega
    · obtain rfl : j = k + 1 := by omega
      exact Int.le_refl _

/-- A participant that may not be. -/
def lacksB (r : Prt) : Bool := decide (r.root.size ≠ 32) || decide (r.wt = 0)

theorem check1_any (r : Prt) (w : World) (hr : r.Ok) : Calls Try.prog 35 #[r.val] w fun e w' => e = .returned (.bool (lacksB r)) ∧ Below w.heap.size w w' := by
  by_cases h1 : r.root.size = 32
  · have a1 : ((r.root.size : Int) != 32) = false := by simp; omega
    have H1 := Lib.hid h1
    clear h1
    go_enter Try.func35, Try.ntmps35
    go_wp2
    go_ret
    exact ⟨ret_bool (by unfold lacksB; rw [H1.out]; simp; rw [Bool.eq_iff_iff]; simp), by (repeat (first | exact Below.refl _ _ | assumption | (refine bdrew ?_) | (refine bdrewN ?_ _) | (refine balloc ?_ _) | (refine bset ?_ (by first | omega | (simp; done) | (simp; omega)) _) | (refine bnext ?_ (by assumption))))⟩
  · have a1 : ((r.root.size : Int) != 32) = true := by simp; omega
    have H1 := Lib.hid h1
    clear h1
    go_enter Try.func35, Try.ntmps35
    go_wp2
    go_ret
    exact ⟨ret_bool (by unfold lacksB; simp [H1.out]), by (repeat (first | exact Below.refl _ _ | assumption | (refine bdrew ?_) | (refine bdrewN ?_ _) | (refine balloc ?_ _) | (refine bset ?_ (by first | omega | (simp; done) | (simp; omega)) _) | (refine bnext ?_ (by assumption))))⟩

/-- The first that may not be. -/
def lackIdx (l : List Prt) : Int := match l.findIdx? lacksB with | some i => i | none => -1
theorem lackIdx_hit {l : List Prt} {i : Nat} (hi : i < len l) (h : ∀ j, j < i → lacksB (pnth l j) = false) (h' : lacksB (pnth l i) = true) : lackIdx l = i := by
  have e : l.findIdx? lacksB = some i := by
    rw [List.findIdx?_eq_some_iff_getElem]
    refine ⟨hi, ?_, fun j hj => ?_⟩
    · rw [pnth_eq l i hi] at h'; simp [h']
    · have := h j hj; rw [pnth_eq l j (Nat.lt_trans hj hi)] at this; simp [this]
  unfold lackIdx; rw [e]
theorem lackIdx_none {l : List Prt} (h : ∀ j, j < len l → lacksB (pnth l j) = false) : lackIdx l = -1 := by
  have e : l.findIdx? lacksB = none := by
    rw [List.findIdx?_eq_none_iff]
    intro x hx
    obtain ⟨i, hi, rfl⟩ := List.getElem_of_mem hx
    have := h i hi; rw [pnth_eq l i hi] at this; simp [this]
  unfold lackIdx; rw [e]

/-- Is there one that may not be? -/
def lackB (l : List Prt) : Bool := decide (0 ≤ lackIdx l)
theorem lackB_true {l : List Prt} {i : Nat} (hi : i < len l) (h' : lacksB (pnth l i) = true) : lackB l = true := by
  unfold lackB
  simp only [decide_eq_true_eq]
  unfold lackIdx
  cases e : l.findIdx? lacksB with
  | some i => simp
  | none =>
    rw [List.findIdx?_eq_none_iff] at e
    rw [pnth_eq l i hi] at h'
    have := e l[i] (List.getElem_mem _)
    rw [h'] at this; cases this
theorem lackB_false {l : List Prt} (h : ∀ j, j < len l → lacksB (pnth l j) = false) : lackB l = false := by
  unfold lackB; rw [lackIdx_none h]; decide
theorem lackB_none {l : List Prt} (h : lackB l = false) : ∀ j, j < len l → lacksB (pnth l j) = false := fun j hj => by
  cases e : lacksB (pnth l j) with
  | false => rfl
  | true => rw [lackB_true hj e] at h; cases h

set_option maxRecDepth 100000 in
theorem indexP_any (a : Option Addr) (cap : Nat) (l : List Prt) (w : World) (hlen : len l ≤ 9223372036854775807) (hc : Prts w a l) (hok : ∀ i, (pnth l i).Ok) :
    Calls Try.prog 48 #[.slice a (len l) cap, .func (.func 35) #[] #[]] w
      fun e w' => e = .returned (.int .i64 (lackIdx l)) ∧ Below w.heap.size w w' := by
  have HC := Lib.hid hc
  have HO := Lib.hid hok
  clear hc hok
  go_enter Try.func48, Try.ntmps48
  go_wp2
  go_loopw [8] (fun i wr => ∃ m : Nat, m ≤ len l ∧ i = .int .i64 m ∧ Below w.heap.size w wr ∧ Hid (∀ j, j < m → lacksB (pnth l j) = false)) (fun i _ => len l - (intOf i).toNat)
  case atStart => exact ⟨0, Nat.zero_le _, rfl, Below.refl _ _, fun j hj => by omega⟩
  case round =>
    obtain ⟨m, hm, rfl, hd, hk⟩ := hrel
    by_cases hlt : m < len l
    · obtain ⟨b, off, rfl, ⟨c0, c1, c2, c3, c4⟩⟩ := HC.out.below hd m hlt
      have o1 := Lib.hid (HO.out m)
      by_cases hh : lacksB (pnth l m) = true
      all_goals
        have HH := Lib.hid hh
        try simp only [Bool.not_eq_true] at hh
        go_wp2_with fail
        clear c0 c1 c2 c3 c4
        go_wp2_with (go_at_call 35; refine (check1_any (pnth l m) _ o1.out).mono ?_; rintro e w1 ⟨rfl, hb⟩)
        first
          | (go_roundw
             case rel => exact ⟨m + 1, by omega, by go_num, (by (repeat (first | exact Below.refl _ _ | assumption | (refine bdrew ?_) | (refine bdrewN ?_ _) | (refine balloc ?_ _) | (refine bset ?_ (by first | omega | (simp; done) | (simp; omega)) _) | (refine bnext ?_ (by assumption))))), fun i hi => by
               by_cases e : i = m
               · subst e; simpa using HH.out
               · exact hk.out i (by omega)⟩
             case measure => simp [intOf]; omega)
          | (go_ret
             exact ⟨ret_int (lackIdx_hit hlt hk.out HH.out).symm, by (repeat (first | exact Below.refl _ _ | assumption | (refine bdrew ?_) | (refine bdrewN ?_ _) | (refine balloc ?_ _) | (refine bset ?_ (by first | omega | (simp; done) | (simp; omega)) _) | (refine bnext ?_ (by assumption))))⟩)
    · go_wp2
      go_ret
      exact ⟨ret_int (lackIdx_none (fun j hj => hk.out j (by omega))).symm, hd⟩

theorem containsP_any (a : Option Addr) (cap : Nat) (l : List Prt) (w : World) (hlen : len l ≤ 9223372036854775807) (hc : Prts w a l) (hok : ∀ i, (pnth l i).Ok) :
    Calls Try.prog 36 #[.slice a (len l) cap, .func (.func 35) #[] #[]] w
      fun e w' => e = .returned (.bool (lackB l)) ∧ Below w.heap.size w w' := by
  have HC := Lib.hid hc
  have HO := Lib.hid hok
  clear hc hok
  go_enter Try.func36, Try.ntmps36
  go_wp2_with (go_at_call 48; refine (indexP_any _ _ l _ hlen HC.out HO.out).mono ?_; rintro e w1 ⟨rfl, hb⟩)
  go_ret
  exact ⟨rfl, hb⟩

theorem add64_p (x y : Int) (hx : 0 ≤ x) (hy : 0 ≤ y) (w : World) : (callFunc 50 #[.int .u64 x, .int .u64 y, .int .u64 0]).run Try.prog w =
    .ok (.value (.tuple #[.int .u64 ((x + y) % 18446744073709551616), .int .u64 ((x + y) / 18446744073709551616)])) w := by
  rw [run_callFunc_extern (P := Try.prog) Try.func50 (by kernel_rfl) (by kernel_rfl) (by kernel_rfl) (e := add64Entry) (by kernel_rfl), run_add64 x y 0 hx hy (by omega) (by omega)]
  simp only [Result.andThen, Int.add_zero]

/-- Two words, and a number: what the words are then. -/
theorem plus_any (hi lo n : Int) (w : World) (h0 : 0 ≤ hi) (h1 : hi ≤ 9223372036854775807) (l0 : 0 ≤ lo) (l1 : lo < 18446744073709551616) (n0 : 0 ≤ n) (n1 : n < 18446744073709551616) :
    Calls Try.prog 49 #[.agg #[.int .u64 hi, .int .u64 lo], .int .u64 n] w
      fun e w' => e = .returned (.agg #[.int .u64 (hi + (lo + n) / 18446744073709551616), .int .u64 ((lo + n) % 18446744073709551616)]) ∧ Below w.heap.size w w' := by
  have b1 : 0 ≤ (lo + n) / 18446744073709551616 := by omega
  have b2 : (lo + n) / 18446744073709551616 ≤ 1 := by omega
  have i1 : IntKind.u64.wrap (hi + (lo + n) / 18446744073709551616) = hi + (lo + n) / 18446744073709551616 := IntWalk.u64_in _ (by omega)
  go_enter Try.func49, Try.ntmps49
  go_wp2_with (simp only [add64_p _ _ l0 n0])
  refine bodyPost_ret (v := .agg #[.int .u64 (hi + (lo + n) / 18446744073709551616), .int .u64 ((lo + n) % 18446744073709551616)]) (by simp [results, Try.results49, go_sem]) rfl ⟨rfl, ?_⟩
  (repeat (first | exact Below.refl _ _ | assumption | (refine bdrew ?_) | (refine bdrewN ?_ _) | (refine balloc ?_ _) | (refine bset ?_ (by first | omega | (simp; done) | (simp; omega)) _) | (refine bnext ?_ (by assumption))))
end Go.Proofs.Ytmcmapcijncblaa
