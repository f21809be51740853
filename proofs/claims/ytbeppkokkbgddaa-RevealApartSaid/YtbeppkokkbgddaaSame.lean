/- The statements of layer 8: same; what Needs gives back, read. -/
import Derived.Test.YtbeppkokkbgddaaNeedsB
namespace Go.Proofs.Ytbeppkokkbgddaa
open Go.RowKit
set_option linter.unusedSimpArgs false
set_option linter.unusedVariables false

/-- A row of a list of rows. -/
def rnth (rs : List (List Int)) (i : Nat) : List Int := rs.getD i []
theorem rnth_eq (rs : List (List Int)) (i : Nat) (h : i < rs.length) : rnth rs i = rs[i] := by
  unfold rnth; rw [List.getD_eq_getElem?_getD, List.getElem?_eq_getElem h]; rfl
/-- A slice of slices that reads as these rows. -/
def Rows2 (w : World) (a : Option Addr) (rs : List (List Int)) : Prop :=
  ∀ i, i < len rs → ∃ b off ai ci, a = some ⟨b, off, none⟩ ∧ w.cell? ⟨b, off + i, none⟩ = some (.slice ai (len (rnth rs i)) ci) ∧ U64s w ai (rnth rs i) ∧ len (rnth rs i) ≤ ci
theorem Rows2.below {w w' : World} {a : Option Addr} {rs : List (List Int)} (h : Rows2 w a rs) (hb : Below w.heap.size w w') : Rows2 w' a rs := fun i hi => by
  obtain ⟨b, off, ai, ci, rfl, h1, h2, h3⟩ := h i hi
  exact ⟨b, off, ai, ci, rfl, by rw [hb.cell (p := ⟨b, off + i, none⟩) (lt_of_cell h1)]; exact h1, h2.below hb, h3⟩
theorem Rows2.drew {w w' : World} {a : Option Addr} {rs : List (List Int)} (h : Rows2 w a rs) (hb : Drew w w') : Rows2 w' a rs := h.below (hb.below _)
theorem Rows2.nil (w : World) (a : Option Addr) : Rows2 w a [] := fun i h => by simp [len] at h

theorem own_u64 {w : World} {base n : Nat} {v : Value} {l : List Int} (h : w.ownsRow base 22 1 v n (l.map (Value.int .u64))) : ∃ a cap, v = .slice a (len l) cap ∧ U64s w a l ∧ len l ≤ cap ∧ cap ≤ maxLen := by
  have hn : len l = n := by have := h.1; rw [len_eq]; simpa using this
  rcases h.2 with ⟨rfl, h2⟩ | ⟨g, cap, cur, rfl, hg, hh, hc1, hc2, hc3, hc4⟩
  · obtain rfl : l = [] := List.eq_nil_of_length_eq_zero (by rw [← len_eq]; omega)
    exact ⟨none, 0, rfl, U64s.nil _ _, Nat.le_refl _, Nat.zero_le _⟩
  · refine ⟨some ⟨g, 0, none⟩, cap, by rw [hn], fun i hi => ⟨g, 0, rfl, ?_⟩, by omega, hc2⟩
    have := h.cellAt i (by omega)
    rw [Nat.zero_add, this, List.getElem?_map, List.getElem?_eq_getElem hi, nth_eq l i hi]; rfl
/-- What Needs gives back, read. -/
theorem rows2_of {w : World} {base : Nat} {v : Value} {vals : List Value} {rs : List (List Int)} (h : w.ownsRow base 28 1 v vals.length vals) (hr : RowsAre w base vals rs) : ∃ a cap, v = .slice a (len rs) cap ∧ Rows2 w a rs ∧ len rs ≤ cap ∧ cap ≤ maxLen := by
  have hn : len rs = vals.length := hr.1.symm
  rcases h.2 with ⟨rfl, h2⟩ | ⟨g, cap, cur, rfl, hg, hh, hc1, hc2, hc3, hc4⟩
  · obtain rfl : rs = [] := List.eq_nil_of_length_eq_zero (by rw [← len_eq]; omega)
    exact ⟨none, 0, rfl, Rows2.nil _ _, Nat.le_refl _, Nat.zero_le _⟩
  · refine ⟨some ⟨g, 0, none⟩, cap, by rw [hn], fun i hi => ?_, by omega, hc2⟩
    obtain ⟨u, h1, h2⟩ := hr.2 i hi
    obtain ⟨a, c, rfl, h3, h4, h5⟩ := own_u64 h2
    have h6 := h.cellAt i (by omega)
    rw [h1] at h6
    rw [rnth_eq rs i hi]
    exact ⟨g, 0, a, c, rfl, by rw [Nat.zero_add]; exact h6, h3, h4⟩

def sameB (ra rb : List (List Int)) : Bool := decide (ra = rb)
theorem nths_eq {a b : List Int} (hl : len a = len b) (h : ∀ i, i < len a → nth a i = nth b i) : a = b := by
  apply List.ext_getElem hl
  intro i h1 h2
  have := h i h1
  rw [nth_eq a i h1, nth_eq b i h2] at this
  exact this
theorem rnths_eq {a b : List (List Int)} (hl : len a = len b) (h : ∀ i, i < len a → rnth a i = rnth b i) : a = b := by
  apply List.ext_getElem hl
  intro i h1 h2
  have := h i h1
  rw [rnth_eq a i h1, rnth_eq b i h2] at this
  exact this

set_option maxRecDepth 100000 in
set_option maxHeartbeats 2000000 in
theorem same_any (a b : Option Addr) (ca cb : Nat) (ra rb : List (List Int)) (w : World) (ha : Rows2 w a ra) (hb : Rows2 w b rb) (la : len ra ≤ 9223372036854775807) (lb : len rb ≤ 9223372036854775807) (hu : ∀ i, len (rnth ra i) ≤ 9223372036854775807) :
    Calls Try.prog 22 #[.slice a (len ra) ca, .slice b (len rb) cb] w fun e w' => e = .returned (.bool (sameB ra rb)) ∧ Drew w w' := by
  have HA := Lib.hid ha
  have HB := Lib.hid hb
  have HU := Lib.hid hu
  clear ha hb hu
  by_cases hl : len ra = len rb
  · have e0 : ((len ra : Int) != (len rb : Int)) = false := by simp; omega
    have HL := Lib.hid hl
    clear hl
    go_enter Try.func22, Try.ntmps22
    go_wp2
    go_loopg [5] (len ra) (fun g i wr => ∃ m : Nat, g + m = len ra ∧ i = .int .i64 m ∧ Hid (∀ j, j < m → rnth ra j = rnth rb j) ∧ Drew w wr)
    case atStart => exact ⟨0, rfl, rfl, fun j hj => by omega, Drew.refl w⟩
    case round =>
      obtain ⟨m, hm, rfl, heq, hd⟩ := hrel
      by_cases hlt : m < len ra
      · obtain ⟨ba, oa, xa, ka, rfl, a1, a2, a3⟩ := (HA.out.drew hd) m hlt
        obtain ⟨bb, ob, xb, kb, rfl, b1, b2, b3⟩ := (HB.out.drew hd) m (by have := HL.out; omega)
        have i0 : (0 : Int) ≤ m := by omega
        have i1 : (m : Int) < len ra := by omega
        have i2 : (m : Int) < len rb := by have := HL.out; omega
        have A2 := Lib.hid a2
        have B2 := Lib.hid b2
        clear a2 b2
        by_cases hq : len (rnth ra m) = len (rnth rb m)
        · have e1 : ((len (rnth ra m) : Int) != (len (rnth rb m) : Int)) = false := by simp; omega
          have HQ := Lib.hid hq
          have uu := HU.out m
          clear hq
          go_wp2
          go_quiet (fail)
          go_wp2
          obtain ⟨GK, hGK⟩ : ∃ G, G = gk := ⟨_, rfl⟩
          subst hGK
          obtain ⟨wo, hwo⟩ : ∃ wo : World, wo = wr := ⟨_, rfl⟩
          subst hwo
          go_loopg [6] (len (rnth ra m)) (fun g i wr => ∃ n : Nat, g + n = len (rnth ra m) ∧ i = .int .i64 n ∧ Hid (∀ j, j < n → nth (rnth ra m) j = nth (rnth rb m) j) ∧ Drew w wr)
          case atStart => exact ⟨0, rfl, rfl, fun j hj => by omega, hd.drewN _⟩
          case round =>
            clear a1 b1
            obtain ⟨n, hn, rfl, hne, hd⟩ := hrel
            obtain ⟨ba', oa', xa', ka', ea, a1, a2, a3⟩ := (HA.out.drew hd) m hlt
            cases ea
            obtain ⟨bb', ob', xb', kb', eb, b1, b2, b3⟩ := (HB.out.drew hd) m (by have := HL.out; omega)
            cases eb
            by_cases hn2 : n < len (rnth ra m)
            · have j0 : (0 : Int) ≤ n := by omega
              have j1 : (n : Int) < len (rnth ra m) := by omega
              have j2 : (n : Int) < len (rnth rb m) := by have := HQ.out; omega
              have a2' := a2 n hn2
              have b2' := b2 n (by have := HQ.out; omega)
              obtain ⟨ya, pa, rfl, a4⟩ := a2'
              obtain ⟨yb, pb, rfl, b4⟩ := b2'
              clear a2 b2
              obtain ⟨p, hp⟩ : ∃ p, nth (rnth ra m) n = p := ⟨_, rfl⟩
              obtain ⟨q, hq⟩ : ∃ q, nth (rnth rb m) n = q := ⟨_, rfl⟩
              rw [hp] at a4
              rw [hq] at b4
              have HP := Lib.hid hp
              have HQ2 := Lib.hid hq
              clear hp hq
              by_cases hpq : p = q
              · have e2 : (p != q) = false := by simp [hpq]
                have HPQ := Lib.hid hpq
                clear hpq
                go_wp2
                go_quiet (fail)
                go_wp2
                go_roundg (gk - 1)
                case rel => exact ⟨n + 1, by omega, by go_num, (fun j hj => by
                  by_cases e : j = n
                  · subst e; rw [HP.out, HQ2.out, HPQ.out]
                  · exact hne.out j (by omega)), hd.drewN _⟩
                case measure => omega
              · have e2 : (p != q) = true := by simp [hpq]
                have HPQ := Lib.hid hpq
                clear hpq
                go_wp2
                go_quiet (fail)
                go_wp2
                go_ret
                exact ⟨ret_bool (Eq.symm (decide_eq_false (fun e => HPQ.out (by rw [← HP.out, ← HQ2.out, e])))), hd.drewN _⟩
            · obtain rfl : n = len (rnth ra m) := by omega
              have HH := Lib.hid (nths_eq HQ.out hne.out)
              clear a2 b2
              go_wp2
              go_roundg (GK - 1)
              case rel => exact ⟨m + 1, by omega, by go_num, (fun j hj => by
                by_cases e : j = m
                · subst e; exact HH.out
                · exact heq.out j (by omega)), hd⟩
              case measure => omega
        · have e1 : ((len (rnth ra m) : Int) != (len (rnth rb m) : Int)) = true := by simp; omega
          have HQ := Lib.hid hq
          clear hq
          go_wp2
          go_quiet (fail)
          go_wp2
          go_ret
          exact ⟨ret_bool (Eq.symm (decide_eq_false (fun e => HQ.out (by rw [e])))), hd.drewN _⟩
      · obtain rfl : m = len ra := by omega
        have HH := Lib.hid (rnths_eq HL.out heq.out)
        go_wp2
        go_ret
        exact ⟨ret_bool (Eq.symm (decide_eq_true HH.out)), hd⟩
  · have e0 : ((len ra : Int) != (len rb : Int)) = true := by simp; omega
    have HL := Lib.hid hl
    clear hl
    go_enter Try.func22, Try.ntmps22
    go_wp2
    go_ret
    exact ⟨ret_bool (Eq.symm (decide_eq_false (fun e => HL.out (by rw [e])))), Drew.refl w⟩
end Go.Proofs.Ytbeppkokkbgddaa
