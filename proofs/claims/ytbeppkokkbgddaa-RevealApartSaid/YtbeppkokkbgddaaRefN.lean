/- The reference of layer 8: has, put. -/
import Derived.Test.YtbeppkokkbgddaaSame
import Derived.Laws.AppendOwnNone
namespace Go.Proofs.Ytbeppkokkbgddaa
open Go.RowKit
set_option linter.unusedSimpArgs false
set_option linter.unusedVariables false

/-- Is k one of the numbers? -/
def memB (k : Int) (l : List Int) : Bool := decide (k ∈ l)

theorem memB_true {k : Int} {l : List Int} {n : Nat} (h : n < len l) (e : nth l n = k) : memB k l = true := by
  unfold memB; rw [nth_eq l n h] at e; simp only [← e, decide_eq_true_eq]; exact List.getElem_mem _
theorem memB_false {k : Int} {l : List Int} (h : ∀ j, j < len l → nth l j ≠ k) : memB k l = false := by
  unfold memB
  simp only [decide_eq_false_iff_not]
  intro hm
  obtain ⟨i, hi, e⟩ := List.getElem_of_mem hm
  exact h i hi (by rw [nth_eq l i hi]; exact e)

set_option maxHeartbeats 400000 in
theorem has_any (a : Option Addr) (cap : Nat) (k : Int) (l : List Int) (w : World) (hlen : len l ≤ 9223372036854775807) (hc : U64s w a l) :
    Calls Try.prog 48 #[.slice a (len l) cap, .int .u64 k] w fun e w' => e = .returned (.bool (memB k l)) ∧ w' = w := by
  have HC := Lib.hid hc
  clear hc
  go_enter Try.func48, Try.ntmps48
  go_wp2
  go_loop [5] (fun i => ∃ n : Nat, n ≤ len l ∧ i = .int .i64 n ∧ Hid (∀ j, j < n → nth l j ≠ k)) (fun i => len l - (intOf i).toNat)
  case atStart => exact ⟨0, Nat.zero_le _, rfl, fun j hj => by omega⟩
  case round =>
    obtain ⟨n, hn, rfl, hk⟩ := hrel
    by_cases hlt : n < len l
    · obtain ⟨b, off, rfl, hcell⟩ := HC.out n hlt
      by_cases hh : nth l n = k
      · have hh' : (nth l n == k) = true := by simpa using hh
        have HH := Lib.hid hh
        clear hh
        go_wp2
        go_ret
        exact ⟨ret_bool (memB_true hlt HH.out).symm, rfl⟩
      · have hh' : (nth l n == k) = false := by simpa using hh
        have HH := Lib.hid hh
        clear hh
        go_wp2
        go_round
        case rel => exact ⟨n + 1, by omega, by go_num, fun j hj => by
          by_cases e : j = n
          · subst e; exact HH.out
          · exact hk.out j (by omega)⟩
        case measure => simp [intOf]; omega
    · go_wp2
      go_ret
      exact ⟨ret_bool (memB_false (fun j hj => hk.out j (by omega))).symm, rfl⟩


abbrev Rising (l : List Int) : Prop := l.Pairwise (fun x y => x < y)
theorem put_rising {l : List Int} {k : Int} {m : Nat} (hr : Rising l) (h1 : ∀ j, j < m → nth l j < k) (hm : m ≤ len l) (h2 : m < len l → k < nth l m) : Rising (l.take m ++ [k] ++ l.drop m) := by
  have h3 : ∀ x ∈ l.take m, x < k := by
    intro x hx
    obtain ⟨i, hi, rfl⟩ := List.getElem_of_mem hx
    have hi' : i < m := by simp at hi; omega
    have := h1 i hi'
    rw [nth_eq l i (by rw [len_eq] at hm; omega)] at this
    simpa using this
  have h4 : ∀ x ∈ l.drop m, k < x := by
    intro x hx
    by_cases hlt : m < len l
    · have hlt' : m < l.length := hlt
      rw [List.drop_eq_getElem_cons hlt'] at hx
      have h5 := h2 hlt
      rw [nth_eq l m hlt'] at h5
      rcases List.mem_cons.1 hx with rfl | hx
      · exact h5
      · have h6 : (l.drop m).Pairwise (fun x y => x < y) := List.Pairwise.drop hr
        rw [List.drop_eq_getElem_cons hlt', List.pairwise_cons] at h6
        have := h6.1 x hx
        omega
    · rw [List.drop_eq_nil_of_le (by rw [← len_eq]; omega)] at hx; cases hx
  refine List.pairwise_append.2 ⟨List.pairwise_append.2 ⟨hr.take, List.pairwise_singleton .., fun x hx y hy => ?_⟩, hr.drop, fun x hx y hy => ?_⟩
  · rw [List.mem_singleton] at hy; subst hy; exact h3 x hx
  · rcases List.mem_append.1 hx with hx | hx
    · have := h3 x hx; have := h4 y hy; omega
    · rw [List.mem_singleton] at hx; subst hx; exact h4 y hy
theorem put_mem (l : List Int) (k : Int) (m : Nat) (x : Int) : x ∈ l.take m ++ [k] ++ l.drop m ↔ x ∈ l ∨ x = k := by
  have h : x ∈ l ↔ x ∈ l.take m ∨ x ∈ l.drop m := by
    rw [← List.mem_append, List.take_append_drop]
  rw [h, List.mem_append, List.mem_append, List.mem_singleton]
  constructor
  · rintro ((h | h) | h)
    · exact .inl (.inl h)
    · exact .inr h
    · exact .inl (.inr h)
  · rintro ((h | h) | h)
    · exact .inl (.inl h)
    · exact .inr h
    · exact .inl (.inr h)
theorem put_len (l : List Int) (k : Int) (m : Nat) : len (l.take m ++ [k] ++ l.drop m) = len l + 1 := by
  rw [len_eq, len_eq]; simp; omega

def PutIs (base : Nat) (l : List Int) (k : Int) (w : World) (e : Ending) (w' : World) : Prop :=
  ∃ (v : Value) (l' : List Int), e = .returned v ∧ Rising l' ∧ (∀ x, x ∈ l' ↔ x ∈ l ∨ x = k) ∧ len l' ≤ len l + 1 ∧ w'.ownsRow base 22 1 v (len l') (l'.map (Value.int .u64)) ∧ Below w.heap.size w w'
theorem own_lower {w : World} {base b' e size n : Nat} {v : Value} {xs : List Value} (h : w.ownsRow base e size v n xs) (hb : b' ≤ base) : w.ownsRow b' e size v n xs :=
  ownsRow_later h (Below.refl _ _) hb

theorem part_len (l : List Int) (a n : Nat) (h : a + n ≤ len l) : (((l.drop a).take n).map (Value.int .u64)).length = n := by
  have : l.length = len l := rfl
  simp; omega
theorem part_one (l : List Int) : ∀ u ∈ l.map (Value.int .u64), u.oneCell' = true := by
  intro u hu
  obtain ⟨x, _, rfl⟩ := List.mem_map.1 hu
  rfl
theorem part_news (w : World) (g : Nat) (l : List Int) (h : ∀ j, j < len l → w.cell? ⟨g, j, none⟩ = some (.int .u64 (nth l j))) (a n : Nat) (han : a + n ≤ len l) : ∀ j u, (((l.drop a).take n).map (Value.int .u64))[j]? = some u → w.cell? ((⟨g, a, none⟩ : Addr).add j) = some u := by
  intro j u hu
  have hj : j < n := by
    have h1 := (List.getElem?_eq_some_iff.1 hu).1
    rw [part_len l a n han] at h1; exact h1
  have hjl : a + j < l.length := by have : l.length = len l := rfl; omega
  rw [List.getElem?_map, List.getElem?_take_of_lt hj, List.getElem?_drop, List.getElem?_eq_getElem hjl] at hu
  cases hu
  have h2 := h (a + j) hjl
  rw [nth_eq l (a + j) hjl] at h2
  have h3 : (⟨g, a, none⟩ : Addr).add j = ⟨g, a + j, none⟩ := by
    by_cases hj0 : j = 0
    · subst hj0; rfl
    · simp [Addr.add, hj0]
  rw [h3]; exact h2
theorem one_news (w : World) (v : Value) (t : TypeId) : ∀ j u, [v][j]? = some u → (w.alloc (.cells #[v] t)).cell? ((⟨w.heap.size, 0, none⟩ : Addr).add j) = some u := by
  intro j u hu
  cases j with
  | zero => simp at hu; subst hu; exact block_cell (heap_alloc_new _ _) 0
  | succ j => simp at hu
theorem put_xs1 (l : List Int) (k : Int) (m : Nat) (h : len l - m = 0) : List.take m (l.map (Value.int .u64)) ++ [.int .u64 k] = (l.take m ++ [k] ++ l.drop m).map (Value.int .u64) := by
  rw [List.drop_eq_nil_of_le (by rw [← len_eq]; omega)]; simp
theorem put_xs2 (l : List Int) (k : Int) (m : Nat) : List.take m (l.map (Value.int .u64)) ++ .int .u64 k :: List.take (len l - m) (List.drop m (l.map (Value.int .u64))) = (l.take m ++ [k] ++ l.drop m).map (Value.int .u64) := by
  rw [List.take_of_length_le (l := List.drop m _) (by rw [List.length_drop, List.length_map]; exact Nat.le_refl _)]
  simp
theorem put_end {base : Nat} {l : List Int} {k : Int} {m n : Nat} {w w' : World} {v : Value} (hm : m ≤ len l) (hr : Rising l) (hk : ∀ j, j < m → nth l j < k) (h2 : m < len l → k < nth l m) (hbase : base ≤ w.heap.size)
    {xs : List Value} (hx : xs = (l.take m ++ [k] ++ l.drop m).map (Value.int .u64)) (hown : w'.ownsRow w.heap.size 22 1 v n xs) (hb : Below w.heap.size w w') : PutIs base l k w (.returned v) w' := by
  subst hx
  have hn : n = len (l.take m ++ [k] ++ l.drop m) := by
    have := hown.1
    rw [List.length_map, Nat.mul_one] at this
    rw [len_eq]; exact this.symm
  subst hn
  exact ⟨v, _, rfl, put_rising hr hk hm h2, put_mem l k m, by rw [put_len]; exact Nat.le_refl _, own_lower hown hbase, hb⟩

set_option maxRecDepth 100000 in
set_option maxHeartbeats 2000000 in
theorem put_any (base : Nat) (v0 : Value) (l : List Int) (k : Int) (w : World) (hown : w.ownsRow base 22 1 v0 (len l) (l.map (Value.int .u64))) (hr : Rising l) (hlen : len l ≤ 1000) (hbase : base ≤ w.heap.size) :
    Calls Try.prog 47 #[v0, .int .u64 k] w (PutIs base l k w) := by
  obtain ⟨i0, hi, hz0, hz1, hz2⟩ := info_parts info_u64
  have HR := Lib.hid hr
  have HOWN := Lib.hid hown
  clear hr
  rcases hown.2 with ⟨rfl, h2⟩ | ⟨g, cap, cur, rfl, hg, hh, hc1, hc2, hc3, hc4⟩
  · obtain rfl : l = [] := List.eq_nil_of_length_eq_zero (by rw [← len_eq]; omega)
    clear hown h2
    have W0 : w.ownsRow w.heap.size 22 1 (.slice none 0 0) 0 [] := World.ownsRow_nil _ _ _ _
    have HW0 := Lib.hid W0
    clear W0
    show Calls Try.prog 47 #[.slice none 0 0, .int .u64 k] w _
    have l0 : len ([] : List Int) = 0 := rfl
    go_enter Try.func47, Try.ntmps47
    go_wp2_with fail
    refine wp_loop_rounds 1 ?_
    rw [rounds_succ]
    go_wp2_with (first | (at_builtin; refine wpList_append_own_none rfl _ _ 28 rfl w.heap.size 22 i0 1 Try.underlying28 hi _ _ _ rfl HW0.out rfl ?_) | (at_builtin; refine wpList_append_own _ rfl _ _ 28 rfl w.heap.size 22 i0 (.int .u64 0) 1 8 Try.underlying28 hi hz0 hz1 hz2 rfl (by decide) _ _ _ rfl (HW0.out.alloc _) ⟨w.heap.size, 0, none⟩ 1 1 [.int .u64 k] rfl rfl ?c1 ?c2 ?c3 ?c4 ?c5 ?_))
    case c1 =>
      intro j u hu
      cases j with
      | zero => simp at hu; subst hu; exact block_cell (heap_alloc_new _ _) 0
      | succ j => simp at hu
    case c2 => intro u hu; simp at hu; subst hu; rfl
    case c3 => unfold maxLen; omega
    case c4 => omega
    case c5 => simp
    intro v' w2 hown' hgrow _
    have hb2 : Below w.heap.size w w2 := grownBy_below (balloc (Below.refl _ _) _) hgrow (fun k hk' => by simp [Value.ownBlock] at hk')
    obtain ⟨g', cap', rfl⟩ := ownsRow_succ hown'
    have HO2 := Lib.hid hown'
    clear hown' hgrow
    go_wp2_with (at_builtin; refine wpList_append_own_none rfl _ _ 28 rfl w.heap.size 22 i0 1 Try.underlying28 hi _ _ _ rfl HO2.out rfl ?_)
    go_wp2
    go_ret
    exact ⟨_, [k], rfl, List.pairwise_singleton .., fun x => by simp, Nat.le_refl _, own_lower HO2.out hbase, hb2⟩
  · have hlc : len l ≤ cap := by omega
    have HC : Hid (∀ j, j < len l → w.cell? ⟨g, j, none⟩ = some (.int .u64 (nth l j))) := Lib.hid (fun j hj => by
      have := hown.cellAt j (by omega)
      rw [this, List.getElem?_map, List.getElem?_eq_getElem (by simpa [len_eq] using hj), nth_eq l j (by simpa [len_eq] using hj)]; rfl)
    have hgl : g < w.heap.size := (Array.getElem?_eq_some_iff.1 hh).1
    clear hown hh hc3 hc4 hc1
    have W0 : w.ownsRow w.heap.size 22 1 (.slice none 0 0) 0 [] := World.ownsRow_nil _ _ _ _
    have HW0 := Lib.hid W0
    clear W0
    have HZ := Lib.hid hz0
    go_enter Try.func47, Try.ntmps47
    go_wp2
    go_loopg [5] (len l) (fun g i wr => ∃ m : Nat, g + m = len l ∧ i = .int .i64 m ∧ Hid (∀ j, j < m → nth l j < k) ∧ w = wr)
    case atStart => exact ⟨0, rfl, rfl, fun j hj => by omega, rfl⟩
    case round =>
      obtain ⟨m, hm, rfl, hk, rfl⟩ := hrel
      by_cases hlt : m < len l
      · have hcell := HC.out m hlt
        by_cases h1 : nth l m < k
        · go_wp2
          go_roundg (len l - (m + 1))
          case rel => exact ⟨m + 1, by omega, by go_num, Lib.hid (fun j hj => by
            by_cases e : j = m
            · subst e; exact h1
            · exact hk.out j (by omega)), rfl⟩
          case measure => omega
        · by_cases h3 : nth l m = k
          · have h3' : (nth l m == k) = true := by simpa using h3
            have H3 := Lib.hid h3
            clear h3
            go_wp2
            go_ret
            exact ⟨_, l, rfl, HR.out, fun x => ⟨.inl, fun h => by
              rcases h with h | h
              · exact h
              · rw [h, ← H3.out, nth_eq l m hlt]; exact List.getElem_mem _⟩, by omega, HOWN.out, Below.refl _ _⟩
          · have h3' : (nth l m == k) = false := by simpa using h3
            have H4 : Hid (m < len l → k < nth l m) := Lib.hid (fun _ => by omega)
            have HK := Lib.hid hk.out
            clear h3 hk
            have hmc : m ≤ cap := by omega
            have hml : m ≤ len l := by omega
            go_wp2_with (at_builtin; refine wpList_append_own _ rfl _ _ 28 rfl w.heap.size 22 i0 (.int .u64 0) 1 8 Try.underlying28 hi HZ.out hz1 hz2 rfl (by decide) _ _ _ rfl HW0.out ⟨g, 0, none⟩ _ _ (((l.drop 0).take m).map (Value.int .u64)) rfl (by rw [part_len l 0 m (by omega)]; simp) (part_news w g l HC.out 0 m (by omega)) (part_one _) (by unfold maxLen; omega) (by omega) (Nat.le_refl _) ?_)
            intro v1 w1 hown1 hgrow1 _
            have HB1 : Hid (Below w.heap.size w w1) := Lib.hid (grownBy_below (Below.refl _ _) hgrow1 (fun k hk' => by simp [Value.ownBlock] at hk'))
            have HO1 := Lib.hid hown1
            clear hown1 hgrow1
            go_wp2_with (at_builtin; refine wpList_append_own _ rfl _ _ 28 rfl w.heap.size 22 i0 (.int .u64 0) 1 8 Try.underlying28 hi HZ.out hz1 hz2 rfl (by decide) _ _ _ rfl (HO1.out.alloc _) ⟨w1.heap.size, 0, none⟩ 1 1 [.int .u64 k] rfl rfl (one_news _ _ _) (by intro u hu; simp at hu; subst hu; rfl) (by unfold maxLen; omega) (by omega) (by have := HB1.out.size; simp; omega) ?_)
            intro v2 w2 hown2 hgrow2 _
            have HB2 : Hid (Below w.heap.size w w2) := Lib.hid (grownBy_below (balloc HB1.out _) hgrow2 (fun k hk' => (HO1.out.lt k hk').1))
            have HO2 := Lib.hid hown2
            clear hown2 hgrow2
            have HC2 : Hid (∀ j, j < len l → w2.cell? ⟨g, j, none⟩ = some (.int .u64 (nth l j))) := Lib.hid (fun j hj => by rw [HB2.out.cell (p := ⟨g, j, none⟩) hgl]; exact HC.out j hj)
            have HE : Hid (PutIs base l k w = PutIs base l k w) := Lib.hid rfl
            by_cases hcm : cap = m
            · have hz : len l - m = 0 := by omega
              go_wp2_with (at_builtin; refine wpList_append_own _ rfl _ _ 28 rfl w.heap.size 22 i0 (.int .u64 0) 1 8 Try.underlying28 hi HZ.out hz1 hz2 rfl (by decide) _ _ _ rfl HO2.out _ _ _ (((l.drop m).take (len l - m)).map (Value.int .u64)) rfl (by rw [part_len l m (len l - m) (by omega)]; omega) (by intro j u hu; rw [hz] at hu; simp at hu) (part_one _) (by unfold maxLen; omega) (by omega) HB2.out.size ?_)
              intro v3 w3 hown3 hgrow3 _
              have HB3 : Hid (Below w.heap.size w w3) := Lib.hid (grownBy_below HB2.out hgrow3 (fun k hk' => (HO2.out.lt k hk').1))
              have HO3 := Lib.hid hown3
              clear hown3 hgrow3
              go_wp2
              go_ret
              exact put_end hml HR.out HK.out H4.out hbase (put_xs1 l k m hz) HO3.out HB3.out
            · have hcm2 : m < cap := by omega
              go_wp2_with (at_builtin; refine wpList_append_own _ rfl _ _ 28 rfl w.heap.size 22 i0 (.int .u64 0) 1 8 Try.underlying28 hi HZ.out hz1 hz2 rfl (by decide) _ _ _ rfl HO2.out ⟨g, m, none⟩ _ _ (((l.drop m).take (len l - m)).map (Value.int .u64)) rfl (by rw [part_len l m (len l - m) (by omega)]; omega) (part_news w2 g l HC2.out m (len l - m) (by omega)) (part_one _) (by unfold maxLen; omega) (by omega) HB2.out.size ?_)
              intro v3 w3 hown3 hgrow3 _
              have HB3 : Hid (Below w.heap.size w w3) := Lib.hid (grownBy_below HB2.out hgrow3 (fun k hk' => (HO2.out.lt k hk').1))
              have HO3 := Lib.hid hown3
              clear hown3 hgrow3
              go_wp2
              go_ret
              exact put_end hml HR.out HK.out H4.out hbase (put_xs2 l k m) HO3.out HB3.out
      · have H4 : Hid (m < len l → k < nth l m) := Lib.hid (fun h => absurd h hlt)
        have HK := Lib.hid hk.out
        clear hk
        have hmc : m ≤ cap := by omega
        have hml : m ≤ len l := by omega
        go_wp2_with (at_builtin; refine wpList_append_own _ rfl _ _ 28 rfl w.heap.size 22 i0 (.int .u64 0) 1 8 Try.underlying28 hi HZ.out hz1 hz2 rfl (by decide) _ _ _ rfl HW0.out ⟨g, 0, none⟩ _ _ (((l.drop 0).take m).map (Value.int .u64)) rfl (by rw [part_len l 0 m (by omega)]; simp) (part_news w g l HC.out 0 m (by omega)) (part_one _) (by unfold maxLen; omega) (by omega) (Nat.le_refl _) ?_)
        intro v1 w1 hown1 hgrow1 _
        have HB1 : Hid (Below w.heap.size w w1) := Lib.hid (grownBy_below (Below.refl _ _) hgrow1 (fun k hk' => by simp [Value.ownBlock] at hk'))
        have HO1 := Lib.hid hown1
        clear hown1 hgrow1
        go_wp2_with (at_builtin; refine wpList_append_own _ rfl _ _ 28 rfl w.heap.size 22 i0 (.int .u64 0) 1 8 Try.underlying28 hi HZ.out hz1 hz2 rfl (by decide) _ _ _ rfl (HO1.out.alloc _) ⟨w1.heap.size, 0, none⟩ 1 1 [.int .u64 k] rfl rfl (one_news _ _ _) (by intro u hu; simp at hu; subst hu; rfl) (by unfold maxLen; omega) (by omega) (by have := HB1.out.size; simp; omega) ?_)
        intro v2 w2 hown2 hgrow2 _
        have HB2 : Hid (Below w.heap.size w w2) := Lib.hid (grownBy_below (balloc HB1.out _) hgrow2 (fun k hk' => (HO1.out.lt k hk').1))
        have HO2 := Lib.hid hown2
        clear hown2 hgrow2
        have HC2 : Hid (∀ j, j < len l → w2.cell? ⟨g, j, none⟩ = some (.int .u64 (nth l j))) := Lib.hid (fun j hj => by rw [HB2.out.cell (p := ⟨g, j, none⟩) hgl]; exact HC.out j hj)
        have HE : Hid (PutIs base l k w = PutIs base l k w) := Lib.hid rfl
        by_cases hcm : cap = m
        · have hz : len l - m = 0 := by omega
          go_wp2_with (at_builtin; refine wpList_append_own _ rfl _ _ 28 rfl w.heap.size 22 i0 (.int .u64 0) 1 8 Try.underlying28 hi HZ.out hz1 hz2 rfl (by decide) _ _ _ rfl HO2.out _ _ _ (((l.drop m).take (len l - m)).map (Value.int .u64)) rfl (by rw [part_len l m (len l - m) (by omega)]; omega) (by intro j u hu; rw [hz] at hu; simp at hu) (part_one _) (by unfold maxLen; omega) (by omega) HB2.out.size ?_)
          intro v3 w3 hown3 hgrow3 _
          have HB3 : Hid (Below w.heap.size w w3) := Lib.hid (grownBy_below HB2.out hgrow3 (fun k hk' => (HO2.out.lt k hk').1))
          have HO3 := Lib.hid hown3
          clear hown3 hgrow3
          go_wp2
          go_ret
          exact put_end hml HR.out HK.out H4.out hbase (put_xs1 l k m hz) HO3.out HB3.out
        · have hcm2 : m < cap := by omega
          go_wp2_with (at_builtin; refine wpList_append_own _ rfl _ _ 28 rfl w.heap.size 22 i0 (.int .u64 0) 1 8 Try.underlying28 hi HZ.out hz1 hz2 rfl (by decide) _ _ _ rfl HO2.out ⟨g, m, none⟩ _ _ (((l.drop m).take (len l - m)).map (Value.int .u64)) rfl (by rw [part_len l m (len l - m) (by omega)]; omega) (part_news w2 g l HC2.out m (len l - m) (by omega)) (part_one _) (by unfold maxLen; omega) (by omega) HB2.out.size ?_)
          intro v3 w3 hown3 hgrow3 _
          have HB3 : Hid (Below w.heap.size w w3) := Lib.hid (grownBy_below HB2.out hgrow3 (fun k hk' => (HO2.out.lt k hk').1))
          have HO3 := Lib.hid hown3
          clear hown3 hgrow3
          go_wp2
          go_ret
          exact put_end hml HR.out HK.out H4.out hbase (put_xs2 l k m) HO3.out HB3.out
end Go.Proofs.Ytbeppkokkbgddaa
