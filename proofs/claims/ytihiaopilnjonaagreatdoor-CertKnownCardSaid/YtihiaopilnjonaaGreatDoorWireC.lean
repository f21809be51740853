/- Package slices at fields: Clone, DeleteFunc. -/
import Derived.Test.YtihiaopilnjonaaGreatDoorWireB
import Derived.Lib.SliceRun
import Derived.Laws.EntriesVeiled
namespace Go.Proofs.YtihiaopilnjonaaGreatDoor
open Go.RowKit
set_option linter.unusedSimpArgs false
set_option linter.unusedVariables false

theorem info_field : (Tryz.prog.info? 172).map (fun i => (i.zero, i.size, i.bytes)) = some (some (.agg #[.string ByteArray.empty, .bool false, .nilFunc, .nilFunc, .nilFunc, .nilFunc]), 6, 56) := by kernel_rfl
theorem flds_news {w : World} {b off : Nat} {l : List FVal} (h : Flds w (some ⟨b, off, none⟩) l) : ∀ j u, (l.flatMap FVal.cells)[j]? = some u → w.cell? ((⟨b, off, none⟩ : Addr).add j) = some u := by
  intro j u hu
  have hj : j < (l.flatMap FVal.cells).length := (List.getElem?_eq_some_iff.1 hu).1
  rw [flat_length FVal.cells 6 FVal.cells_len] at hj
  have hi : j / 6 < l.length := by omega
  have e := flat_get FVal.cells 6 FVal.cells_len l (j / 6) (j % 6) hi (by omega)
  rw [show j / 6 * 6 + j % 6 = j by omega] at e
  rw [e] at hu
  obtain ⟨b', off', e2, c0, c1, c2, c3, c4, c5⟩ := h (j / 6) hi
  cases e2
  rw [fth_eq l _ hi] at c0 c1 c2 c3 c4 c5
  have ha : (⟨b, off, none⟩ : Addr).add j = ⟨b, off + j, none⟩ := by
    unfold Addr.add; split
    · rename_i h0; subst h0; rfl
    · rfl
  rw [ha]
  have hr : j % 6 = 0 ∨ j % 6 = 1 ∨ j % 6 = 2 ∨ j % 6 = 3 ∨ j % 6 = 4 ∨ j % 6 = 5 := by omega
  have hq : off + j = off + j / 6 * 6 + j % 6 := by omega
  rw [hq]
  rcases hr with h0 | h0 | h0 | h0 | h0 | h0 <;> rw [h0] at hu ⊢
  · rw [Nat.add_zero, c0]; exact hu
  · rw [c1]; exact hu
  · rw [c2]; exact hu
  · rw [c3]; exact hu
  · rw [c4]; exact hu
  · rw [c5]; exact hu
theorem flds_one (l : List FVal) : ∀ u ∈ l.flatMap FVal.cells, u.oneCell' = true := by
  intro u hu
  obtain ⟨v, _, hv⟩ := List.mem_flatMap.1 hu
  exact v.cells_one u hv

set_option maxRecDepth 100000 in
theorem clone_any (b off c : Nat) (l : List FVal) (w : World) (hl : Flds w (some ⟨b, off, none⟩) l) (hn : len l ≤ 1000) :
    Calls Tryz.prog 173 #[.slice (some ⟨b, off, none⟩) (len l) c] w fun e w' => ∃ v, e = .returned v ∧ w'.ownsRow w.heap.size 172 6 v (len l) (l.flatMap FVal.cells) ∧ Below w.heap.size w w' := by
  have HL := Lib.hid hl
  obtain ⟨i0, hi, hz0, hz1, hz2⟩ := info_parts info_field
  have HZ := Lib.hid hz0
  have E0 : Hid ((w.alloc (.cells #[] 172)).ownsRow w.heap.size 172 6 (.slice (some ⟨w.heap.size, 0, none⟩) 0 0) 0 []) := Lib.hid (World.ownsRow_lit w #[] 0 (Nat.le_refl _) (Nat.zero_le _) rfl)
  have heq : ∀ W, (binOp .eql 113 (.slice (some ⟨b, off, none⟩) (len l) c) (.slice none 0 0)).run Tryz.prog W = .ok (.bool false) W := fun W => Lib.run_eql_slice_nil W 113 172 (some ⟨b, off, none⟩) (len l) c 0 0 Tryz.underlying113
  clear hl hz0
  go_enter Tryz.func173, Tryz.ntmps173
  go_wp2_with (at_builtin; refine wpList_append_own _ rfl _ _ 113 rfl w.heap.size 172 i0 (.agg #[.string ByteArray.empty, .bool false, .nilFunc, .nilFunc, .nilFunc, .nilFunc]) 6 56 Tryz.underlying113 hi HZ.out hz1 hz2 rfl (by decide) _ 0 [] rfl E0.out ⟨b, off, none⟩ (len l) c (l.flatMap FVal.cells) rfl (flat_length FVal.cells 6 FVal.cells_len l) (flds_news (HL.out.below (balloc (Below.refl _ _) _))) (flds_one l) (by unfold maxLen; omega) (by omega) (by simp) ?_)
  intro v' w2 hown hgrow _
  have HB : Hid (Below w.heap.size w w2) := Lib.hid (grownBy_below (balloc (Below.refl _ _) _) hgrow (fun k hk => by simp [Value.ownBlock] at hk; omega))
  have HO : Hid (w2.ownsRow w.heap.size 172 6 v' (len l) (l.flatMap FVal.cells)) := Lib.hid (by simpa using hown)
  clear hown hgrow
  go_wp2
  go_ret
  exact ⟨_, rfl, HO.out, HB.out⟩

/-- A row of fields that is being written. -/
def RowC (w : World) (g n : Nat) (R : List FVal) : Prop := len R = n ∧ ∃ cur, w.heap[g]? = some (.cells cur 172 (0, 0)) ∧ n * 6 ≤ cur.size ∧ ∀ i, i < n → ∀ r, r < 6 → cur[i * 6 + r]? = (fth R i).cells[r]?
theorem RowC.of_own {w : World} {base n : Nat} {v : Value} {l : List FVal} (h : w.ownsRow base 172 6 v n (l.flatMap FVal.cells)) (hn : 0 < n) : ∃ g cap, v = .slice (some ⟨g, 0, none⟩) n cap ∧ base ≤ g ∧ n ≤ cap ∧ RowC w g n l := by
  have hl : len l = n := by have := h.1; rw [flat_length FVal.cells 6 FVal.cells_len] at this; rw [len_eq]; omega
  rcases h.2 with ⟨_, h0⟩ | ⟨g, cap, cur, rfl, hg, hh, hc1, hc2, hc3, hc4⟩
  · omega
  · refine ⟨g, cap, rfl, hg, hc1, hl, cur, hh, by omega, fun i hi r hr => ?_⟩
    have hil : i < l.length := by rw [← len_eq, hl]; exact hi
    have e := flat_get FVal.cells 6 FVal.cells_len l i r hil hr
    rw [fth_eq l i hil, ← e, ← hc4, List.getElem?_take, if_pos (by omega)]
    simp
theorem RowC.at {w : World} {g n : Nat} {R : List FVal} (h : RowC w g n R) {i : Nat} (hi : i < n) : FValAt w g (i * 6) (fth R i) := by
  obtain ⟨_, cur, h1, h2, h3⟩ := h
  have key : ∀ r, r < 6 → w.cell? ⟨g, i * 6 + r, none⟩ = (fth R i).cells[r]? := fun r hr => by rw [block_cell h1]; exact h3 i hi r hr
  exact ⟨key 0 (by decide), key 1 (by decide), key 2 (by decide), key 3 (by decide), key 4 (by decide), key 5 (by decide)⟩
theorem RowC.flds {w : World} {g n : Nat} {R : List FVal} (h : RowC w g n R) : Flds w (some ⟨g, 0, none⟩) R := fun i hi => ⟨g, 0, rfl, by rw [Nat.zero_add]; exact h.at (by rw [← h.1]; exact hi)⟩
theorem RowC.free {w : World} {g n : Nat} {R : List FVal} (h : RowC w g n R) (o : Nat) : w.frozen? ⟨g, o, none⟩ = false := by
  obtain ⟨_, cur, h1, _⟩ := h; exact block_free h1 o
theorem RowC.keep {w w' : World} {g n : Nat} {R : List FVal} (h : RowC w g n R) (hk : w'.heap[g]? = w.heap[g]?) : RowC w' g n R := by
  obtain ⟨h0, cur, h1, h2⟩ := h; exact ⟨h0, cur, hk.trans h1, h2⟩
theorem RowC.lt {w : World} {g n : Nat} {R : List FVal} (h : RowC w g n R) : g < w.heap.size := by
  obtain ⟨_, cur, h1, _⟩ := h; exact lt_of_block h1

/-- Those of the first m that are kept. -/
def keptV (p : Nat → Bool) (l : List FVal) : Nat → List FVal
  | 0 => []
  | m + 1 => if p m then keptV p l m else keptV p l m ++ [fth l m]
theorem keptV_low {p : Nat → Bool} {l : List FVal} {k : Nat} (hk : k < len l) (h : ∀ i, i < k → p i = false) (hp : p k = true) : keptV p l (k + 1) = l.take k := by
  have key : ∀ m, m ≤ k → keptV p l m = l.take m := by
    intro m
    induction m with
    | zero => intro _; simp [keptV]
    | succ m ih =>
      intro hm
      have hm' : m < l.length := by have : k < l.length := hk; omega
      rw [keptV, h m (by omega), ih (by omega), List.take_succ_eq_append_getElem hm', fth_eq l m hm']; simp
  rw [keptV, if_pos hp, key k (Nat.le_refl _)]
theorem keptV_len (p : Nat → Bool) (l : List FVal) : ∀ m, len (keptV p l m) ≤ m
  | 0 => Nat.le_refl _
  | m + 1 => by
    have := keptV_len p l m
    rw [keptV]
    split
    · omega
    · rw [len_eq] at this ⊢; simp; omega
theorem fth_take {l : List FVal} {k t : Nat} (h : t < k) (hk : k ≤ len l) : fth (l.take k) t = fth l t := by
  have hk' : k ≤ l.length := hk
  rw [fth_eq _ t (by rw [List.length_take]; omega), fth_eq l t (by omega), List.getElem_take]
theorem fth_snoc {l : List FVal} {v : FVal} {t : Nat} (h : t < len l) : fth (l ++ [v]) t = fth l t := by
  have h' : t < l.length := h
  rw [fth_eq _ t (by simp; omega), fth_eq l t h', List.getElem_append_left h']
theorem fth_last (l : List FVal) (v : FVal) : fth (l ++ [v]) (len l) = v := by
  rw [len_eq, fth_eq _ l.length (by simp)]; simp
theorem fth_set {R : List FVal} {q t : Nat} {v : FVal} (hq : q < len R) : fth (R.set q v) t = if t = q then v else fth R t := by
  have hq' : q < R.length := hq
  by_cases e : t = q
  · subst e; rw [if_pos rfl, fth_eq _ t (by simpa using hq'), List.getElem_set_self]
  · rw [if_neg e]
    unfold fth
    rw [List.getD_eq_getElem?_getD, List.getD_eq_getElem?_getD, List.getElem?_set_ne (fun e2 => e e2.symm)]
/-- What DeleteFunc holds at place m. -/
structure DelSt (base : Nat) (p : Nat → Bool) (l : List FVal) (w : World) (g m q : Nat) (R : List FVal) (wr : World) : Prop where
  cnt : len (keptV p l m) = q
  lt : q < m
  low : ∀ t, t < q → fth R t = fth (keptV p l m) t
  high : ∀ t, m ≤ t → t < len l → fth R t = fth l t
  row : RowC wr g (len l) R
  bel : Below base w wr
theorem DelSt.below {base g m q : Nat} {p : Nat → Bool} {l R : List FVal} {w wr w' : World} (h : DelSt base p l w g m q R wr) (hb : Below wr.heap.size wr w') (hbw : base ≤ w.heap.size) : DelSt base p l w g m q R w' :=
  ⟨h.cnt, h.lt, h.low, h.high, h.row.keep (hb.block _ h.row.lt), h.bel.trans (hb.mono (Nat.le_trans hbw h.bel.size))⟩
/-- A field is written into a row. -/
abbrev setF (w : World) (g q : Nat) (v : FVal) : World :=
  (((((w.setCell ⟨g, q * 6, none⟩ (.string v.key)).setCell ⟨g, q * 6 + 1, none⟩ (.bool v.must)).setCell ⟨g, q * 6 + 2, none⟩ (.func (.func v.ef) #[] v.ec)).setCell ⟨g, q * 6 + 3, none⟩ (.func (.func v.mf) #[] v.mc)).setCell ⟨g, q * 6 + 4, none⟩ (.func (.func v.pf) #[] v.pc)).setCell ⟨g, q * 6 + 5, none⟩ (.func (.func v.gf) #[] v.gc)
theorem RowC.put {w : World} {g n q : Nat} {R : List FVal} (h : RowC w g n R) (hq : q < n) (v : FVal) : RowC (setF w g q v) g n (R.set q v) := by
  obtain ⟨h0, cur, h1, h2, h3⟩ := h
  refine ⟨by rw [len_eq, List.length_set, ← len_eq]; exact h0, _, block_setCell (block_setCell (block_setCell (block_setCell (block_setCell (block_setCell h1 _) _) _) _) _) _, by simpa using h2, fun i hi r hr => ?_⟩
  rw [fth_set (by omega)]
  by_cases e : i = q
  · subst e
    rw [if_pos rfl]
    have hs : i * 6 + 5 < cur.size := by omega
    have hr' : r = 0 ∨ r = 1 ∨ r = 2 ∨ r = 3 ∨ r = 4 ∨ r = 5 := by omega
    rcases hr' with rfl | rfl | rfl | rfl | rfl | rfl
    · simp only [Nat.add_zero]
      rw [Array.getElem?_setIfInBounds_ne (by omega), Array.getElem?_setIfInBounds_ne (by omega), Array.getElem?_setIfInBounds_ne (by omega), Array.getElem?_setIfInBounds_ne (by omega), Array.getElem?_setIfInBounds_ne (by omega), Array.getElem?_setIfInBounds_self_of_lt (by omega)]; rfl
    · rw [Array.getElem?_setIfInBounds_ne (by omega), Array.getElem?_setIfInBounds_ne (by omega), Array.getElem?_setIfInBounds_ne (by omega), Array.getElem?_setIfInBounds_ne (by omega), Array.getElem?_setIfInBounds_self_of_lt (by simp; omega)]; rfl
    · rw [Array.getElem?_setIfInBounds_ne (by omega), Array.getElem?_setIfInBounds_ne (by omega), Array.getElem?_setIfInBounds_ne (by omega), Array.getElem?_setIfInBounds_self_of_lt (by simp; omega)]; rfl
    · rw [Array.getElem?_setIfInBounds_ne (by omega), Array.getElem?_setIfInBounds_ne (by omega), Array.getElem?_setIfInBounds_self_of_lt (by simp; omega)]; rfl
    · rw [Array.getElem?_setIfInBounds_ne (by omega), Array.getElem?_setIfInBounds_self_of_lt (by simp; omega)]; rfl
    · rw [Array.getElem?_setIfInBounds_self_of_lt (by simp; omega)]; rfl
  · rw [if_neg e, Array.getElem?_setIfInBounds_ne (by omega), Array.getElem?_setIfInBounds_ne (by omega), Array.getElem?_setIfInBounds_ne (by omega), Array.getElem?_setIfInBounds_ne (by omega), Array.getElem?_setIfInBounds_ne (by omega), Array.getElem?_setIfInBounds_ne (by omega)]
    exact h3 i hi r hr
theorem setF_below {base g q : Nat} {a w : World} (h : Below base a w) (hg : base ≤ g) (v : FVal) : Below base a (setF w g q v) :=
  (((((h.setCell hg _).setCell hg _).setCell hg _).setCell hg _).setCell hg _).setCell hg _
theorem DelSt.put {base g m q : Nat} {p : Nat → Bool} {l R : List FVal} {w wr : World} (h : DelSt base p l w g m q R wr) (hm : m < len l) (hp : p m = false) (hg : base ≤ g) : DelSt base p l w g (m + 1) (q + 1) (R.set q (fth l m)) (setF wr g q (fth l m)) := by
  obtain ⟨a1, a2, a3, a4, a5, a6⟩ := h
  have hR := a5.1
  have e : keptV p l (m + 1) = keptV p l m ++ [fth l m] := by rw [keptV, if_neg (by rw [hp]; decide)]
  refine ⟨by rw [e, ← a1, len_eq, len_eq]; simp, by omega, fun t ht => ?_, fun t h1 h2 => ?_, a5.put (by omega) _, setF_below a6 hg _⟩
  · rw [fth_set (by omega), e]
    by_cases et : t = q
    · subst et; rw [if_pos rfl, ← a1, fth_last]
    · rw [if_neg et, fth_snoc (by omega)]; exact a3 t (by omega)
  · rw [fth_set (by omega), if_neg (by omega)]; exact a4 t (by omega) h2
theorem below_sc {B b : Nat} {a : World} (hb : B ≤ b) : ∀ (vs : List Value) (o : Nat) (w : World), Below B a w → Below B a (w.setCells b o vs)
  | [], _, _, h => h
  | v :: r, o, w, h => below_sc hb r (o + 1) _ (h.setCell hb v)
theorem cells_sc {b : Nat} {T : TypeId} {fr : Nat × Nat} : ∀ (vs : List Value) (o : Nat) (w : World) (cur : Array Value), w.heap[b]? = some (.cells cur T fr) → ∃ cur', (w.setCells b o vs).heap[b]? = some (.cells cur' T fr)
  | [], _, _, cur, h => ⟨cur, h⟩
  | v :: r, o, w, cur, h => cells_sc r (o + 1) _ _ (block_setCell h v)
theorem clear_row {w : World} {g n q c : Nat} {R : List FVal} (h : RowC w g n R) (hq : q < n) (ty : TypeId) : ∃ w7, (Builtin.clear_ #[113] ty #[.slice (some ⟨g, q * 6, none⟩) (n - q) c]).run Tryz.prog w = .ok (.tuple #[]) w7 ∧ (∀ t, t < q → FValAt w7 g (t * 6) (fth R t)) ∧ (∀ base a, base ≤ g → Below base a w → Below base a w7) ∧ ∃ cur, w7.heap[g]? = some (.cells cur 172 (0, 0)) := by
  obtain ⟨zs, hzs⟩ : ∃ zs, (Builtin.zeroCells (Value.agg #[.string ⟨#[]⟩, .bool false, .nilFunc, .nilFunc, .nilFunc, .nilFunc]).cells (n - q)).toList = zs := ⟨_, rfl⟩
  have hzl : zs.length = (n - q) * 6 := by rw [← hzs]; simp [Builtin.zeroCells, Value.cells]
  have hz1 : ∀ u ∈ zs, u.oneCell' = true := by
    intro u hu
    rw [← hzs] at hu
    simp [Builtin.zeroCells, Value.cells] at hu
    obtain ⟨i, hi, rfl⟩ := hu
    have : i % 6 = 0 ∨ i % 6 = 1 ∨ i % 6 = 2 ∨ i % 6 = 3 ∨ i % 6 = 4 ∨ i % 6 = 5 := by omega
    rcases this with e | e | e | e | e | e <;> simp [e] <;> rfl
  have hc : ∀ j, j < zs.length → (w.cell? ⟨g, q * 6 + j, none⟩).isSome = true := fun j hj => by
    obtain ⟨_, cur, h1, h2, _⟩ := h
    rw [block_cell h1, Array.getElem?_eq_getElem (by omega)]; rfl
  have hst := run_storeCells_cells (P := Tryz.prog) g (q * 6) zs 0 w (by simpa using hc) (fun j _ => h.free _) hz1
  simp only [Nat.add_zero] at hst
  refine ⟨w.setCells g (q * 6) zs, ?_, fun t ht => ?_, fun base a hb hbel => below_sc hb zs (q * 6) w hbel, by obtain ⟨_, cur, h, _⟩ := h; exact cells_sc zs (q * 6) w cur h⟩
  · obtain ⟨m, hm⟩ : ∃ m, n - q = m + 1 := ⟨n - q - 1, by omega⟩
    rw [hm] at hzs ⊢
    simp [Builtin.clear_, run_underlying Tryz.underlying113, Tryz.zeroValue172, hzs, hst]
  · obtain ⟨c0, c1, c2, c3, c4, c5⟩ := h.at (i := t) (by omega)
    have e : ∀ o, o < q * 6 → (w.setCells g (q * 6) zs).cell? ⟨g, o, none⟩ = w.cell? ⟨g, o, none⟩ := fun o ho => World.cell?_setCells_out g zs (q * 6) w ⟨g, o, none⟩ (fun _ _ => .inl ho)
    exact ⟨(e _ (by omega)).trans c0, (e _ (by omega)).trans c1, (e _ (by omega)).trans c2, (e _ (by omega)).trans c3, (e _ (by omega)).trans c4, (e _ (by omega)).trans c5⟩
def DelOut (base : Nat) (p : Nat → Bool) (l : List FVal) (w : World) (e : Ending) (w' : World) : Prop :=
  ∃ g cap, e = .returned (.slice (some ⟨g, 0, none⟩) (len (keptV p l (len l))) cap) ∧ Flds w' (some ⟨g, 0, none⟩) (keptV p l (len l)) ∧ Below base w w' ∧ base ≤ g ∧ ∃ cur, w'.heap[g]? = some (.cells cur 172 (0, 0))
set_option maxRecDepth 100000 in
set_option maxHeartbeats 4000000 in
theorem delf_any (base : Nat) (v : Value) (l : List FVal) (g0 : Nat) (lb : Array Value) (p : Nat → Bool) (w : World) (hown : w.ownsRow base 172 6 v (len l) (l.flatMap FVal.cells)) (hn : len l ≤ 1000) (h0 : 0 < len l) (hbw : base ≤ w.heap.size)
    (eg : ∀ args w', (callFunc g0 args).run Tryz.prog w' = .ok (.enter g0 args) w') (hp : ∀ i, i < len l → ∀ w', Below base w w' → Calls Tryz.prog g0 (#[(fth l i).val] ++ lb) w' fun e w'' => e = .returned (.bool (p i)) ∧ Below w'.heap.size w' w'') :
    Calls Tryz.prog 172 #[v, .func (.func g0) #[] lb] w (DelOut base p l w) := by
  obtain ⟨g, cap, rfl, hg, hcap, hrow⟩ := RowC.of_own hown h0
  have HROW := Lib.hid hrow
  have HP := Lib.hid hp
  have HI := Lib.hid (idxf_any (some ⟨g, 0, none⟩) cap l g0 lb p w hrow.flds hn ⟨eg, fun i hi w' hb => hp i hi w' (hb.mono hbw)⟩)
  clear hown hrow hp
  go_enter Tryz.func172, Tryz.ntmps172
  go_wp2_with fail
  refine HI.out.mono ?_
  rintro e w1 ⟨r, rfl, hr, hb⟩
  have HB1 := Lib.hid hb
  have HROW1 := Lib.hid (HROW.out.keep (hb.block _ HROW.out.lt))
  clear hb HROW
  rcases hr with ⟨rfl, hall⟩ | ⟨k, hk, rfl, hpk, hlow⟩
  · have HK : Hid (keptV p l (len l) = l) := Lib.hid (by
      have key : ∀ m, m ≤ len l → keptV p l m = l.take m := by
        intro m
        induction m with
        | zero => intro _; simp [keptV]
        | succ m ih =>
          intro hm
          have hm' : m < l.length := hm
          rw [keptV, hall m hm, ih (by omega), List.take_succ_eq_append_getElem hm', fth_eq l m hm']; simp
      rw [key _ (Nat.le_refl _)]; exact take_len l)
    clear hall
    go_wp2
    go_ret
    exact ⟨g, cap, by rw [HK.out]; rfl, by rw [HK.out]; exact HROW1.out.flds, HB1.out.mono hbw, hg, by obtain ⟨_, cur, h, _⟩ := HROW1.out; exact ⟨cur, h⟩⟩
  · have HPK := Lib.hid hpk
    have HLOW := Lib.hid hlow
    clear hpk hlow
    go_wp2
    have ST : Hid (DelSt base p l w g (k + 1) k l w1) := Lib.hid (by
      have e := keptV_low hk HLOW.out HPK.out
      have hk' : k < l.length := hk
      refine ⟨by rw [e, len_eq, List.length_take]; omega, Nat.lt_succ_self _, fun t ht => by rw [e, fth_take ht (Nat.le_of_lt hk)], fun t _ _ => rfl, HROW1.out, HB1.out.mono hbw⟩)
    clear HROW1 HI HLOW HPK
    go_loopg [5, 6] (len l - (k + 1)) (fun gg i j wr => ∃ m q : Nat, ∃ R : List FVal, gg + m = len l ∧ i = .int .i64 q ∧ j = .int .i64 m ∧ Hid (DelSt base p l w g m q R wr))
    case atStart => exact ⟨k + 1, k, l, by omega, rfl, by first | rfl | simp, ST.out⟩
    case round =>
      clear ST
      obtain ⟨m, q, R, hm, rfl, rfl, HST⟩ := hrel
      have hqm := HST.out.lt
      by_cases hlt : m < len l
      · have i1 : (m : Int) < len l := by omega
        obtain ⟨c0, c1, c2, c3, c4, c5⟩ := HST.out.row.at hlt
        rw [HST.out.high m (Nat.le_refl _) hlt] at c0 c1 c2 c3 c4 c5
        have hcall := HP.out m hlt
        unfold FVal.val at hcall
        obtain ⟨v, hv⟩ : ∃ v, fth l m = v := ⟨_, rfl⟩
        have HV := Lib.hid hv
        rw [hv] at c0 c1 c2 c3 c4 c5 hcall
        have HC := Lib.hid hcall
        clear hcall hv
        go_wp2_with fail
        refine (HC.out _ (HST.out.bel.trans (Below.mono (balloc (Below.refl _ _) _) (Nat.le_trans hbw HST.out.bel.size)))).mono ?_
        rintro e w5 ⟨rfl, hb5⟩
        have HST5 : Hid (DelSt base p l w g m q R w5) := Lib.hid (HST.out.below (bnext (balloc (Below.refl _ _) _) hb5) hbw)
        have HBX : Hid (w5.heap[wr.heap.size]? = some (.cells #[.string v.key, .bool v.must, .func (.func v.ef) #[] v.ec, .func (.func v.mf) #[] v.mc, .func (.func v.pf) #[] v.pc, .func (.func v.gf) #[] v.gc] 172 (0, 0))) := Lib.hid ((hb5.block _ (by simp)).trans (heap_alloc_new _ _))
        clear hb5 c0 c1 c2 c3 c4 c5 HC HST
        cases hpm : p m with
        | true =>
          have HST6 : Hid (DelSt base p l w g (m + 1) q R w5) := Lib.hid (by
            obtain ⟨a1, a2, a3, a4, a5, a6⟩ := HST5.out
            have e : keptV p l (m + 1) = keptV p l m := by rw [keptV, if_pos hpm]
            exact ⟨by rw [e]; exact a1, by omega, fun t ht => by rw [e]; exact a3 t ht, fun t h1 h2 => a4 t (by omega) h2, a5, a6⟩)
          clear hpm HST5 HBX
          go_wp2
          go_roundg (len l - (m + 1))
          case rel => exact ⟨m + 1, q, R, by omega, rfl, by go_num, HST6.out⟩
          case measure => omega
        | false =>
          have hqn : q < len l := by omega
          obtain ⟨d0, d1, d2, d3, d4, d5⟩ := HST5.out.row.at hqn
          have hfr := HST5.out.row.free
          have bx : ∀ o, w5.cell? ⟨wr.heap.size, o, none⟩ = _ := block_cell HBX.out
          have iq : (q : Int) < len l := by omega
          have HST6 : Hid (DelSt base p l w g (m + 1) (q + 1) (R.set q v) (setF w5 g q v)) := Lib.hid (by
            rw [← HV.out]; exact HST5.out.put hlt hpm hg)
          clear hpm HST5 HBX
          go_wp2_with fail
          clear d0 d1 d2 d3 d4 d5 hfr bx
          go_roundg (len l - (m + 1))
          case rel => exact ⟨m + 1, q + 1, R.set q v, by omega, by go_num, by go_num, HST6.out⟩
          case measure => omega
      · obtain rfl : m = len l := by omega
        have i1 : ¬ ((len l : Nat) : Int) < len l := by omega
        obtain ⟨w7, hcl, hfl, hb7, hc7⟩ := clear_row (c := cap - q) HST.out.row HST.out.lt 0
        have HFL : Hid (Flds w7 (some ⟨g, 0, none⟩) (keptV p l (len l))) := Lib.hid (fun i hi => ⟨g, 0, rfl, by
          rw [HST.out.cnt] at hi
          rw [Nat.zero_add, ← HST.out.low i hi]; exact hfl i hi⟩)
        have HB7 := Lib.hid (hb7 base w hg HST.out.bel)
        have HC7 := Lib.hid hc7
        have HCN := Lib.hid HST.out.cnt
        clear hfl hb7 hc7 HST
        go_wp2
        go_ret
        exact ⟨g, cap, by rw [HCN.out]; rfl, HFL.out, HB7.out, hg, HC7.out⟩
end Go.Proofs.YtihiaopilnjonaaGreatDoor
