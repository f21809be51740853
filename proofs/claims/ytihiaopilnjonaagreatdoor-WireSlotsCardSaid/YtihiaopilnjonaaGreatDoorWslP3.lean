/- Parts of the proof, one behind the other. -/
import Derived.Test.YtihiaopilnjonaaGreatDoorWslP2
import Derived.Lib.SliceRun
import Derived.Laws.EntriesVeiled
import Derived.Deep.QuietTactic
import Derived.BigQuiet
import Derived.StillTailTactics
namespace Go.Proofs.YtihiaopilnjonaaGreatDoor
open Go.RowKit
set_option linter.unusedSimpArgs false
set_option linter.unusedVariables false
theorem info_field : (Tryz.prog.info? 172).map (fun i => (i.zero, i.size, i.bytes)) = some (some (.agg #[.string ByteArray.empty, .bool false, .nilFunc, .nilFunc, .nilFunc, .nilFunc]), 6, 56) := by kernel_rfl
theorem flds_news {w : World} {b off : Nat} {l : List FVal} (h : Flds w (some ⟨b, off, none⟩) l) : ∀ j u, (l.flatMap FVal.cells)[j]? = some u → w.cell? ((⟨b, off, none⟩ : Addr).add j) = some u := by
  intro j u hu
  have hj : j < (l.flatMap FVal.cells).length := (List.getElem?_eq_some_iff.1 hu).1
  rw [flat_length FVal.cells 6 FVal.cells_len] at hj
  have hi : j / 6 < l.length := by omega
  have e := flat_get FVal.cells 6 FVal.cells_len l (j / 6) (j % 6) hi (by omega)
  rw [show j / 6 * 6 + j % 6 = j by omega] at e
  rw [e] at hu
  obtain ⟨b', off', e2, c0, c1, c2, c3, c4, c5⟩ := h (j / 6) hi
  cases e2
  rw [fth_eq l _ hi] at c0 c1 c2 c3 c4 c5
  have ha : (⟨b, off, none⟩ : Addr).add j = ⟨b, off + j, none⟩ := by
    unfold Addr.add; split
    · rename_i h0; subst h0; rfl
    · rfl
  rw [ha]
  have hr : j % 6 = 0 ∨ j % 6 = 1 ∨ j % 6 = 2 ∨ j % 6 = 3 ∨ j % 6 = 4 ∨ j % 6 = 5 := by omega
  have hq : off + j = off + j / 6 * 6 + j % 6 := by omega
  rw [hq]
  rcases hr with h0 | h0 | h0 | h0 | h0 | h0 <;> rw [h0] at hu ⊢
  · rw [Nat.add_zero, c0]; exact hu
  · rw [c1]; exact hu
  · rw [c2]; exact hu
  · rw [c3]; exact hu
  · rw [c4]; exact hu
  · rw [c5]; exact hu
theorem flds_one (l : List FVal) : ∀ u ∈ l.flatMap FVal.cells, u.oneCell' = true := by
  intro u hu
  obtain ⟨v, _, hv⟩ := List.mem_flatMap.1 hu
  exact v.cells_one u hv
set_option maxRecDepth 100000 in
theorem clone_any (b off c : Nat) (l : List FVal) (w : World) (hl : Flds w (some ⟨b, off, none⟩) l) (hn : len l ≤ 1000) :
    Calls Tryz.prog 173 #[.slice (some ⟨b, off, none⟩) (len l) c] w fun e w' => ∃ v, e = .returned v ∧ w'.ownsRow w.heap.size 172 6 v (len l) (l.flatMap FVal.cells) ∧ Below w.heap.size w w' := by
  have HL := Lib.hid hl
  obtain ⟨i0, hi, hz0, hz1, hz2⟩ := info_parts info_field
  have HZ := Lib.hid hz0
  have E0 : Hid ((w.alloc (.cells #[] 172)).ownsRow w.heap.size 172 6 (.slice (some ⟨w.heap.size, 0, none⟩) 0 0) 0 []) := Lib.hid (World.ownsRow_lit w #[] 0 (Nat.le_refl _) (Nat.zero_le _) rfl)
  have heq : ∀ W, (binOp .eql 113 (.slice (some ⟨b, off, none⟩) (len l) c) (.slice none 0 0)).run Tryz.prog W = .ok (.bool false) W := fun W => Lib.run_eql_slice_nil W 113 172 (some ⟨b, off, none⟩) (len l) c 0 0 Tryz.underlying113
  clear hl hz0
  go_enter Tryz.func173, Tryz.ntmps173
  go_wp2_with (at_builtin; refine wpList_append_own _ rfl _ _ 113 rfl w.heap.size 172 i0 (.agg #[.string ByteArray.empty, .bool false, .nilFunc, .nilFunc, .nilFunc, .nilFunc]) 6 56 Tryz.underlying113 hi HZ.out hz1 hz2 rfl (by decide) _ 0 [] rfl E0.out ⟨b, off, none⟩ (len l) c (l.flatMap FVal.cells) rfl (flat_length FVal.cells 6 FVal.cells_len l) (flds_news (HL.out.below (balloc (Below.refl _ _) _))) (flds_one l) (by unfold maxLen; omega) (by omega) (by simp) ?_)
  intro v' w2 hown hgrow _
  have HB : Hid (Below w.heap.size w w2) := Lib.hid (grownBy_below (balloc (Below.refl _ _) _) hgrow (fun k hk => by simp [Value.ownBlock] at hk; omega))
  have HO : Hid (w2.ownsRow w.heap.size 172 6 v' (len l) (l.flatMap FVal.cells)) := Lib.hid (by simpa using hown)
  clear hown hgrow
  go_wp2
  go_ret
  exact ⟨_, rfl, HO.out, HB.out⟩
def RowC (w : World) (g n : Nat) (R : List FVal) : Prop := len R = n ∧ ∃ cur, w.heap[g]? = some (.cells cur 172 (0, 0)) ∧ n * 6 ≤ cur.size ∧ ∀ i, i < n → ∀ r, r < 6 → cur[i * 6 + r]? = (fth R i).cells[r]?
theorem RowC.of_own {w : World} {base n : Nat} {v : Value} {l : List FVal} (h : w.ownsRow base 172 6 v n (l.flatMap FVal.cells)) (hn : 0 < n) : ∃ g cap, v = .slice (some ⟨g, 0, none⟩) n cap ∧ base ≤ g ∧ n ≤ cap ∧ RowC w g n l := by
  have hl : len l = n := by have := h.1; rw [flat_length FVal.cells 6 FVal.cells_len] at this; rw [len_eq]; omega
  rcases h.2 with ⟨_, h0⟩ | ⟨g, cap, cur, rfl, hg, hh, hc1, hc2, hc3, hc4⟩
  · omega
  · refine ⟨g, cap, rfl, hg, hc1, hl, cur, hh, by omega, fun i hi r hr => ?_⟩
    have hil : i < l.length := by rw [← len_eq, hl]; exact hi
    have e := flat_get FVal.cells 6 FVal.cells_len l i r hil hr
    rw [fth_eq l i hil, ← e, ← hc4, List.getElem?_take, if_pos (by omega)]
    simp
theorem RowC.at {w : World} {g n : Nat} {R : List FVal} (h : RowC w g n R) {i : Nat} (hi : i < n) : FValAt w g (i * 6) (fth R i) := by
  obtain ⟨_, cur, h1, h2, h3⟩ := h
  have key : ∀ r, r < 6 → w.cell? ⟨g, i * 6 + r, none⟩ = (fth R i).cells[r]? := fun r hr => by rw [block_cell h1]; exact h3 i hi r hr
  exact ⟨key 0 (by decide), key 1 (by decide), key 2 (by decide), key 3 (by decide), key 4 (by decide), key 5 (by decide)⟩
theorem RowC.flds {w : World} {g n : Nat} {R : List FVal} (h : RowC w g n R) : Flds w (some ⟨g, 0, none⟩) R := fun i hi => ⟨g, 0, rfl, by rw [Nat.zero_add]; exact h.at (by rw [← h.1]; exact hi)⟩
theorem RowC.free {w : World} {g n : Nat} {R : List FVal} (h : RowC w g n R) (o : Nat) : w.frozen? ⟨g, o, none⟩ = false := by
  obtain ⟨_, cur, h1, _⟩ := h; exact block_free h1 o
theorem RowC.keep {w w' : World} {g n : Nat} {R : List FVal} (h : RowC w g n R) (hk : w'.heap[g]? = w.heap[g]?) : RowC w' g n R := by
  obtain ⟨h0, cur, h1, h2⟩ := h; exact ⟨h0, cur, hk.trans h1, h2⟩
theorem RowC.lt {w : World} {g n : Nat} {R : List FVal} (h : RowC w g n R) : g < w.heap.size := by
  obtain ⟨_, cur, h1, _⟩ := h; exact lt_of_block h1
def keptV (p : Nat → Bool) (l : List FVal) : Nat → List FVal
  | 0 => []
  | m + 1 => if p m then keptV p l m else keptV p l m ++ [fth l m]
theorem keptV_low {p : Nat → Bool} {l : List FVal} {k : Nat} (hk : k < len l) (h : ∀ i, i < k → p i = false) (hp : p k = true) : keptV p l (k + 1) = l.take k := by
  have key : ∀ m, m ≤ k → keptV p l m = l.take m := by
    intro m
    induction m with
    | zero => intro _; simp [keptV]
    | succ m ih =>
      intro hm
      have hm' : m < l.length := by have : k < l.length := hk; omega
      rw [keptV, h m (by omega), ih (by omega), List.take_succ_eq_append_getElem hm', fth_eq l m hm']; simp
  rw [keptV, if_pos hp, key k (Nat.le_refl _)]
theorem keptV_len (p : Nat → Bool) (l : List FVal) : ∀ m, len (keptV p l m) ≤ m
  | 0 => Nat.le_refl _
  | m + 1 => by
    have := keptV_len p l m
    rw [keptV]
    split
    · omega
    · rw [len_eq] at this ⊢; simp; omega
theorem fth_take {l : List FVal} {k t : Nat} (h : t < k) (hk : k ≤ len l) : fth (l.take k) t = fth l t := by
  have hk' : k ≤ l.length := hk
  rw [fth_eq _ t (by rw [List.length_take]; omega), fth_eq l t (by omega), List.getElem_take]
theorem fth_snoc {l : List FVal} {v : FVal} {t : Nat} (h : t < len l) : fth (l ++ [v]) t = fth l t := by
  have h' : t < l.length := h
  rw [fth_eq _ t (by simp; omega), fth_eq l t h', List.getElem_append_left h']
theorem fth_last (l : List FVal) (v : FVal) : fth (l ++ [v]) (len l) = v := by
  rw [len_eq, fth_eq _ l.length (by simp)]; simp
theorem fth_set {R : List FVal} {q t : Nat} {v : FVal} (hq : q < len R) : fth (R.set q v) t = if t = q then v else fth R t := by
  have hq' : q < R.length := hq
  by_cases e : t = q
  · subst e; rw [if_pos rfl, fth_eq _ t (by simpa using hq'), List.getElem_set_self]
  · rw [if_neg e]
    unfold fth
    rw [List.getD_eq_getElem?_getD, List.getD_eq_getElem?_getD, List.getElem?_set_ne (fun e2 => e e2.symm)]
structure DelSt (base : Nat) (p : Nat → Bool) (l : List FVal) (w : World) (g m q : Nat) (R : List FVal) (wr : World) : Prop where
  cnt : len (keptV p l m) = q
  lt : q < m
  low : ∀ t, t < q → fth R t = fth (keptV p l m) t
  high : ∀ t, m ≤ t → t < len l → fth R t = fth l t
  row : RowC wr g (len l) R
  bel : Below base w wr
theorem DelSt.below {base g m q : Nat} {p : Nat → Bool} {l R : List FVal} {w wr w' : World} (h : DelSt base p l w g m q R wr) (hb : Below wr.heap.size wr w') (hbw : base ≤ w.heap.size) : DelSt base p l w g m q R w' :=
  ⟨h.cnt, h.lt, h.low, h.high, h.row.keep (hb.block _ h.row.lt), h.bel.trans (hb.mono (Nat.le_trans hbw h.bel.size))⟩
abbrev setF (w : World) (g q : Nat) (v : FVal) : World :=
  (((((w.setCell ⟨g, q * 6, none⟩ (.string v.key)).setCell ⟨g, q * 6 + 1, none⟩ (.bool v.must)).setCell ⟨g, q * 6 + 2, none⟩ (.func (.func v.ef) #[] v.ec)).setCell ⟨g, q * 6 + 3, none⟩ (.func (.func v.mf) #[] v.mc)).setCell ⟨g, q * 6 + 4, none⟩ (.func (.func v.pf) #[] v.pc)).setCell ⟨g, q * 6 + 5, none⟩ (.func (.func v.gf) #[] v.gc)
theorem RowC.put {w : World} {g n q : Nat} {R : List FVal} (h : RowC w g n R) (hq : q < n) (v : FVal) : RowC (setF w g q v) g n (R.set q v) := by
  obtain ⟨h0, cur, h1, h2, h3⟩ := h
  refine ⟨by rw [len_eq, List.length_set, ← len_eq]; exact h0, _, block_setCell (block_setCell (block_setCell (block_setCell (block_setCell (block_setCell h1 _) _) _) _) _) _, by simpa using h2, fun i hi r hr => ?_⟩
  rw [fth_set (by omega)]
  by_cases e : i = q
  · subst e
    rw [if_pos rfl]
    have hs : i * 6 + 5 < cur.size := by omega
    have hr' : r = 0 ∨ r = 1 ∨ r = 2 ∨ r = 3 ∨ r = 4 ∨ r = 5 := by omega
    rcases hr' with rfl | rfl | rfl | rfl | rfl | rfl
    · simp only [Nat.add_zero]
      rw [Array.getElem?_setIfInBounds_ne (by omega), Array.getElem?_setIfInBounds_ne (by omega), Array.getElem?_setIfInBounds_ne (by omega), Array.getElem?_setIfInBounds_ne (by omega), Array.getElem?_setIfInBounds_ne (by omega), Array.getElem?_setIfInBounds_self_of_lt (by omega)]; rfl
    · rw [Array.getElem?_setIfInBounds_ne (by omega), Array.getElem?_setIfInBounds_ne (by omega), Array.getElem?_setIfInBounds_ne (by omega), Array.getElem?_setIfInBounds_ne (by omega), Array.getElem?_setIfInBounds_self_of_lt (by simp; omega)]; rfl
    · rw [Array.getElem?_setIfInBounds_ne (by omega), Array.getElem?_setIfInBounds_ne (by omega), Array.getElem?_setIfInBounds_ne (by omega), Array.getElem?_setIfInBounds_self_of_lt (by simp; omega)]; rfl
    · rw [Array.getElem?_setIfInBounds_ne (by omega), Array.getElem?_setIfInBounds_ne (by omega), Array.getElem?_setIfInBounds_self_of_lt (by simp; omega)]; rfl
    · rw [Array.getElem?_setIfInBounds_ne (by omega), Array.getElem?_setIfInBounds_self_of_lt (by simp; omega)]; rfl
    · rw [Array.getElem?_setIfInBounds_self_of_lt (by simp; omega)]; rfl
  · rw [if_neg e, Array.getElem?_setIfInBounds_ne (by omega), Array.getElem?_setIfInBounds_ne (by omega), Array.getElem?_setIfInBounds_ne (by omega), Array.getElem?_setIfInBounds_ne (by omega), Array.getElem?_setIfInBounds_ne (by omega), Array.getElem?_setIfInBounds_ne (by omega)]
    exact h3 i hi r hr
theorem setF_below {base g q : Nat} {a w : World} (h : Below base a w) (hg : base ≤ g) (v : FVal) : Below base a (setF w g q v) :=
  (((((h.setCell hg _).setCell hg _).setCell hg _).setCell hg _).setCell hg _).setCell hg _
theorem DelSt.put {base g m q : Nat} {p : Nat → Bool} {l R : List FVal} {w wr : World} (h : DelSt base p l w g m q R wr) (hm : m < len l) (hp : p m = false) (hg : base ≤ g) : DelSt base p l w g (m + 1) (q + 1) (R.set q (fth l m)) (setF wr g q (fth l m)) := by
  obtain ⟨a1, a2, a3, a4, a5, a6⟩ := h
  have hR := a5.1
  have e : keptV p l (m + 1) = keptV p l m ++ [fth l m] := by rw [keptV, if_neg (by rw [hp]; decide)]
  refine ⟨by rw [e, ← a1, len_eq, len_eq]; simp, by omega, fun t ht => ?_, fun t h1 h2 => ?_, a5.put (by omega) _, setF_below a6 hg _⟩
  · rw [fth_set (by omega), e]
    by_cases et : t = q
    · subst et; rw [if_pos rfl, ← a1, fth_last]
    · rw [if_neg et, fth_snoc (by omega)]; exact a3 t (by omega)
  · rw [fth_set (by omega), if_neg (by omega)]; exact a4 t (by omega) h2
theorem below_sc {B b : Nat} {a : World} (hb : B ≤ b) : ∀ (vs : List Value) (o : Nat) (w : World), Below B a w → Below B a (w.setCells b o vs)
  | [], _, _, h => h
  | v :: r, o, w, h => below_sc hb r (o + 1) _ (h.setCell hb v)
theorem cells_sc {b : Nat} {T : TypeId} {fr : Nat × Nat} : ∀ (vs : List Value) (o : Nat) (w : World) (cur : Array Value), w.heap[b]? = some (.cells cur T fr) → ∃ cur', (w.setCells b o vs).heap[b]? = some (.cells cur' T fr)
  | [], _, _, cur, h => ⟨cur, h⟩
  | v :: r, o, w, cur, h => cells_sc r (o + 1) _ _ (block_setCell h v)
theorem clear_row {w : World} {g n q c : Nat} {R : List FVal} (h : RowC w g n R) (hq : q < n) (ty : TypeId) : ∃ w7, (Builtin.clear_ #[113] ty #[.slice (some ⟨g, q * 6, none⟩) (n - q) c]).run Tryz.prog w = .ok (.tuple #[]) w7 ∧ (∀ t, t < q → FValAt w7 g (t * 6) (fth R t)) ∧ (∀ base a, base ≤ g → Below base a w → Below base a w7) ∧ ∃ cur, w7.heap[g]? = some (.cells cur 172 (0, 0)) := by
  obtain ⟨zs, hzs⟩ : ∃ zs, (Builtin.zeroCells (Value.agg #[.string ⟨#[]⟩, .bool false, .nilFunc, .nilFunc, .nilFunc, .nilFunc]).cells (n - q)).toList = zs := ⟨_, rfl⟩
  have hzl : zs.length = (n - q) * 6 := by rw [← hzs]; simp [Builtin.zeroCells, Value.cells]
  have hz1 : ∀ u ∈ zs, u.oneCell' = true := by
    intro u hu
    rw [← hzs] at hu
    simp [Builtin.zeroCells, Value.cells] at hu
    obtain ⟨i, hi, rfl⟩ := hu
    have : i % 6 = 0 ∨ i % 6 = 1 ∨ i % 6 = 2 ∨ i % 6 = 3 ∨ i % 6 = 4 ∨ i % 6 = 5 := by omega
    rcases this with e | e | e | e | e | e <;> simp [e] <;> rfl
  have hc : ∀ j, j < zs.length → (w.cell? ⟨g, q * 6 + j, none⟩).isSome = true := fun j hj => by
    obtain ⟨_, cur, h1, h2, _⟩ := h
    rw [block_cell h1, Array.getElem?_eq_getElem (by omega)]; rfl
  have hst := run_storeCells_cells (P := Tryz.prog) g (q * 6) zs 0 w (by simpa using hc) (fun j _ => h.free _) hz1
  simp only [Nat.add_zero] at hst
  refine ⟨w.setCells g (q * 6) zs, ?_, fun t ht => ?_, fun base a hb hbel => below_sc hb zs (q * 6) w hbel, by obtain ⟨_, cur, h, _⟩ := h; exact cells_sc zs (q * 6) w cur h⟩
  · obtain ⟨m, hm⟩ : ∃ m, n - q = m + 1 := ⟨n - q - 1, by omega⟩
    rw [hm] at hzs ⊢
    simp [Builtin.clear_, run_underlying Tryz.underlying113, Tryz.zeroValue172, hzs, hst]
  · obtain ⟨c0, c1, c2, c3, c4, c5⟩ := h.at (i := t) (by omega)
    have e : ∀ o, o < q * 6 → (w.setCells g (q * 6) zs).cell? ⟨g, o, none⟩ = w.cell? ⟨g, o, none⟩ := fun o ho => World.cell?_setCells_out g zs (q * 6) w ⟨g, o, none⟩ (fun _ _ => .inl ho)
    exact ⟨(e _ (by omega)).trans c0, (e _ (by omega)).trans c1, (e _ (by omega)).trans c2, (e _ (by omega)).trans c3, (e _ (by omega)).trans c4, (e _ (by omega)).trans c5⟩
def DelOut (base : Nat) (p : Nat → Bool) (l : List FVal) (w : World) (e : Ending) (w' : World) : Prop :=
  ∃ g cap, e = .returned (.slice (some ⟨g, 0, none⟩) (len (keptV p l (len l))) cap) ∧ Flds w' (some ⟨g, 0, none⟩) (keptV p l (len l)) ∧ Below base w w' ∧ base ≤ g ∧ ∃ cur, w'.heap[g]? = some (.cells cur 172 (0, 0))
set_option maxRecDepth 100000 in
set_option maxHeartbeats 4000000 in
theorem delf_any (base : Nat) (v : Value) (l : List FVal) (g0 : Nat) (lb : Array Value) (p : Nat → Bool) (w : World) (hown : w.ownsRow base 172 6 v (len l) (l.flatMap FVal.cells)) (hn : len l ≤ 1000) (h0 : 0 < len l) (hbw : base ≤ w.heap.size)
    (eg : ∀ args w', (callFunc g0 args).run Tryz.prog w' = .ok (.enter g0 args) w') (hp : ∀ i, i < len l → ∀ w', Below base w w' → Calls Tryz.prog g0 (#[(fth l i).val] ++ lb) w' fun e w'' => e = .returned (.bool (p i)) ∧ Below w'.heap.size w' w'') :
    Calls Tryz.prog 172 #[v, .func (.func g0) #[] lb] w (DelOut base p l w) := by
  obtain ⟨g, cap, rfl, hg, hcap, hrow⟩ := RowC.of_own hown h0
  have HROW := Lib.hid hrow
  have HP := Lib.hid hp
  have HI := Lib.hid (idxf_any (some ⟨g, 0, none⟩) cap l g0 lb p w hrow.flds hn ⟨eg, fun i hi w' hb => hp i hi w' (hb.mono hbw)⟩)
  clear hown hrow hp
  go_enter Tryz.func172, Tryz.ntmps172
  go_wp2_with fail
  refine HI.out.mono ?_
  rintro e w1 ⟨r, rfl, hr, hb⟩
  have HB1 := Lib.hid hb
  have HROW1 := Lib.hid (HROW.out.keep (hb.block _ HROW.out.lt))
  clear hb HROW
  rcases hr with ⟨rfl, hall⟩ | ⟨k, hk, rfl, hpk, hlow⟩
  · have HK : Hid (keptV p l (len l) = l) := Lib.hid (by
      have key : ∀ m, m ≤ len l → keptV p l m = l.take m := by
        intro m
        induction m with
        | zero => intro _; simp [keptV]
        | succ m ih =>
          intro hm
          have hm' : m < l.length := hm
          rw [keptV, hall m hm, ih (by omega), List.take_succ_eq_append_getElem hm', fth_eq l m hm']; simp
      rw [key _ (Nat.le_refl _)]; exact take_len l)
    clear hall
    go_wp2
    go_ret
    exact ⟨g, cap, by rw [HK.out]; rfl, by rw [HK.out]; exact HROW1.out.flds, HB1.out.mono hbw, hg, by obtain ⟨_, cur, h, _⟩ := HROW1.out; exact ⟨cur, h⟩⟩
  · have HPK := Lib.hid hpk
    have HLOW := Lib.hid hlow
    clear hpk hlow
    go_wp2
    have ST : Hid (DelSt base p l w g (k + 1) k l w1) := Lib.hid (by
      have e := keptV_low hk HLOW.out HPK.out
      have hk' : k < l.length := hk
      refine ⟨by rw [e, len_eq, List.length_take]; omega, Nat.lt_succ_self _, fun t ht => by rw [e, fth_take ht (Nat.le_of_lt hk)], fun t _ _ => rfl, HROW1.out, HB1.out.mono hbw⟩)
    clear HROW1 HI HLOW HPK
    go_loopg [5, 6] (len l - (k + 1)) (fun gg i j wr => ∃ m q : Nat, ∃ R : List FVal, gg + m = len l ∧ i = .int .i64 q ∧ j = .int .i64 m ∧ Hid (DelSt base p l w g m q R wr))
    case atStart => exact ⟨k + 1, k, l, by omega, rfl, by first | rfl | simp, ST.out⟩
    case round =>
      clear ST
      obtain ⟨m, q, R, hm, rfl, rfl, HST⟩ := hrel
      have hqm := HST.out.lt
      by_cases hlt : m < len l
      · have i1 : (m : Int) < len l := by omega
        obtain ⟨c0, c1, c2, c3, c4, c5⟩ := HST.out.row.at hlt
        rw [HST.out.high m (Nat.le_refl _) hlt] at c0 c1 c2 c3 c4 c5
        have hcall := HP.out m hlt
        unfold FVal.val at hcall
        obtain ⟨v, hv⟩ : ∃ v, fth l m = v := ⟨_, rfl⟩
        have HV := Lib.hid hv
        rw [hv] at c0 c1 c2 c3 c4 c5 hcall
        have HC := Lib.hid hcall
        clear hcall hv
        go_wp2_with fail
        refine (HC.out _ (HST.out.bel.trans (Below.mono (balloc (Below.refl _ _) _) (Nat.le_trans hbw HST.out.bel.size)))).mono ?_
        rintro e w5 ⟨rfl, hb5⟩
        have HST5 : Hid (DelSt base p l w g m q R w5) := Lib.hid (HST.out.below (bnext (balloc (Below.refl _ _) _) hb5) hbw)
        have HBX : Hid (w5.heap[wr.heap.size]? = some (.cells #[.string v.key, .bool v.must, .func (.func v.ef) #[] v.ec, .func (.func v.mf) #[] v.mc, .func (.func v.pf) #[] v.pc, .func (.func v.gf) #[] v.gc] 172 (0, 0))) := Lib.hid ((hb5.block _ (by simp)).trans (heap_alloc_new _ _))
        clear hb5 c0 c1 c2 c3 c4 c5 HC HST
        cases hpm : p m with
        | true =>
          have HST6 : Hid (DelSt base p l w g (m + 1) q R w5) := Lib.hid (by
            obtain ⟨a1, a2, a3, a4, a5, a6⟩ := HST5.out
            have e : keptV p l (m + 1) = keptV p l m := by rw [keptV, if_pos hpm]
            exact ⟨by rw [e]; exact a1, by omega, fun t ht => by rw [e]; exact a3 t ht, fun t h1 h2 => a4 t (by omega) h2, a5, a6⟩)
          clear hpm HST5 HBX
          go_wp2
          go_roundg (len l - (m + 1))
          case rel => exact ⟨m + 1, q, R, by omega, rfl, by go_num, HST6.out⟩
          case measure => omega
        | false =>
          have hqn : q < len l := by omega
          obtain ⟨d0, d1, d2, d3, d4, d5⟩ := HST5.out.row.at hqn
          have hfr := HST5.out.row.free
          have bx : ∀ o, w5.cell? ⟨wr.heap.size, o, none⟩ = _ := block_cell HBX.out
          have iq : (q : Int) < len l := by omega
          have HST6 : Hid (DelSt base p l w g (m + 1) (q + 1) (R.set q v) (setF w5 g q v)) := Lib.hid (by
            rw [← HV.out]; exact HST5.out.put hlt hpm hg)
          clear hpm HST5 HBX
          go_wp2_with fail
          clear d0 d1 d2 d3 d4 d5 hfr bx
          go_roundg (len l - (m + 1))
          case rel => exact ⟨m + 1, q + 1, R.set q v, by omega, by go_num, by go_num, HST6.out⟩
          case measure => omega
      · obtain rfl : m = len l := by omega
        have i1 : ¬ ((len l : Nat) : Int) < len l := by omega
        obtain ⟨w7, hcl, hfl, hb7, hc7⟩ := clear_row (c := cap - q) HST.out.row HST.out.lt 0
        have HFL : Hid (Flds w7 (some ⟨g, 0, none⟩) (keptV p l (len l))) := Lib.hid (fun i hi => ⟨g, 0, rfl, by
          rw [HST.out.cnt] at hi
          rw [Nat.zero_add, ← HST.out.low i hi]; exact hfl i hi⟩)
        have HB7 := Lib.hid (hb7 base w hg HST.out.bel)
        have HC7 := Lib.hid hc7
        have HCN := Lib.hid HST.out.cnt
        clear hfl hb7 hc7 HST
        go_wp2
        go_ret
        exact ⟨g, cap, by rw [HCN.out]; rfl, HFL.out, HB7.out, hg, HC7.out⟩
end Go.Proofs.YtihiaopilnjonaaGreatDoor
namespace Go.Proofs.YtihiaopilnjonaaGreatDoor
open Go.RowKit
set_option linter.unusedSimpArgs false
set_option linter.unusedVariables false
theorem spth_snoc {l : List FSpec} {v : FSpec} {t : Nat} (h : t < len l) : spth (l ++ [v]) t = spth l t := by
  have h' : t < l.length := h
  rw [spth_eq _ t (by simp; omega), spth_eq l t h', List.getElem_append_left h']
theorem spth_last (l : List FSpec) (v : FSpec) : spth (l ++ [v]) (len l) = v := by
  rw [len_eq, spth_eq _ l.length (by simp)]; simp
theorem kept_sems {B : Nat} {W0 : World} {l : List FVal} {fs : List FSpec} (h : FSems B W0 l fs) (hm : allMay fs = true) : ∀ m, m ≤ len l → len (keptF (fs.take m)) = len (keptV (fun i => (spth fs i).empty) l m) ∧ ∀ t, t < len (keptF (fs.take m)) → FSem B W0 (fth (keptV (fun i => (spth fs i).empty) l m) t) (spth (keptF (fs.take m)) t) ∧ (spth (keptF (fs.take m)) t).empty = false ∧ (spth (keptF (fs.take m)) t).may = true
  | 0, _ => ⟨by simp [keptF, keptV, len], fun t ht => by simp [keptF, len] at ht⟩
  | m + 1, hm1 => by
    obtain ⟨ih1, ih2⟩ := kept_sems h hm m (by omega)
    have hfl : m < fs.length := by have := h.1; rw [len_eq] at this; omega
    have e1 : fs.take (m + 1) = fs.take m ++ [spth fs m] := by rw [List.take_succ_eq_append_getElem hfl, spth_eq fs m hfl]
    have hmay : (spth fs m).may = true := by
      unfold allMay at hm
      rw [List.all_eq_true] at hm
      rw [spth_eq fs m hfl]; exact hm _ (List.getElem_mem _)
    cases he : (spth fs m).empty with
    | true =>
      have e2 : keptF (fs.take (m + 1)) = keptF (fs.take m) := by
        rw [e1]; unfold keptF; rw [List.filter_append, List.filter_cons_of_neg (by simp [he])]; simp
      have e3 : keptV (fun i => (spth fs i).empty) l (m + 1) = keptV (fun i => (spth fs i).empty) l m := by rw [keptV, if_pos he]
      rw [e2, e3]; exact ⟨ih1, ih2⟩
    | false =>
      have e2 : keptF (fs.take (m + 1)) = keptF (fs.take m) ++ [spth fs m] := by
        rw [e1]; unfold keptF; rw [List.filter_append, List.filter_cons_of_pos (by simp [he])]; simp
      have e3 : keptV (fun i => (spth fs i).empty) l (m + 1) = keptV (fun i => (spth fs i).empty) l m ++ [fth l m] := by rw [keptV, if_neg (by simp [he])]
      rw [e2, e3]
      have hl2 : len (keptF (fs.take m) ++ [spth fs m]) = len (keptF (fs.take m)) + 1 := by simp [len]
      refine ⟨by rw [hl2, ih1]; simp [len], fun t ht => ?_⟩
      rw [hl2] at ht
      by_cases et : t < len (keptF (fs.take m))
      · rw [fth_snoc (by rw [← ih1]; exact et), spth_snoc et]; exact ih2 t et
      · obtain rfl : t = len (keptF (fs.take m)) := by omega
        rw [spth_last]
        refine ⟨?_, he, hmay⟩
        rw [ih1, fth_last]
        exact h.2 m (by omega)
theorem catB_take {L : List ByteArray} {t : Nat} (h : t < L.length) : (catB (L.take t)).size + L[t].size ≤ (catB L).size := by
  have e : catB L = catB (L.take t) ++ (L[t] ++ catB (L.drop (t + 1))) := by
    conv => lhs; rw [← List.take_append_drop t L, List.drop_eq_getElem_cons h]
    rw [catB_app, catB]
  rw [e, ByteArray.size_append, ByteArray.size_append]; omega
theorem flds_keep {w w' : World} {g : Nat} {l : List FVal} (h : Flds w (some ⟨g, 0, none⟩) l) (hk : w'.heap[g]? = w.heap[g]?) : Flds w' (some ⟨g, 0, none⟩) l := fun i hi => by
  obtain ⟨b, off, e, c0, c1, c2, c3, c4, c5⟩ := h i hi
  cases e
  have e2 : ∀ o, w'.cell? ⟨g, o, none⟩ = w.cell? ⟨g, o, none⟩ := fun o => by unfold World.cell?; rw [hk]
  exact ⟨g, 0, rfl, (e2 _).trans c0, (e2 _).trans c1, (e2 _).trans c2, (e2 _).trans c3, (e2 _).trans c4, (e2 _).trans c5⟩
def LayOut (s' : ByteArray) (b base : Nat) (w : World) (e : Ending) (w' : World) : Prop := e = .returned (.tuple #[]) ∧ WrB w' b base s' ∧ WK base b w w'
set_option maxRecDepth 100000 in
set_option maxHeartbeats 4000000 in
theorem lay_any (B b base b1 off c : Nat) (W0 : World) (l : List FVal) (fs : List FSpec) (s : ByteArray) (w : World) (hl : Flds w (some ⟨b1, off, none⟩) l) (hn : len l ≤ 1000) (h0 : 0 < len l) (hS : FSems B W0 l fs) (hm : allMay fs = true) (hk : Keep8 B W0 w) (hb0 : Off8 W0 b)
    (ht : PTab B w) (hB : B ≤ base) (hW : WrB w b base s) (hs : s.size + (layP fs).size ≤ 60000000000000) :
    Calls Tryz.prog 105 #[.pointer (some ⟨b, 0, none⟩), .slice (some ⟨b1, off, none⟩) (len l) c] w (LayOut (s ++ layP fs) b base w) := by
  have HL := Lib.hid hl
  have HS := Lib.hid hS
  have HK := Lib.hid hk
  have hsz := hk.s1
  have HT := Lib.hid ht
  have HWR := Lib.hid hW
  have HBS : Hid (base ≤ w.heap.size) := Lib.hid (by have := hW.1; have := hW.lt; omega)
  have HKS := Lib.hid (kept_sems hS hm (len l) (Nat.le_refl _))
  have e0 : fs.take (len l) = fs := List.take_of_length_le (by have := hS.1; rw [len_eq] at this; omega)
  rw [e0] at HKS
  have eg := (says_lay hS hk).1
  clear hl hS hk ht hW e0
  go_enter Tryz.func105, Tryz.ntmps105
  go_wp2_with fail
  refine (clone_any b1 off c l w HL.out hn).mono ?_
  rintro e w1 ⟨v, rfl, hown, hb1⟩
  have HO := Lib.hid hown
  have HB1 := Lib.hid hb1
  clear hown hb1
  go_wp2_with fail
  refine (delf_any w.heap.size v l 174 #[] (fun i => (spth fs i).empty) w1 HO.out hn h0 HB1.out.size eg (fun i hi w' hb => ((says_lay HS.out ((HK.out.base HB1.out hsz).base hb hsz)).2 i hi w' (Below.refl _ _)))).mono ?_
  rintro e w2 ⟨g, cap, rfl, hfl, hb2, hg, cur, hcur⟩
  have HFL := Lib.hid hfl
  have HB2 : Hid (Below w.heap.size w w2) := Lib.hid (HB1.out.trans hb2)
  have HCUR := Lib.hid hcur
  clear hfl hb2 hcur HO HB1 HL
  obtain ⟨K, hK⟩ : ∃ K, len (keptV (fun i => (spth fs i).empty) l (len l)) = K := ⟨_, rfl⟩
  obtain ⟨kl, hkl⟩ : ∃ kl, keptV (fun i => (spth fs i).empty) l (len l) = kl := ⟨_, rfl⟩
  obtain ⟨ks, hks⟩ : ∃ ks, keptF fs = ks := ⟨_, rfl⟩
  have hK1000 : K ≤ 1000 := by rw [← hK]; exact Nat.le_trans (keptV_len _ _ _) hn
  have HLP : Hid (layP fs = mapP K ++ catB (ks.map fieldP)) := Lib.hid (by
    unfold layP; rw [hks]
    have := HKS.out.1
    rw [hks, hK, len_eq] at this
    rw [this])
  rw [hK]
  rw [hkl] at HFL hK HKS
  rw [hks] at HKS
  have HKK : Hid (len ks = K ∧ len kl = K) := Lib.hid ⟨by rw [HKS.out.1, hK], hK⟩
  clear hK hkl hks
  have HS2 : Hid (s.size + (mapP K).size + (catB (ks.map fieldP)).size ≤ 60000000000000) := Lib.hid (by rw [HLP.out, ByteArray.size_append] at hs; omega)
  have hs0 : s.size ≤ 60000000000000 := by omega
  have hbw : b < w.heap.size := HWR.out.lt
  have hgb : g ≠ b := by omega
  have n8 : Not8 (.cells cur 172 (0, 0)) := not8_cells (by decide)
  clear hs
  go_wp2_with fail
  refine (Map_w B b base K s w2 (HT.out.keep HB2.out (by have := HBS.out; omega)) hB (HWR.out.below HB2.out) (by omega) (by omega)).mono ?_
  rintro e w3 ⟨rfl, hw3, hk3⟩
  have HW3 : Hid (WrB w3 b base (s ++ mapP K ++ catB ((ks.map fieldP).take 0))) := Lib.hid (by
    have e : s ++ mapP K ++ catB ((ks.map fieldP).take 0) = s ++ mapP K := ba_ext (by simp [catB])
    rw [e]; exact hw3)
  have HK3 : Hid (WK base b w2 w3) := Lib.hid hk3
  clear hw3 hk3
  go_wp2
  go_loopg [15] K (fun gg i wr => ∃ m : Nat, gg + m = K ∧ i = .int .i64 m ∧ Hid (WrB wr b base (s ++ mapP K ++ catB ((ks.map fieldP).take m))) ∧ Hid (WK base b w2 wr))
  case atStart => exact ⟨0, rfl, rfl, HW3.out, HK3.out⟩
  case round =>
    clear HW3 HK3
    obtain ⟨m, hm2, rfl, HWW, HWK⟩ := hrel
    by_cases hlt : m < K
    · have i1 : (m : Int) < K := by omega
      obtain ⟨b', off', hbe, c0, c1, c2, c3, c4, c5⟩ := flds_keep HFL.out ((HWK.out.keep g _ HCUR.out hgb n8).trans HCUR.out.symm) m (by rw [HKK.out.2]; exact hlt)
      cases hbe
      rw [Nat.zero_add] at c0 c1 c2 c3 c4 c5
      obtain ⟨hsem, hemp, hmay⟩ := HKS.out.2 m (by rw [HKK.out.1]; exact hlt)
      have hsn : (ks.map fieldP).take (m + 1) = (ks.map fieldP).take m ++ [fieldP (spth ks m)] := by
        have hml : m < ks.length := by have := HKK.out.1; rw [len_eq] at this; omega
        rw [List.take_succ_eq_append_getElem (by simpa using hml), List.getElem_map, spth_eq ks m hml]
      have hct := catB_take (L := ks.map fieldP) (t := m) (by have := HKK.out.1; rw [len_eq] at this; simp; omega)
      have hfm : (ks.map fieldP)[m]'(by have := HKK.out.1; rw [len_eq] at this; simp; omega) = fieldP (spth ks m) := by
        rw [List.getElem_map, spth_eq ks m (by have := HKK.out.1; rw [len_eq] at this; omega)]
      rw [hfm] at hct
      obtain ⟨v, hv⟩ : ∃ v, fth kl m = v := ⟨_, rfl⟩
      obtain ⟨f, hf⟩ : ∃ f, spth ks m = f := ⟨_, rfl⟩
      rw [hv] at c0 c1 c2 c3 c4 c5 hsem
      rw [hf] at hsem hemp hmay hsn hct
      have hkey := hsem.key
      have hksz := hsem.ksz
      have ep := hsem.ep
      have hput := hsem.put hmay hemp
      obtain ⟨s1, hs1⟩ : ∃ s1, s ++ mapP K ++ catB ((ks.map fieldP).take m) = s1 := ⟨_, rfl⟩
      rw [hs1] at HWW
      have hfsz : (fieldP f).size = (strP f.key).size + f.bytes.size := by unfold fieldP; rw [ByteArray.size_append]
      have hs1s : s1.size + (strP f.key).size + f.bytes.size ≤ 60000000000000 := by
        rw [← hs1, ByteArray.size_append, ByteArray.size_append]
        have := HS2.out
        omega
      have HSN : Hid (s ++ mapP K ++ catB ((ks.map fieldP).take (m + 1)) = s1 ++ strP f.key ++ f.bytes) := Lib.hid (by
        rw [hsn, catB_snoc, ← hs1]; unfold fieldP; simp only [ByteArray.append_assoc])
      have HPUT := Lib.hid hput
      have hbw2 : base ≤ w2.heap.size := by have := HBS.out; have := HB2.out.size; omega
      have HBW2 := Lib.hid hbw2
      have HK8 : Hid (Keep8 B W0 wr) := Lib.hid ((HK.out.base HB2.out hsz).wk HWK.out hb0 hB)
      have HTR : Hid (PTab B wr) := Lib.hid ((HT.out.keep HB2.out (by have := HBS.out; omega)).keep HWK.out.bel hB)
      rw [← hkey] at HSN hs1s hksz
      have HKEY := Lib.hid hkey
      clear hsem hemp hmay hsn hct hfm hs1 hfsz hput hv hf hbw2 hkey
      go_wp2_with fail
      refine (Str_w B b base v.key s1 _ (HTR.out.keep (balloc (Below.refl _ _) _) (by have := HTR.out.size; omega)) hB (HWW.out.below (balloc (Below.refl _ _) _)) hksz (by omega)).mono ?_
      rintro e w4 ⟨rfl, hw4, hk4⟩
      have HW4 := Lib.hid hw4
      have hbx : w4.heap[wr.heap.size]? = some (.cells #[.string v.key, .bool v.must, .func (.func v.ef) #[] v.ec, .func (.func v.mf) #[] v.mc, .func (.func v.pf) #[] v.pc, .func (.func v.gf) #[] v.gc] 172 (0, 0)) :=
        hk4.keep _ _ (heap_alloc_new _ _) (by have := HWW.out.lt; omega) (not8_cells (by decide))
      have HKA : Hid (WK base b wr w4) := Lib.hid ((WK.of_below (balloc (Below.refl _ _) _) (by have := HWK.out.bel.size; have := HBW2.out; omega)).trans hk4)
      have bx4 := block_cell hbx 4
      simp only [List.getElem?_toArray, List.getElem?_cons_zero, List.getElem?_cons_succ] at bx4
      have lbx := lt_of_block hbx
      clear hw4 hk4 hbx c0 c1 c2 c3 c4 c5
      go_wp2_with fail
      refine (HPUT.out w4 b base _ (HK8.out.wk HKA.out hb0 hB) hb0 (HTR.out.keep HKA.out.bel hB) hB HW4.out (by rw [ByteArray.size_append]; omega)).mono ?_
      rintro e w5 ⟨rfl, hw5, hk5⟩
      have HW5 : Hid (WrB w5 b base (s ++ mapP K ++ catB ((ks.map fieldP).take (m + 1)))) := Lib.hid (by rw [HSN.out]; exact hw5)
      have HK5 : Hid (WK base b w2 w5) := Lib.hid ((HWK.out.trans HKA.out).trans hk5)
      clear hw5 hk5 HW4 HKA HWW HWK bx4 lbx
      go_wp2
      go_roundg (K - (m + 1))
      case rel => exact ⟨m + 1, by omega, by go_num, HW5.out, HK5.out⟩
      case measure => omega
    · obtain rfl : m = K := by omega
      have i1 : ¬ (m : Int) < m := by omega
      go_wp2
      go_end0
      refine ⟨rfl, ?_, (WK.of_below HB2.out HBS.out).trans HWK.out⟩
      have h := HWW.out
      rw [List.take_of_length_le (by have := HKK.out.1; rw [len_eq] at this; simp; omega), ByteArray.append_assoc, ← HLP.out] at h
      exact h
end Go.Proofs.YtihiaopilnjonaaGreatDoor
namespace Go.Proofs.YtihiaopilnjonaaGreatDoor
open Go.RowKit
set_option linter.unusedSimpArgs false
set_option linter.unusedVariables false
def LaidIs (fs : List FSpec) (w : World) (e : Ending) (w' : World) : Prop :=
  e = .returned (if allMay fs then .tuple #[.string (layP fs), .int .i64 0] else .tuple #[.string ⟨#[]⟩, .int .i64 2]) ∧ Below w.heap.size w w'
set_option maxRecDepth 100000 in
theorem wlaid2_any (B b1 off c : Nat) (W0 : World) (l : List FVal) (fs : List FSpec) (w : World) (hl : Flds w (some ⟨b1, off, none⟩) l) (hn : len l ≤ 1000) (h0 : 0 < len l) (hS : FSems B W0 l fs) (hk : Keep8 B W0 w) (ht : PTab B w) (hs : allMay fs = true → (layP fs).size ≤ 60000000000000) :
    Calls Tryz.prog 60 #[.slice (some ⟨b1, off, none⟩) (len l) c] w (LaidIs fs w) := by
  have HL := Lib.hid hl
  have HS := Lib.hid hS
  have HK := Lib.hid hk
  have hsz := hk.s1
  have HSS := Lib.hid hs
  clear hs
  have HT := Lib.hid ht
  clear hl hS hk ht
  go_enter Tryz.func60, Tryz.ntmps60
  go_wp2_with fail
  refine (all_any B W0 (some ⟨b1, off, none⟩) c l fs w HL.out hn HS.out HK.out).mono ?_
  rintro e w1 ⟨rfl, hb1⟩
  have HB1 := Lib.hid hb1
  clear hb1
  cases hm : allMay fs with
  | false =>
    have HM := Lib.hid hm
    clear hm
    go_wp2
    go_ret2
    exact ⟨by rw [HM.out]; rfl, HB1.out⟩
  | true =>
    have HM := Lib.hid hm
    have HT1 := Lib.hid (HT.out.keep HB1.out HT.out.size)
    have hs := HSS.out hm
    clear hm
    go_wp2_with fail
    refine (pnew_any w1).mono ?_
    rintro e w2 ⟨rfl, hw2, hb2⟩
    have HW2 := Lib.hid hw2
    have HB2 := Lib.hid hb2
    clear hw2 hb2
    go_wp2_with fail
    refine (lay_any B w1.heap.size w1.heap.size b1 off c W0 l fs ByteArray.empty w2 ((HL.out.below HB1.out).below HB2.out) hn h0 HS.out HM.out ((HK.out.next HB1.out).next HB2.out) (Off8.of_le (by have := HB1.out.size; omega)) (HT1.out.keep HB2.out HT1.out.size) HT1.out.size HW2.out (by show 0 + (layP fs).size ≤ 60000000000000; omega)).mono ?_
    rintro e w3 ⟨rfl, hw3, hk3⟩
    have HW3 : Hid (WrB w3 w1.heap.size w1.heap.size (layP fs)) := Lib.hid (by
      have e : ByteArray.empty ++ layP fs = layP fs := ba_ext (by simp)
      rw [e] at hw3; exact hw3)
    have HB3 : Hid (Below w.heap.size w w3) := Lib.hid ((bnext HB1.out HB2.out).trans (hk3.bel.mono HB1.out.size))
    clear hw3 hk3
    go_wp2_with fail
    refine (ptext_any _ _ _ w3 HW3.out).mono ?_
    rintro e w4 ⟨rfl, rfl⟩
    go_wp2
    go_ret2
    exact ⟨by rw [HM.out]; rfl, HB3.out⟩
structure CellAt (B : Nat) (w : World) (b o : Nat) (x : Value) : Prop where
  cell : w.cell? ⟨b, o, none⟩ = some x
  ex : b < B ∨ ∃ y, w.heap[b]? = some y ∧ Not8 y
theorem CellAt.lt {B : Nat} {w : World} {b o : Nat} {x : Value} (h : CellAt B w b o x) : b < w.heap.size := lt_of_cell h.cell
theorem CellAt.keep {B : Nat} {w w' : World} {b o : Nat} {x : Value} (h : CellAt B w b o x) (hk : Keep8 B w w') : CellAt B w' b o x := by
  have e : w'.heap[b]? = w.heap[b]? := by
    rcases h.ex with h1 | ⟨y, h1, h2⟩
    · exact hk.low b h1
    · rw [h1]; exact hk.keep b y h1 h2
  refine ⟨?_, ?_⟩
  · have : w'.cell? ⟨b, o, none⟩ = w.cell? ⟨b, o, none⟩ := by unfold World.cell?; rw [e]
    rw [this]; exact h.cell
  · rw [e]; exact h.ex
theorem CellAt.below {B : Nat} {w w' : World} {b o : Nat} {x : Value} (h : CellAt B w b o x) (hb : Below w.heap.size w w') : CellAt B w' b o x := by
  have e : w'.heap[b]? = w.heap[b]? := hb.block b h.lt
  refine ⟨?_, by rw [e]; exact h.ex⟩
  have : w'.cell? ⟨b, o, none⟩ = w.cell? ⟨b, o, none⟩ := by unfold World.cell?; rw [e]
  rw [this]; exact h.cell
theorem yes_any (w : World) : Calls Tryz.prog 184 #[] w fun e w' => e = .returned (.bool true) ∧ Below w.heap.size w w' := by
  go_enter Tryz.func184, Tryz.ntmps184
  go_wp2
  go_ret
  exact ⟨rfl, Below.refl _ _⟩
theorem num1_any (B bx pb po : Nat) (n : Int) (w : World) (h1 : CellAt B w bx 0 (.pointer (some ⟨pb, po, none⟩))) (h2 : CellAt B w pb po (.int .u64 n)) : Calls Tryz.prog 183 #[.pointer (some ⟨bx, 0, none⟩)] w fun e w' => e = .returned (.bool (n == 0)) ∧ Below w.heap.size w w' := by
  have c1 := h1.cell
  have c2 := h2.cell
  clear h1 h2
  go_enter Tryz.func183, Tryz.ntmps183
  go_wp2
  go_ret
  exact ⟨rfl, Below.refl _ _⟩
theorem num2_any (B b base bx pb po : Nat) (n : Int) (s : ByteArray) (w : World) (h1 : CellAt B w bx 0 (.pointer (some ⟨pb, po, none⟩))) (h2 : CellAt B w pb po (.int .u64 n)) (h0 : 0 ≤ n) (hn : n ≤ 18446744073709551615) (ht : PTab B w) (hB : B ≤ base) (hW : WrB w b base s) (hs : s.size + (numP n).size ≤ 60000000000000) :
    Calls Tryz.prog 185 #[.pointer (some ⟨b, 0, none⟩), .pointer (some ⟨bx, 0, none⟩)] w fun e w' => e = .returned (.tuple #[]) ∧ WrB w' b base (s ++ numP n) ∧ WK base b w w' := by
  have c1 := h1.cell
  have c2 := h2.cell
  have H := Lib.hid (Num_w B b base n s w ht hB hW h0 hn (by omega))
  clear h1 h2 ht hW
  go_enter Tryz.func185, Tryz.ntmps185
  go_wp2_with fail
  refine H.out.mono ?_
  rintro e w' ⟨rfl, h3, h4⟩
  have H3 := Lib.hid h3
  have H4 := Lib.hid h4
  clear h3 h4
  go_wp2
  go_end0
  exact ⟨rfl, H3.out, H4.out⟩
theorem cellAt_new {B : Nat} {w : World} {n : Nat} {cs : Array Value} {T : TypeId} {o : Nat} {x : Value} (h : w.heap[n]? = some (.cells cs T (0, 0))) (hT : T ≠ 5) (hx : cs[o]? = some x) : CellAt B w n o x := ⟨by rw [block_cell h]; exact hx, .inr ⟨_, h, not8_cells hT⟩⟩
theorem flag1_any (B bx pb po : Nat) (q : Bool) (w : World) (h1 : CellAt B w bx 0 (.pointer (some ⟨pb, po, none⟩))) (h2 : CellAt B w pb po (.bool q)) : Calls Tryz.prog 187 #[.pointer (some ⟨bx, 0, none⟩)] w fun e w' => e = .returned (.bool (!q)) ∧ Below w.heap.size w w' := by
  have c1 := h1.cell
  have c2 := h2.cell
  clear h1 h2
  go_enter Tryz.func187, Tryz.ntmps187
  go_wp2
  go_ret
  exact ⟨rfl, Below.refl _ _⟩
theorem flag2_any (B b base : Nat) (s : ByteArray) (w : World) (ht : PTab B w) (hB : B ≤ base) (hW : WrB w b base s) (hs : s.size + (numP 1).size ≤ 60000000000000) :
    Calls Tryz.prog 188 #[.pointer (some ⟨b, 0, none⟩)] w fun e w' => e = .returned (.tuple #[]) ∧ WrB w' b base (s ++ numP 1) ∧ WK base b w w' := by
  have H := Lib.hid (Num_w B b base 1 s w ht hB hW (by decide) (by decide) (by omega))
  clear ht hW
  go_enter Tryz.func188, Tryz.ntmps188
  go_wp2_with fail
  refine H.out.mono ?_
  rintro e w' ⟨rfl, h3, h4⟩
  have H3 := Lib.hid h3
  have H4 := Lib.hid h4
  clear h3 h4
  go_wp2
  go_end0
  exact ⟨rfl, H3.out, H4.out⟩
theorem digest1_any (w : World) : Calls Tryz.prog 190 #[] w fun e w' => e = .returned (.bool false) ∧ Below w.heap.size w w' := by
  go_enter Tryz.func190, Tryz.ntmps190
  go_wp2
  go_ret
  exact ⟨rfl, Below.refl _ _⟩
theorem digest2_any (B bx pb po : Nat) (x : ByteArray) (w : World) (h1 : CellAt B w bx 0 (.pointer (some ⟨pb, po, none⟩))) (h2 : CellAt B w pb po (.string x)) (hx : x.size ≤ 9223372036854775807) : Calls Tryz.prog 191 #[.pointer (some ⟨bx, 0, none⟩)] w fun e w' => e = .returned (.bool (decide (x.size = 32))) ∧ Below w.heap.size w w' := by
  have c1 := h1.cell
  have c2 := h2.cell
  have HE : Hid (((x.size : Int) == 32) = decide (x.size = 32)) := Lib.hid (by rw [Bool.eq_iff_iff]; simp; omega)
  clear h1 h2
  go_enter Tryz.func191, Tryz.ntmps191
  go_wp2
  go_ret
  exact ⟨ret_bool HE.out, Below.refl _ _⟩
theorem digest3_any (B b base bx pb po : Nat) (x s : ByteArray) (w : World) (h1 : CellAt B w bx 0 (.pointer (some ⟨pb, po, none⟩))) (h2 : CellAt B w pb po (.string x)) (hx : x.size = 32) (ht : PTab B w) (hB : B ≤ base) (hW : WrB w b base s) (hs : s.size + (binP x).size ≤ 60000000000000) :
    Calls Tryz.prog 192 #[.pointer (some ⟨b, 0, none⟩), .pointer (some ⟨bx, 0, none⟩)] w fun e w' => e = .returned (.tuple #[]) ∧ WrB w' b base (s ++ binP x) ∧ WK base b w w' := by
  have c1 := h1.cell
  have c2 := h2.cell
  have H := Lib.hid (Bin_w B b base x s w ht hB hW (by omega) (by omega))
  clear h1 h2 ht hW hx
  go_enter Tryz.func192, Tryz.ntmps192
  go_wp2_with fail
  refine H.out.mono ?_
  rintro e w' ⟨rfl, h3, h4⟩
  have H3 := Lib.hid h3
  have H4 := Lib.hid h4
  clear h3 h4
  go_wp2
  go_end0
  exact ⟨rfl, H3.out, H4.out⟩
set_option maxRecDepth 100000 in
theorem fnum_any (B : Nat) (key : ByteArray) (pb po : Nat) (n : Int) (w : World) (hk : key.size < 65536) (hBw : B ≤ w.heap.size) (hc : CellAt B w pb po (.int .u64 n)) (h0 : 0 ≤ n) (h1 : n ≤ 18446744073709551615) :
    Calls Tryz.prog 109 #[.string key, .pointer (some ⟨pb, po, none⟩)] w fun e w' => ∃ v : FVal, e = .returned v.val ∧ FSem B w' v ⟨key, false, n == 0, true, numP n⟩ ∧ Below w.heap.size w w' := by
  have HC := Lib.hid hc
  clear hc
  go_enter Tryz.func109, Tryz.ntmps109
  go_wp2
  obtain ⟨bx, hbx⟩ : ∃ bx, w.heap.size = bx := ⟨_, rfl⟩
  obtain ⟨V, hV⟩ : ∃ V, ((w.alloc (.cells #[.pointer (some ⟨pb, po, none⟩)] 177)).alloc (.cells #[.string key, .bool false, .func (.func 183) #[] #[.pointer (some ⟨w.heap.size, 0, none⟩)], .func (.func 184) #[] #[], .func (.func 185) #[] #[.pointer (some ⟨w.heap.size, 0, none⟩)], .func (.func 186) #[] #[.pointer (some ⟨w.heap.size, 0, none⟩)]] 172)) = V := ⟨_, rfl⟩
  have VB : Below w.heap.size w V := by rw [← hV]; (repeat (first | exact Below.refl _ _ | assumption | (refine bdrew ?_) | (refine bdrewN ?_ _) | (refine balloc ?_ _) | (refine bset ?_ (by first | omega | (simp; done) | (simp; omega)) _) | (refine bnext ?_ (by assumption))))
  have V0 : V.heap[bx]? = some (.cells #[.pointer (some ⟨pb, po, none⟩)] 177 (0, 0)) := by rw [← hV, ← hbx]; exact block_alloc (heap_alloc_new _ _) _
  have V1 : V.heap[bx + 1]? = some (.cells #[.string key, .bool false, .func (.func 183) #[] #[.pointer (some ⟨bx, 0, none⟩)], .func (.func 184) #[] #[], .func (.func 185) #[] #[.pointer (some ⟨bx, 0, none⟩)], .func (.func 186) #[] #[.pointer (some ⟨bx, 0, none⟩)]] 172 (0, 0)) := by rw [← hV, ← hbx]; exact alloc_new_at _ (by simp)
  have d : ∀ o, V.cell? ⟨bx + 1, o, none⟩ = _ := block_cell V1
  rw [hV]
  simp only [hbx]
  clear hV
  have C0 : CellAt B V bx 0 (.pointer (some ⟨pb, po, none⟩)) := cellAt_new V0 (by decide) rfl
  have C1 : CellAt B V pb po (.int .u64 n) := HC.out.below VB
  refine bodyPost_ret (v := .agg #[.string key, .bool false, .func (.func 183) #[] #[.pointer (some ⟨bx, 0, none⟩)], .func (.func 184) #[] #[], .func (.func 185) #[] #[.pointer (some ⟨bx, 0, none⟩)], .func (.func 186) #[] #[.pointer (some ⟨bx, 0, none⟩)]]) ?_ rfl ⟨⟨key, false, 183, #[.pointer (some ⟨bx, 0, none⟩)], 184, #[], 185, #[.pointer (some ⟨bx, 0, none⟩)], 186, #[.pointer (some ⟨bx, 0, none⟩)]⟩, rfl, ?_, by rw [← hbx]; exact VB⟩
  · simp [results, Tryz.results109, go_sem, d]
  · refine ⟨rfl, rfl, hk, enters_of Tryz.func183 (by kernel_rfl) rfl, enters_of Tryz.func184 (by kernel_rfl) rfl, enters_of Tryz.func185 (by kernel_rfl) rfl, fun w' hw => num1_any B bx pb po n w' (C0.keep hw) (C1.keep hw), fun w' hw => yes_any w', fun hm he w' b base s hw hb ht hB hW hs => num2_any B b base bx pb po n s w' (C0.keep hw) (C1.keep hw) h0 h1 ht hB hW hs⟩
set_option maxRecDepth 100000 in
theorem fflag_any (B : Nat) (key : ByteArray) (pb po : Nat) (q : Bool) (w : World) (hk : key.size < 65536) (hBw : B ≤ w.heap.size) (hc : CellAt B w pb po (.bool q)) :
    Calls Tryz.prog 110 #[.string key, .pointer (some ⟨pb, po, none⟩)] w fun e w' => ∃ v : FVal, e = .returned v.val ∧ FSem B w' v ⟨key, false, !q, true, numP 1⟩ ∧ Below w.heap.size w w' := by
  have HC := Lib.hid hc
  clear hc
  go_enter Tryz.func110, Tryz.ntmps110
  go_wp2
  obtain ⟨bx, hbx⟩ : ∃ bx, w.heap.size = bx := ⟨_, rfl⟩
  obtain ⟨V, hV⟩ : ∃ V, ((w.alloc (.cells #[.pointer (some ⟨pb, po, none⟩)] 179)).alloc (.cells #[.string key, .bool false, .func (.func 187) #[] #[.pointer (some ⟨w.heap.size, 0, none⟩)], .func (.func 184) #[] #[], .func (.func 188) #[] #[], .func (.func 189) #[] #[.pointer (some ⟨w.heap.size, 0, none⟩)]] 172)) = V := ⟨_, rfl⟩
  have VB : Below w.heap.size w V := by rw [← hV]; (repeat (first | exact Below.refl _ _ | assumption | (refine bdrew ?_) | (refine bdrewN ?_ _) | (refine balloc ?_ _) | (refine bset ?_ (by first | omega | (simp; done) | (simp; omega)) _) | (refine bnext ?_ (by assumption))))
  have V0 : V.heap[bx]? = some (.cells #[.pointer (some ⟨pb, po, none⟩)] 179 (0, 0)) := by rw [← hV, ← hbx]; exact block_alloc (heap_alloc_new _ _) _
  have V1 : V.heap[bx + 1]? = some (.cells #[.string key, .bool false, .func (.func 187) #[] #[.pointer (some ⟨bx, 0, none⟩)], .func (.func 184) #[] #[], .func (.func 188) #[] #[], .func (.func 189) #[] #[.pointer (some ⟨bx, 0, none⟩)]] 172 (0, 0)) := by rw [← hV, ← hbx]; exact alloc_new_at _ (by simp)
  have d : ∀ o, V.cell? ⟨bx + 1, o, none⟩ = _ := block_cell V1
  rw [hV]
  simp only [hbx]
  clear hV
  have C0 : CellAt B V bx 0 (.pointer (some ⟨pb, po, none⟩)) := cellAt_new V0 (by decide) rfl
  have C1 : CellAt B V pb po (.bool q) := HC.out.below VB
  refine bodyPost_ret (v := .agg #[.string key, .bool false, .func (.func 187) #[] #[.pointer (some ⟨bx, 0, none⟩)], .func (.func 184) #[] #[], .func (.func 188) #[] #[], .func (.func 189) #[] #[.pointer (some ⟨bx, 0, none⟩)]]) ?_ rfl ⟨⟨key, false, 187, #[.pointer (some ⟨bx, 0, none⟩)], 184, #[], 188, #[], 189, #[.pointer (some ⟨bx, 0, none⟩)]⟩, rfl, ?_, by rw [← hbx]; exact VB⟩
  · simp [results, Tryz.results110, go_sem, d]
  · refine ⟨rfl, rfl, hk, enters_of Tryz.func187 (by kernel_rfl) rfl, enters_of Tryz.func184 (by kernel_rfl) rfl, enters_of Tryz.func188 (by kernel_rfl) rfl, fun w' hw => flag1_any B bx pb po q w' (C0.keep hw) (C1.keep hw), fun w' hw => yes_any w', fun hm he w' b base s hw hb ht hB hW hs => flag2_any B b base s w' ht hB hW hs⟩
set_option maxRecDepth 100000 in
theorem fdigest_any (B : Nat) (key : ByteArray) (pb po : Nat) (x : ByteArray) (w : World) (hk : key.size < 65536) (hBw : B ≤ w.heap.size) (hc : CellAt B w pb po (.string x)) (hx : x.size ≤ 9223372036854775807) :
    Calls Tryz.prog 111 #[.string key, .pointer (some ⟨pb, po, none⟩)] w fun e w' => ∃ v : FVal, e = .returned v.val ∧ FSem B w' v ⟨key, true, false, decide (x.size = 32), binP x⟩ ∧ Below w.heap.size w w' := by
  have HC := Lib.hid hc
  clear hc
  go_enter Tryz.func111, Tryz.ntmps111
  go_wp2
  obtain ⟨bx, hbx⟩ : ∃ bx, w.heap.size = bx := ⟨_, rfl⟩
  obtain ⟨V, hV⟩ : ∃ V, ((w.alloc (.cells #[.pointer (some ⟨pb, po, none⟩)] 181)).alloc (.cells #[.string key, .bool true, .func (.func 190) #[] #[], .func (.func 191) #[] #[.pointer (some ⟨w.heap.size, 0, none⟩)], .func (.func 192) #[] #[.pointer (some ⟨w.heap.size, 0, none⟩)], .func (.func 194) #[] #[.pointer (some ⟨w.heap.size, 0, none⟩)]] 172)) = V := ⟨_, rfl⟩
  have VB : Below w.heap.size w V := by rw [← hV]; (repeat (first | exact Below.refl _ _ | assumption | (refine bdrew ?_) | (refine bdrewN ?_ _) | (refine balloc ?_ _) | (refine bset ?_ (by first | omega | (simp; done) | (simp; omega)) _) | (refine bnext ?_ (by assumption))))
  have V0 : V.heap[bx]? = some (.cells #[.pointer (some ⟨pb, po, none⟩)] 181 (0, 0)) := by rw [← hV, ← hbx]; exact block_alloc (heap_alloc_new _ _) _
  have V1 : V.heap[bx + 1]? = some (.cells #[.string key, .bool true, .func (.func 190) #[] #[], .func (.func 191) #[] #[.pointer (some ⟨bx, 0, none⟩)], .func (.func 192) #[] #[.pointer (some ⟨bx, 0, none⟩)], .func (.func 194) #[] #[.pointer (some ⟨bx, 0, none⟩)]] 172 (0, 0)) := by rw [← hV, ← hbx]; exact alloc_new_at _ (by simp)
  have d : ∀ o, V.cell? ⟨bx + 1, o, none⟩ = _ := block_cell V1
  rw [hV]
  simp only [hbx]
  clear hV
  have C0 : CellAt B V bx 0 (.pointer (some ⟨pb, po, none⟩)) := cellAt_new V0 (by decide) rfl
  have C1 : CellAt B V pb po (.string x) := HC.out.below VB
  refine bodyPost_ret (v := .agg #[.string key, .bool true, .func (.func 190) #[] #[], .func (.func 191) #[] #[.pointer (some ⟨bx, 0, none⟩)], .func (.func 192) #[] #[.pointer (some ⟨bx, 0, none⟩)], .func (.func 194) #[] #[.pointer (some ⟨bx, 0, none⟩)]]) ?_ rfl ⟨⟨key, true, 190, #[], 191, #[.pointer (some ⟨bx, 0, none⟩)], 192, #[.pointer (some ⟨bx, 0, none⟩)], 194, #[.pointer (some ⟨bx, 0, none⟩)]⟩, rfl, ?_, by rw [← hbx]; exact VB⟩
  · simp [results, Tryz.results111, go_sem, d]
  · refine ⟨rfl, rfl, hk, enters_of Tryz.func190 (by kernel_rfl) rfl, enters_of Tryz.func191 (by kernel_rfl) rfl, enters_of Tryz.func192 (by kernel_rfl) rfl, fun w' hw => digest1_any w', fun w' hw => digest2_any B bx pb po x w' (C0.keep hw) (C1.keep hw) hx, fun hm he w' b base s hw hb ht hB hW hs => digest3_any B b base bx pb po x s w' (C0.keep hw) (C1.keep hw) (by simpa using hm) ht hB hW hs⟩
end Go.Proofs.YtihiaopilnjonaaGreatDoor
namespace Go.Proofs.YtihiaopilnjonaaGreatDoor
open Go.RowKit
set_option linter.unusedSimpArgs false
set_option linter.unusedVariables false
def Strs (B : Nat) (w : World) (a : Option Addr) (l : List ByteArray) : Prop := ∀ i, i < len l → ∃ b off, a = some ⟨b, off, none⟩ ∧ CellAt B w b (off + i) (.string (sth l i))
theorem Strs.keep {B : Nat} {w w' : World} {a : Option Addr} {l : List ByteArray} (h : Strs B w a l) (hk : Keep8 B w w') : Strs B w' a l := fun i hi => by
  obtain ⟨b, off, e, hc⟩ := h i hi; exact ⟨b, off, e, hc.keep hk⟩
theorem Strs.below {B : Nat} {w w' : World} {a : Option Addr} {l : List ByteArray} (h : Strs B w a l) (hk : Below w.heap.size w w') : Strs B w' a l := fun i hi => by
  obtain ⟨b, off, e, hc⟩ := h i hi; exact ⟨b, off, e, hc.below hk⟩
def SaysS (w : World) (l : List ByteArray) (g : Nat) (lb : Array Value) (p : Nat → Bool) : Prop :=
  (∀ args w', (callFunc g args).run Tryz.prog w' = .ok (.enter g args) w') ∧ ∀ i, i < len l → ∀ w', Below w.heap.size w w' → Calls Tryz.prog g (#[.string (sth l i)] ++ lb) w' fun e w'' => e = .returned (.bool (p i)) ∧ Below w'.heap.size w' w''
set_option maxRecDepth 100000 in
set_option maxHeartbeats 4000000 in
theorem idxs_any (B : Nat) (a : Option Addr) (c : Nat) (l : List ByteArray) (g : Nat) (lb : Array Value) (p : Nat → Bool) (w : World) (hl : Strs B w a l) (hn : len l ≤ 100000) (hp : SaysS w l g lb p) :
    Calls Tryz.prog 260 #[.slice a (len l) c, .func (.func g) #[] lb] w (IdxOut (len l) p w) := by
  have HL := Lib.hid hl
  have HP := Lib.hid hp.2
  have eg := hp.1
  clear hl hp
  go_enter Tryz.func260, Tryz.ntmps260
  go_wp2
  go_loopg [8] (len l) (fun g i wr => ∃ m : Nat, g + m = len l ∧ i = .int .i64 m ∧ Hid (∀ i, i < m → p i = false) ∧ Hid (Below w.heap.size w wr))
  case atStart => exact ⟨0, rfl, rfl, fun i hi => by omega, Below.refl _ _⟩
  case round =>
    obtain ⟨m, hm, rfl, HN, HB⟩ := hrel
    by_cases hlt : m < len l
    · obtain ⟨b, off, rfl, hc⟩ := (HL.out.below HB.out) m hlt
      have c0 := hc.cell
      have i1 : (m : Int) < len l := by omega
      have HC := Lib.hid (HP.out m hlt wr HB.out)
      clear hc
      generalize sth l m = v at c0 HC
      go_wp2_with fail
      refine HC.out.mono ?_
      rintro e w1 ⟨rfl, hb⟩
      have HB1 : Hid (Below w.heap.size w w1) := Lib.hid (bnext HB.out hb)
      clear hb c0
      cases hpm : p m with
      | true =>
        go_wp2
        go_ret
        exact ⟨m, rfl, .inr ⟨m, hlt, rfl, hpm, HN.out⟩, HB1.out⟩
      | false =>
        have HN2 : Hid (∀ i, i < m + 1 → p i = false) := Lib.hid (fun i hi => by
          by_cases e : i = m
          · subst e; exact hpm
          · exact HN.out i (by omega))
        clear hpm
        go_wp2
        go_roundg (len l - (m + 1))
        case rel => exact ⟨m + 1, by omega, by go_num, HN2.out, HB1.out⟩
        case measure => omega
    · obtain rfl : m = len l := by omega
      have i1 : ¬ ((len l : Nat) : Int) < len l := by omega
      go_wp2
      go_ret
      exact ⟨-1, rfl, .inl ⟨rfl, HN.out⟩, HB.out⟩
theorem containss_any (B : Nat) (a : Option Addr) (c : Nat) (l : List ByteArray) (g : Nat) (lb : Array Value) (p : Nat → Bool) (w : World) (hl : Strs B w a l) (hn : len l ≤ 100000) (hp : SaysS w l g lb p) :
    Calls Tryz.prog 249 #[.slice a (len l) c, .func (.func g) #[] lb] w fun e w' => ∃ b, e = .returned (.bool b) ∧ (b = true ↔ ∃ i, i < len l ∧ p i = true) ∧ Below w.heap.size w w' := by
  have H := Lib.hid (idxs_any B a c l g lb p w hl hn hp)
  clear hl hp
  go_enter Tryz.func249, Tryz.ntmps249
  go_wp2_with fail
  refine H.out.mono ?_
  rintro e w1 ⟨r, rfl, hr, hb⟩
  have HB := Lib.hid hb
  clear hb
  rcases hr with ⟨rfl, hall⟩ | ⟨k, hk, rfl, hpk, -⟩
  · have HA := Lib.hid hall
    clear hall
    go_wp2
    go_ret
    exact ⟨false, rfl, ⟨fun h => (by cases h), fun ⟨i, hi, h⟩ => by rw [HA.out i hi] at h; cases h⟩, HB.out⟩
  · have HK := Lib.hid hpk
    clear hpk
    go_wp2
    go_ret
    exact ⟨true, rfl, ⟨fun _ => ⟨k, hk, HK.out⟩, fun _ => rfl⟩, HB.out⟩
theorem dgs1_any (B pb po : Nat) (x : ByteArray) (w : World) (h : CellAt B w pb po (.string x)) : Calls Tryz.prog 211 #[.pointer (some ⟨pb, po, none⟩)] w fun e w' => e = .returned (.bool (decide (x.size = 32))) ∧ Below w.heap.size w w' := by
  have c1 := h.cell
  have HE : Hid (((x.size : Int) == 32) = decide (x.size = 32)) := Lib.hid (by rw [Bool.eq_iff_iff]; simp; omega)
  clear h
  go_enter Tryz.func211, Tryz.ntmps211
  go_wp2
  go_ret
  exact ⟨ret_bool HE.out, Below.refl _ _⟩
theorem dgs2_any (B b base pb po : Nat) (x s : ByteArray) (w : World) (h : CellAt B w pb po (.string x)) (hx : x.size = 32) (ht : PTab B w) (hB : B ≤ base) (hW : WrB w b base s) (hs : s.size + (binP x).size ≤ 60000000000000) :
    Calls Tryz.prog 212 #[.pointer (some ⟨b, 0, none⟩), .pointer (some ⟨pb, po, none⟩)] w fun e w' => e = .returned (.tuple #[]) ∧ WrB w' b base (s ++ binP x) ∧ WK base b w w' := by
  have c1 := h.cell
  have H := Lib.hid (Bin_w B b base x s w ht hB hW (by omega) (by omega))
  clear h ht hW hx
  go_enter Tryz.func212, Tryz.ntmps212
  go_wp2_with fail
  refine H.out.mono ?_
  rintro e w' ⟨rfl, h3, h4⟩
  have H3 := Lib.hid h3
  have H4 := Lib.hid h4
  clear h3 h4
  go_wp2
  go_end0
  exact ⟨rfl, H3.out, H4.out⟩
theorem many1_any (B b7 pb po n c : Nat) (a : Option Addr) (w : World) (h1 : CellAt B w b7 0 (.pointer (some ⟨pb, po, none⟩))) (h2 : CellAt B w pb po (.slice a n c)) : Calls Tryz.prog 247 #[.pointer (some ⟨b7, 0, none⟩)] w fun e w' => e = .returned (.bool (decide (n = 0))) ∧ Below w.heap.size w w' := by
  have c1 := h1.cell
  have c2 := h2.cell
  have HE : Hid (((n : Int) == 0) = decide (n = 0)) := Lib.hid (by rw [Bool.eq_iff_iff]; simp)
  clear h1 h2
  go_enter Tryz.func247, Tryz.ntmps247
  go_wp2
  go_ret
  exact ⟨ret_bool HE.out, Below.refl _ _⟩
set_option maxRecDepth 100000 in
theorem many21_any (B b9 : Nat) (x : ByteArray) (w : World) (h1 : CellAt B w b9 0 (.func (.func 211) #[] #[])) : Calls Tryz.prog 250 #[.string x, .pointer (some ⟨b9, 0, none⟩)] w fun e w' => e = .returned (.bool (!decide (x.size = 32))) ∧ Below w.heap.size w w' := by
  have c1 := h1.cell
  have l1 := h1.lt
  have eg := enters_of Tryz.func211 (by kernel_rfl) rfl
  clear h1
  go_enter Tryz.func250, Tryz.ntmps250
  go_wp2_with fail
  refine (dgs1_any B w.heap.size 0 x _ ⟨block_cell (heap_alloc_new _ _) 0, .inr ⟨_, heap_alloc_new _ _, not8_cells (by decide)⟩⟩).mono ?_
  rintro e w1 ⟨rfl, hb⟩
  have HB : Hid (Below w.heap.size w w1) := Lib.hid (bnext (balloc (Below.refl _ _) _) hb)
  clear hb
  go_wp2
  go_ret
  exact ⟨rfl, HB.out⟩
def mayB (l : List ByteArray) (most : Nat) : Bool := decide (len l ≤ most) && l.all fun x => decide (x.size = 32)
theorem all32_iff (l : List ByteArray) : ((l.all fun x => decide (x.size = 32)) = false ↔ ∃ i, i < len l ∧ (!decide ((sth l i).size = 32)) = true) := by
  rw [List.all_eq_false]
  constructor
  · rintro ⟨x, hx, hm⟩
    obtain ⟨i, hi, rfl⟩ := List.getElem_of_mem hx
    exact ⟨i, hi, by rw [sth_eq l i hi]; simpa using hm⟩
  · rintro ⟨i, hi, hm⟩
    have hi' : i < l.length := hi
    exact ⟨l[i], List.getElem_mem _, by rw [sth_eq l i hi'] at hm; simpa using hm⟩
set_option maxRecDepth 100000 in
set_option maxHeartbeats 4000000 in
theorem many2_any (B b7 b8 b9 pb po c most : Nat) (a : Option Addr) (l : List ByteArray) (w : World) (h1 : CellAt B w b7 0 (.pointer (some ⟨pb, po, none⟩))) (h2 : CellAt B w pb po (.slice a (len l) c)) (h3 : CellAt B w b8 0 (.int .i64 most)) (h4 : CellAt B w b9 0 (.func (.func 211) #[] #[]))
    (hl : Strs B w a l) (hn : len l ≤ 100000) : Calls Tryz.prog 248 #[.pointer (some ⟨b7, 0, none⟩), .pointer (some ⟨b8, 0, none⟩), .pointer (some ⟨b9, 0, none⟩)] w fun e w' => e = .returned (.bool (mayB l most)) ∧ Below w.heap.size w w' := by
  have c1 := h1.cell
  have c2 := h2.cell
  have c3 := h3.cell
  have H4 := Lib.hid h4
  have HL := Lib.hid hl
  have eg := enters_of Tryz.func250 (by kernel_rfl) rfl
  clear h1 h2 h3 h4 hl
  have HCF : Hid (∀ w', Below w.heap.size w w' → Calls Tryz.prog 249 #[.slice a (len l) c, .func (.func 250) #[] #[.pointer (some ⟨b9, 0, none⟩)]] w' fun e w'' => ∃ b, e = .returned (.bool b) ∧ (b = true ↔ ∃ i, i < len l ∧ (!decide ((sth l i).size = 32)) = true) ∧ Below w'.heap.size w' w'') :=
    Lib.hid (fun w' hb => containss_any B a c l _ _ (fun i => !decide ((sth l i).size = 32)) w' (HL.out.below hb) hn ⟨eg, fun i hi w'' hb2 => many21_any B b9 (sth l i) w'' ((H4.out.below hb).below hb2)⟩)
  by_cases hm : len l ≤ most
  · have i1 : decide (len l ≤ most) = true := decide_eq_true hm
    have i2 : (len l : Int) ≤ most := by omega
    have HM := Lib.hid i1
    clear i1 hm
    go_enter Tryz.func248, Tryz.ntmps248
    go_wp2_with fail
    go_still_tail 11, (by kernel_rfl)
    go_wp2_with fail
    refine (HCF.out _ (bdrew (Below.refl _ _))).mono ?_
    rintro e w1 ⟨q, rfl, hq, hb⟩
    have HB : Hid (Below w.heap.size w w1) := Lib.hid (bnext (bdrew (Below.refl _ _)) hb)
    have HE : Hid ((!q) = mayB l most) := Lib.hid (by
      unfold mayB
      rw [HM.out, Bool.true_and]
      have h := all32_iff l
      cases q with
      | true => rw [h.2 (hq.1 rfl)]; rfl
      | false =>
        cases hm : (l.all fun x => decide (x.size = 32)) with
        | true => rfl
        | false => exact absurd (hq.2 (h.1 hm)) (by decide))
    clear hb hq c1 c2 c3
    go_wp2
    go_ret
    exact ⟨ret_bool HE.out, HB.out⟩
  · have i1 : decide (len l ≤ most) = false := decide_eq_false hm
    have HM := Lib.hid i1
    have i2 : ¬ (len l : Int) ≤ most := by omega
    go_enter Tryz.func248, Tryz.ntmps248
    go_wp2_with fail
    go_quiet (fail)
    go_wp2
    go_ret
    exact ⟨ret_bool (by unfold mayB; rw [HM.out]; rfl), by (repeat (first | exact Below.refl _ _ | assumption | (refine bdrew ?_) | (refine bdrewN ?_ _) | (refine balloc ?_ _) | (refine bset ?_ (by first | omega | (simp; done) | (simp; omega)) _) | (refine bnext ?_ (by assumption))))⟩
def dgsP (l : List ByteArray) : ByteArray := listP (len l) ++ catB (l.map binP)
theorem size32 {l : List ByteArray} {most : Nat} (h : mayB l most = true) : len l ≤ most ∧ ∀ i, i < len l → (sth l i).size = 32 := by
  unfold mayB at h
  rw [Bool.and_eq_true] at h
  refine ⟨of_decide_eq_true h.1, fun i hi => ?_⟩
  have h2 := h.2
  rw [List.all_eq_true] at h2
  have hi' : i < l.length := hi
  rw [sth_eq l i hi']
  exact of_decide_eq_true (h2 _ (List.getElem_mem _))
set_option maxRecDepth 100000 in
set_option maxHeartbeats 4000000 in
theorem many3_any (B b base b7 b10 pb po c : Nat) (a : Option Addr) (l : List ByteArray) (s : ByteArray) (W0 w : World) (h1 : CellAt B W0 b7 0 (.pointer (some ⟨pb, po, none⟩))) (h2 : CellAt B W0 pb po (.slice a (len l) c)) (h3 : CellAt B W0 b10 0 (.func (.func 212) #[] #[]))
    (hl : Strs B W0 a l) (hn : len l ≤ 60000) (h32 : ∀ i, i < len l → (sth l i).size = 32) (hk : Keep8 B W0 w) (hb0 : Off8 W0 b)
    (ht : PTab B w) (hB : B ≤ base) (hW : WrB w b base s) (hs : s.size + (dgsP l).size ≤ 60000000000000) :
    Calls Tryz.prog 251 #[.pointer (some ⟨b, 0, none⟩), .pointer (some ⟨b7, 0, none⟩), .pointer (some ⟨b10, 0, none⟩)] w fun e w' => e = .returned (.tuple #[]) ∧ WrB w' b base (s ++ dgsP l) ∧ WK base b w w' := by
  have H1 := Lib.hid h1
  have H2 := Lib.hid h2
  have H3 := Lib.hid h3
  have HL := Lib.hid hl
  have H32 := Lib.hid h32
  have HK := Lib.hid hk
  have HT := Lib.hid ht
  have HWR := Lib.hid hW
  have HBS : Hid (base ≤ w.heap.size) := Lib.hid (by have := hW.1; have := hW.lt; omega)
  have HS : Hid (s.size + (listP (len l)).size + (catB (l.map binP)).size ≤ 60000000000000) := Lib.hid (by unfold dgsP at hs; rw [ByteArray.size_append] at hs; omega)
  have hs0 : s.size ≤ 60000000000000 := by omega
  have c1 := (h1.keep hk).cell
  have c2 := (h2.keep hk).cell
  have eg := enters_of Tryz.func212 (by kernel_rfl) rfl
  clear h1 h2 h3 hl h32 hk ht hW hs
  go_enter Tryz.func251, Tryz.ntmps251
  go_wp2_with fail
  refine (List_w B b base (len l) s w HT.out hB HWR.out (by omega) (by omega)).mono ?_
  rintro e w3 ⟨rfl, hw3, hk3⟩
  have HW3 : Hid (WrB w3 b base (s ++ listP (len l) ++ catB ((l.map binP).take 0))) := Lib.hid (by
    have e : s ++ listP (len l) ++ catB ((l.map binP).take 0) = s ++ listP (len l) := ba_ext (by simp [catB])
    rw [e]; exact hw3)
  have HK3 : Hid (WK base b w w3) := Lib.hid hk3
  have hk8 := HK.out.wk hk3 hb0 hB
  have d1 := (H1.out.keep hk8).cell
  have d2 := (H2.out.keep hk8).cell
  clear hw3 hk3 hk8 c1 c2
  go_wp2
  clear d1 d2
  go_loopg [15] (len l) (fun gg i wr => ∃ m : Nat, gg + m = len l ∧ i = .int .i64 m ∧ Hid (WrB wr b base (s ++ listP (len l) ++ catB ((l.map binP).take m))) ∧ Hid (WK base b w wr))
  case atStart => exact ⟨0, rfl, rfl, HW3.out, HK3.out⟩
  case round =>
    clear HW3 HK3
    obtain ⟨m, hm2, rfl, HWW, HWK⟩ := hrel
    by_cases hlt : m < len l
    · have i1 : (m : Int) < len l := by omega
      have hml : m < l.length := hlt
      have hk8 := HK.out.wk HWK.out hb0 hB
      have HK8 := Lib.hid hk8
      have d1 := (H1.out.keep hk8).cell
      have d2 := (H2.out.keep hk8).cell
      have d3 := (H3.out.keep hk8).cell
      obtain ⟨gb, go, rfl, hcell⟩ := (HL.out.keep hk8) m hlt
      have HCL := Lib.hid hcell
      have hsn : (l.map binP).take (m + 1) = (l.map binP).take m ++ [binP (sth l m)] := by
        rw [List.take_succ_eq_append_getElem (by simpa using hml), List.getElem_map, sth_eq l m hml]
      have hct := catB_take (L := l.map binP) (t := m) (by simpa using hml)
      have hfm : (l.map binP)[m]'(by simpa using hml) = binP (sth l m) := by rw [List.getElem_map, sth_eq l m hml]
      rw [hfm] at hct
      have h32m := H32.out m hlt
      obtain ⟨x, hx⟩ : ∃ x, sth l m = x := ⟨_, rfl⟩
      rw [hx] at hsn hct h32m HCL
      obtain ⟨s1, hs1⟩ : ∃ s1, s ++ listP (len l) ++ catB ((l.map binP).take m) = s1 := ⟨_, rfl⟩
      rw [hs1] at HWW
      have hs1s : s1.size + (binP x).size ≤ 60000000000000 := by
        rw [← hs1, ByteArray.size_append, ByteArray.size_append]
        have := HS.out
        omega
      have HSN : Hid (s ++ listP (len l) ++ catB ((l.map binP).take (m + 1)) = s1 ++ binP x) := Lib.hid (by
        rw [hsn, catB_snoc, ← hs1]; simp only [ByteArray.append_assoc])
      have HTR : Hid (PTab B wr) := Lib.hid (HT.out.keep HWK.out.bel hB)
      have hbr : base ≤ wr.heap.size := by have := HWK.out.bel.size; have := HBS.out; omega
      have HBR := Lib.hid hbr
      clear hk8 hcell hsn hct hfm hx hs1 hbr
      go_upto_region 4 with fail
      go_still_tail 7, (by kernel_rfl)
      go_wp2_with fail
      refine (dgs2_any B b base gb (go + m) x s1 _ (HCL.out.below (bdrew (Below.refl _ _))) h32m (HTR.out.keep (bdrew (Below.refl _ _)) HTR.out.size) hB (HWW.out.below (bdrew (Below.refl _ _))) hs1s).mono ?_
      rintro e w5 ⟨rfl, hw5, hk5⟩
      have HW5 : Hid (WrB w5 b base (s ++ listP (len l) ++ catB ((l.map binP).take (m + 1)))) := Lib.hid (by rw [HSN.out]; exact hw5)
      have HK5 : Hid (WK base b w w5) := Lib.hid ((HWK.out.trans (WK.of_below (bdrew (Below.refl _ _)) HBR.out)).trans hk5)
      clear hw5 hk5 HWW HWK d1 d2 d3 HCL
      go_wp2
      go_roundg (len l - (m + 1))
      case rel => exact ⟨m + 1, by omega, by go_num, HW5.out, HK5.out⟩
      case measure => omega
    · obtain rfl : m = len l := by omega
      have i1 : ¬ ((len l : Nat) : Int) < len l := by omega
      go_wp2
      go_end0
      refine ⟨rfl, ?_, HWK.out⟩
      have h := HWW.out
      rw [List.take_of_length_le (by rw [List.length_map]; exact Nat.le_refl _), ByteArray.append_assoc] at h
      exact h
end Go.Proofs.YtihiaopilnjonaaGreatDoor
namespace Go.Proofs.YtihiaopilnjonaaGreatDoor
open Go.RowKit
set_option linter.unusedSimpArgs false
set_option linter.unusedVariables false
theorem CellAt.but {B : Nat} {w w' : World} {b o t : Nat} {x : Value} (h : CellAt B w b o x) (hb : b ≠ t) (hk : ∀ k : Nat, k ≠ t → w'.heap[k]? = w.heap[k]?) : CellAt B w' b o x := by
  have e := hk b hb
  refine ⟨?_, by rw [e]; exact h.ex⟩
  have : w'.cell? ⟨b, o, none⟩ = w.cell? ⟨b, o, none⟩ := by unfold World.cell?; rw [e]
  rw [this]; exact h.cell
set_option maxRecDepth 100000 in
theorem fmany_any (B : Nat) (key : ByteArray) (pb po c most : Nat) (a : Option Addr) (l : List ByteArray) (w : World) (hk : key.size < 65536) (hBw : B ≤ w.heap.size) (hc : CellAt B w pb po (.slice a (len l) c)) (hl : Strs B w a l) (hn : len l ≤ 100000) (hm : most ≤ 60000) (t : Nat) (htw : t < w.heap.size) (htp : pb ≠ t) (hta : ∀ i, i < len l → ∃ g o, a = some ⟨g, o, none⟩ ∧ g ≠ t) :
    Calls Tryz.prog 210 #[.string key, .pointer (some ⟨pb, po, none⟩), .int .i64 most, .func (.func 211) #[] #[], .func (.func 212) #[] #[], .func (.func 213) #[] #[]] w fun e w' => ∃ v : FVal, e = .returned v.val ∧ (∀ V2 : World, (∀ k : Nat, k ≠ t → V2.heap[k]? = w'.heap[k]?) → FSem B V2 v ⟨key, false, decide (len l = 0), mayB l most, dgsP l⟩) ∧ Below w.heap.size w w' := by
  have HC := Lib.hid hc
  have HL := Lib.hid hl
  clear hc hl
  go_enter Tryz.func210, Tryz.ntmps210
  go_wp2
  obtain ⟨bx, hbx⟩ : ∃ bx, w.heap.size = bx := ⟨_, rfl⟩
  obtain ⟨V, hV⟩ : ∃ V, (((((((w.alloc (.cells #[.pointer (some ⟨pb, po, none⟩)] 230)).alloc (.cells #[.int .i64 most] 3)).alloc (.cells #[.func (.func 211) #[] #[]] 301)).alloc (.cells #[.func (.func 212) #[] #[]] 302)).alloc (.cells #[.func (.func 213) #[] #[]] 303)).alloc (.cells #[.string key, .bool false, .func (.func 247) #[] #[.pointer (some ⟨w.heap.size, 0, none⟩)], .func (.func 248) #[] #[.pointer (some ⟨w.heap.size, 0, none⟩), .pointer (some ⟨w.heap.size + 1, 0, none⟩), .pointer (some ⟨w.heap.size + 1 + 1, 0, none⟩)], .func (.func 251) #[] #[.pointer (some ⟨w.heap.size, 0, none⟩), .pointer (some ⟨w.heap.size + 1 + 1 + 1, 0, none⟩)], .func (.func 252) #[] #[.pointer (some ⟨w.heap.size + 1, 0, none⟩), .pointer (some ⟨w.heap.size + 1 + 1 + 1 + 1, 0, none⟩), .pointer (some ⟨w.heap.size, 0, none⟩)]] 172)).alloc (.cells #[.string key, .bool false, .func (.func 247) #[] #[.pointer (some ⟨w.heap.size, 0, none⟩)], .func (.func 248) #[] #[.pointer (some ⟨w.heap.size, 0, none⟩), .pointer (some ⟨w.heap.size + 1, 0, none⟩), .pointer (some ⟨w.heap.size + 1 + 1, 0, none⟩)], .func (.func 251) #[] #[.pointer (some ⟨w.heap.size, 0, none⟩), .pointer (some ⟨w.heap.size + 1 + 1 + 1, 0, none⟩)], .func (.func 252) #[] #[.pointer (some ⟨w.heap.size + 1, 0, none⟩), .pointer (some ⟨w.heap.size + 1 + 1 + 1 + 1, 0, none⟩), .pointer (some ⟨w.heap.size, 0, none⟩)]] 172)) = V := ⟨_, rfl⟩
  have VB : Below w.heap.size w V := by rw [← hV]; (repeat (first | exact Below.refl _ _ | assumption | (refine bdrew ?_) | (refine bdrewN ?_ _) | (refine balloc ?_ _) | (refine bset ?_ (by first | omega | (simp; done) | (simp; omega)) _) | (refine bnext ?_ (by assumption))))
  have V0 : V.heap[bx]? = some (.cells #[.pointer (some ⟨pb, po, none⟩)] 230 (0, 0)) := by rw [← hV, ← hbx]; exact block_alloc (block_alloc (block_alloc (block_alloc (block_alloc (block_alloc (heap_alloc_new _ _) _) _) _) _) _) _
  have V1 : V.heap[bx + 1]? = some (.cells #[.int .i64 most] 3 (0, 0)) := by rw [← hV, ← hbx]; exact block_alloc (block_alloc (block_alloc (block_alloc (block_alloc (alloc_new_at _ (by simp)) _) _) _) _) _
  have V2 : V.heap[bx + 1 + 1]? = some (.cells #[.func (.func 211) #[] #[]] 301 (0, 0)) := by rw [← hV, ← hbx]; exact block_alloc (block_alloc (block_alloc (block_alloc (alloc_new_at _ (by simp)) _) _) _) _
  have V3 : V.heap[bx + 1 + 1 + 1]? = some (.cells #[.func (.func 212) #[] #[]] 302 (0, 0)) := by rw [← hV, ← hbx]; exact block_alloc (block_alloc (block_alloc (alloc_new_at _ (by simp)) _) _) _
  have V5 : V.heap[bx + 1 + 1 + 1 + 1 + 1]? = some (.cells #[.string key, .bool false, .func (.func 247) #[] #[.pointer (some ⟨bx, 0, none⟩)], .func (.func 248) #[] #[.pointer (some ⟨bx, 0, none⟩), .pointer (some ⟨bx + 1, 0, none⟩), .pointer (some ⟨bx + 1 + 1, 0, none⟩)], .func (.func 251) #[] #[.pointer (some ⟨bx, 0, none⟩), .pointer (some ⟨bx + 1 + 1 + 1, 0, none⟩)], .func (.func 252) #[] #[.pointer (some ⟨bx + 1, 0, none⟩), .pointer (some ⟨bx + 1 + 1 + 1 + 1, 0, none⟩), .pointer (some ⟨bx, 0, none⟩)]] 172 (0, 0)) := by rw [← hV, ← hbx]; exact block_alloc (alloc_new_at _ (by simp)) _
  have d : ∀ o, V.cell? ⟨bx + 1 + 1 + 1 + 1 + 1, o, none⟩ = _ := block_cell V5
  rw [hV]
  simp only [hbx]
  clear hV
  have hbt : bx ≠ t ∧ bx + 1 ≠ t ∧ bx + 1 + 1 ≠ t ∧ bx + 1 + 1 + 1 ≠ t := by omega
  have C0 : CellAt B V bx 0 (.pointer (some ⟨pb, po, none⟩)) := cellAt_new V0 (by decide) rfl
  have C1 : CellAt B V (bx + 1) 0 (.int .i64 most) := cellAt_new V1 (by decide) rfl
  have C2 : CellAt B V (bx + 1 + 1) 0 (.func (.func 211) #[] #[]) := cellAt_new V2 (by decide) rfl
  have C3 : CellAt B V (bx + 1 + 1 + 1) 0 (.func (.func 212) #[] #[]) := cellAt_new V3 (by decide) rfl
  have CP : CellAt B V pb po (.slice a (len l) c) := HC.out.below VB
  have SL : Strs B V a l := HL.out.below VB
  refine bodyPost_ret (v := .agg #[.string key, .bool false, .func (.func 247) #[] #[.pointer (some ⟨bx, 0, none⟩)], .func (.func 248) #[] #[.pointer (some ⟨bx, 0, none⟩), .pointer (some ⟨bx + 1, 0, none⟩), .pointer (some ⟨bx + 1 + 1, 0, none⟩)], .func (.func 251) #[] #[.pointer (some ⟨bx, 0, none⟩), .pointer (some ⟨bx + 1 + 1 + 1, 0, none⟩)], .func (.func 252) #[] #[.pointer (some ⟨bx + 1, 0, none⟩), .pointer (some ⟨bx + 1 + 1 + 1 + 1, 0, none⟩), .pointer (some ⟨bx, 0, none⟩)]]) ?_ rfl ⟨⟨key, false, 247, #[.pointer (some ⟨bx, 0, none⟩)], 248, #[.pointer (some ⟨bx, 0, none⟩), .pointer (some ⟨bx + 1, 0, none⟩), .pointer (some ⟨bx + 1 + 1, 0, none⟩)], 251, #[.pointer (some ⟨bx, 0, none⟩), .pointer (some ⟨bx + 1 + 1 + 1, 0, none⟩)], 252, #[.pointer (some ⟨bx + 1, 0, none⟩), .pointer (some ⟨bx + 1 + 1 + 1 + 1, 0, none⟩), .pointer (some ⟨bx, 0, none⟩)]⟩, rfl, ?_, by rw [← hbx]; exact VB⟩
  · simp [results, Tryz.results210, go_sem, d]
  · intro V2 hV2
    have D0 := C0.but hbt.1 hV2
    have D1 := C1.but hbt.2.1 hV2
    have D2 := C2.but hbt.2.2.1 hV2
    have D3 := C3.but hbt.2.2.2 hV2
    have DP := CP.but htp hV2
    have DS : Strs B V2 a l := fun i hi => by
      obtain ⟨g, o, e, hg⟩ := hta i hi
      obtain ⟨g', o', e', hc⟩ := SL i hi
      subst e; cases e'
      exact ⟨g, o, rfl, hc.but hg hV2⟩
    exact ⟨rfl, rfl, hk, enters_of Tryz.func247 (by kernel_rfl) rfl, enters_of Tryz.func248 (by kernel_rfl) rfl, enters_of Tryz.func251 (by kernel_rfl) rfl, fun w' hw => many1_any B bx pb po (len l) c a w' (D0.keep hw) (DP.keep hw), fun w' hw => many2_any B bx (bx + 1) (bx + 1 + 1) pb po c most a l w' (D0.keep hw) (DP.keep hw) (D1.keep hw) (D2.keep hw) (DS.keep hw) hn, fun hm1 he w' b base s hw hb ht hB hW hs => many3_any B b base bx (bx + 1 + 1 + 1) pb po c a l s V2 w' D0 DP D3 DS (by have := (size32 hm1).1; omega) (size32 hm1).2 hw hb ht hB hW hs⟩
end Go.Proofs.YtihiaopilnjonaaGreatDoor
namespace Go.Proofs.YtihiaopilnjonaaGreatDoor
open Go.RowKit
set_option linter.unusedSimpArgs false
set_option linter.unusedVariables false
set_option maxRecDepth 100000 in
theorem fdigests_any (B : Nat) (key : ByteArray) (pb po c most : Nat) (a : Option Addr) (l : List ByteArray) (w : World) (hk : key.size < 65536) (hBw : B ≤ w.heap.size) (hc : CellAt B w pb po (.slice a (len l) c)) (hl : Strs B w a l) (hn : len l ≤ 100000) (hm : most ≤ 60000) :
    Calls Tryz.prog 145 #[.string key, .pointer (some ⟨pb, po, none⟩), .int .i64 most] w fun e w' => ∃ v : FVal, e = .returned v.val ∧ FSem B w' v ⟨key, false, decide (len l = 0), mayB l most, dgsP l⟩ ∧ Below w.heap.size w w' := by
  have HM : Hid (∀ w', Below w.heap.size w w' → w.heap.size < w'.heap.size → Calls Tryz.prog 210 #[.string key, .pointer (some ⟨pb, po, none⟩), .int .i64 most, .func (.func 211) #[] #[], .func (.func 212) #[] #[], .func (.func 213) #[] #[]] w' fun e w'' => ∃ v : FVal, e = .returned v.val ∧ (∀ V2 : World, (∀ k : Nat, k ≠ w.heap.size → V2.heap[k]? = w''.heap[k]?) → FSem B V2 v ⟨key, false, decide (len l = 0), mayB l most, dgsP l⟩) ∧ Below w'.heap.size w' w'') :=
    Lib.hid (fun w' hb hlt => fmany_any B key pb po c most a l w' hk (Nat.le_trans hBw hb.size) (hc.below hb) (hl.below hb) hn hm w.heap.size hlt (by have := hc.lt; omega) (fun i hi => by
      obtain ⟨g, o, e, hg⟩ := hl i hi
      exact ⟨g, o, e, by have := hg.lt; omega⟩))
  clear hc hl hBw
  go_enter Tryz.func145, Tryz.ntmps145
  go_wp2_with fail
  refine (HM.out _ (balloc (Below.refl _ _) _) (by simp)).mono ?_
  rintro e w1 ⟨v, rfl, hs, hb⟩
  have HS := Lib.hid hs
  have HB : Hid (Below w.heap.size w w1) := Lib.hid (bnext (balloc (Below.refl _ _) _) hb)
  have hblk := (hb.block w.heap.size (by simp)).trans (heap_alloc_new w _)
  have hfr : ∀ o, w1.frozen? ⟨w.heap.size, o, none⟩ = false := block_free hblk
  have hcl : ∀ o, w1.cell? ⟨w.heap.size, o, none⟩ = _ := block_cell hblk
  have HBK := Lib.hid hblk
  clear hs hb hblk
  unfold FVal.val
  go_wp2
  obtain ⟨V, hV⟩ : ∃ V, (((((w1.setCell ⟨w.heap.size, 0, none⟩ (.string v.key)).setCell ⟨w.heap.size, 1, none⟩ (.bool v.must)).setCell ⟨w.heap.size, 2, none⟩ (.func (.func v.ef) #[] v.ec)).setCell ⟨w.heap.size, 3, none⟩ (.func (.func v.mf) #[] v.mc)).setCell ⟨w.heap.size, 4, none⟩ (.func (.func v.pf) #[] v.pc)).setCell ⟨w.heap.size, 5, none⟩ (.func (.func v.gf) #[] v.gc) = V := ⟨_, rfl⟩
  have hV5 := block_setCell (block_setCell (block_setCell (block_setCell (block_setCell (block_setCell HBK.out (o := 0) (.string v.key)) (o := 1) (.bool v.must)) (o := 2) (.func (.func v.ef) #[] v.ec)) (o := 3) (.func (.func v.mf) #[] v.mc)) (o := 4) (.func (.func v.pf) #[] v.pc)) (o := 5) (.func (.func v.gf) #[] v.gc)
  rw [hV] at hV5
  have d : ∀ o, V.cell? ⟨w.heap.size, o, none⟩ = _ := block_cell hV5
  have hbut : ∀ k : Nat, k ≠ w.heap.size → V.heap[k]? = w1.heap[k]? := fun k hk => by
    rw [← hV, Below.heap_setCell _ _ _ _ hk, Below.heap_setCell _ _ _ _ hk, Below.heap_setCell _ _ _ _ hk, Below.heap_setCell _ _ _ _ hk, Below.heap_setCell _ _ _ _ hk, Below.heap_setCell _ _ _ _ hk]
  have hbel : Below w.heap.size w V := by
    rw [← hV]
    exact (((((HB.out.setCell (Nat.le_refl _) _).setCell (Nat.le_refl _) _).setCell (Nat.le_refl _) _).setCell (Nat.le_refl _) _).setCell (Nat.le_refl _) _).setCell (Nat.le_refl _) _
  rw [hV]
  refine bodyPost_ret (v := v.val) ?_ rfl ⟨v, rfl, HS.out V hbut, hbel⟩
  simp [results, Tryz.results145, go_sem, d, FVal.val]
structure FRow (w : World) (g : Nat) (l : List FVal) : Prop where
  flds : Flds w (some ⟨g, 0, none⟩) l
  ex : ∃ cur, w.heap[g]? = some (.cells cur 172 (0, 0))
theorem FRow.keep {B : Nat} {w w' : World} {g : Nat} {l : List FVal} (h : FRow w g l) (hk : Keep8 B w w') : FRow w' g l := by
  obtain ⟨h1, cur, h2⟩ := h
  have h3 := hk.keep g _ h2 (not8_cells (by decide))
  exact ⟨flds_keep h1 (h3.trans h2.symm), cur, h3⟩
theorem FRow.below {w w' : World} {g : Nat} {l : List FVal} (h : FRow w g l) (hk : Below w.heap.size w w') : FRow w' g l := by
  obtain ⟨h1, cur, h2⟩ := h
  have h3 := hk.block g (lt_of_block h2)
  exact ⟨flds_keep h1 h3, cur, h3.trans h2⟩
theorem FRow.lt {w : World} {g : Nat} {l : List FVal} (h : FRow w g l) : g < w.heap.size := by
  obtain ⟨h1, cur, h2⟩ := h; exact lt_of_block h2
def objSpec (key : ByteArray) (fs : List FSpec) : FSpec := ⟨key, fs.any fun f => f.must, fs.all fun f => f.empty, allMay fs, layP fs⟩
theorem allEmpty_iff (fs : List FSpec) (n : Nat) (h : len fs = n) : ((fs.all fun f => f.empty) = false ↔ ∃ i, i < n ∧ (!(spth fs i).empty) = true) := by
  subst h
  rw [List.all_eq_false]
  constructor
  · rintro ⟨x, hx, hm⟩
    obtain ⟨i, hi, rfl⟩ := List.getElem_of_mem hx
    exact ⟨i, hi, by rw [spth_eq fs i hi]; simpa using hm⟩
  · rintro ⟨i, hi, hm⟩
    have hi' : i < fs.length := hi
    exact ⟨fs[i], List.getElem_mem _, by rw [spth_eq fs i hi'] at hm; simpa using hm⟩
theorem anyMust_iff (fs : List FSpec) (n : Nat) (h : len fs = n) : ((fs.any fun f => f.must) = true ↔ ∃ i, i < n ∧ (spth fs i).must = true) := by
  subst h
  rw [List.any_eq_true]
  constructor
  · rintro ⟨x, hx, hm⟩
    obtain ⟨i, hi, rfl⟩ := List.getElem_of_mem hx
    exact ⟨i, hi, by rw [spth_eq fs i hi]; exact hm⟩
  · rintro ⟨i, hi, hm⟩
    have hi' : i < fs.length := hi
    exact ⟨fs[i], List.getElem_mem _, by rw [spth_eq fs i hi'] at hm; exact hm⟩
set_option maxRecDepth 100000 in
theorem obj2_any (B bx g c : Nat) (W0 : World) (l : List FVal) (fs : List FSpec) (w : World) (h1 : CellAt B w bx 0 (.slice (some ⟨g, 0, none⟩) (len l) c)) (hl : Flds w (some ⟨g, 0, none⟩) l) (hn : len l ≤ 1000) (hS : FSems B W0 l fs) (hk : Keep8 B W0 w) :
    Calls Tryz.prog 178 #[.pointer (some ⟨bx, 0, none⟩)] w fun e w' => e = .returned (.bool (fs.all fun f => f.empty)) ∧ Below w.heap.size w w' := by
  have c1 := h1.cell
  have H := Lib.hid (containsf_any (some ⟨g, 0, none⟩) c l 179 #[] _ w hl hn (says_full hS hk))
  have HI := Lib.hid (allEmpty_iff fs (len l) hS.1)
  clear h1 hl hS hk
  go_enter Tryz.func178, Tryz.ntmps178
  go_wp2_with fail
  refine H.out.mono ?_
  rintro e w1 ⟨b, rfl, hb1, hb⟩
  have HB := Lib.hid hb
  have HE : Hid ((!b) = (fs.all fun f => f.empty)) := Lib.hid (by
    have h := HI.out
    cases b with
    | true => rw [h.2 (hb1.1 rfl)]; rfl
    | false =>
      cases hm : (fs.all fun f => f.empty) with
      | true => rfl
      | false => exact absurd (hb1.2 (h.1 hm)) (by decide))
  clear hb hb1
  go_wp2
  go_ret
  exact ⟨ret_bool HE.out, HB.out⟩
theorem obj3_any (B bx g c : Nat) (W0 : World) (l : List FVal) (fs : List FSpec) (w : World) (h1 : CellAt B w bx 0 (.slice (some ⟨g, 0, none⟩) (len l) c)) (hl : Flds w (some ⟨g, 0, none⟩) l) (hn : len l ≤ 1000) (hS : FSems B W0 l fs) (hk : Keep8 B W0 w) :
    Calls Tryz.prog 180 #[.pointer (some ⟨bx, 0, none⟩)] w fun e w' => e = .returned (.bool (allMay fs)) ∧ Below w.heap.size w w' := by
  have c1 := h1.cell
  have H := Lib.hid (all_any B W0 (some ⟨g, 0, none⟩) c l fs w hl hn hS hk)
  clear h1 hl hS hk
  go_enter Tryz.func180, Tryz.ntmps180
  go_wp2_with fail
  refine H.out.mono ?_
  rintro e w1 ⟨rfl, hb⟩
  have HB := Lib.hid hb
  clear hb
  go_wp2
  go_ret
  exact ⟨rfl, HB.out⟩
theorem obj4_any (B b base bx g c : Nat) (W0 : World) (l : List FVal) (fs : List FSpec) (s : ByteArray) (w : World) (h1 : CellAt B w bx 0 (.slice (some ⟨g, 0, none⟩) (len l) c)) (hl : Flds w (some ⟨g, 0, none⟩) l) (hn : len l ≤ 1000) (h0 : 0 < len l) (hS : FSems B W0 l fs) (hm : allMay fs = true) (hk : Keep8 B W0 w) (hb0 : Off8 W0 b)
    (ht : PTab B w) (hB : B ≤ base) (hW : WrB w b base s) (hs : s.size + (layP fs).size ≤ 60000000000000) :
    Calls Tryz.prog 181 #[.pointer (some ⟨b, 0, none⟩), .pointer (some ⟨bx, 0, none⟩)] w fun e w' => e = .returned (.tuple #[]) ∧ WrB w' b base (s ++ layP fs) ∧ WK base b w w' := by
  have c1 := h1.cell
  have H := Lib.hid (lay_any B b base g 0 c W0 l fs s w hl hn h0 hS hm hk hb0 ht hB hW hs)
  clear h1 hl hS hk ht hW
  go_enter Tryz.func181, Tryz.ntmps181
  go_wp2_with fail
  refine H.out.mono ?_
  rintro e w1 ⟨rfl, h3, h4⟩
  have H3 := Lib.hid h3
  have H4 := Lib.hid h4
  clear h3 h4
  go_wp2
  go_end0
  exact ⟨rfl, H3.out, H4.out⟩
end Go.Proofs.YtihiaopilnjonaaGreatDoor
namespace Go.Proofs.YtihiaopilnjonaaGreatDoor
open Go.RowKit
set_option linter.unusedSimpArgs false
set_option linter.unusedVariables false
def NumS (w : World) (lo : Nat) (key : ByteArray) (pb po : Nat) (v : FVal) : Prop := ∃ bx, lo ≤ bx ∧ w.heap[bx]? = some (.cells #[.pointer (some ⟨pb, po, none⟩)] 177 (0, 0)) ∧ v = ⟨key, false, 183, #[.pointer (some ⟨bx, 0, none⟩)], 184, #[], 185, #[.pointer (some ⟨bx, 0, none⟩)], 186, #[.pointer (some ⟨bx, 0, none⟩)]⟩
set_option maxRecDepth 100000 in
theorem snum_any (key : ByteArray) (pb po : Nat) (w : World) : Calls Tryz.prog 109 #[.string key, .pointer (some ⟨pb, po, none⟩)] w fun e w' => ∃ v : FVal, e = .returned v.val ∧ NumS w' w.heap.size key pb po v ∧ Below w.heap.size w w' := by
  go_enter Tryz.func109, Tryz.ntmps109
  go_wp2
  obtain ⟨bx, hbx⟩ : ∃ bx, w.heap.size = bx := ⟨_, rfl⟩
  obtain ⟨V, hV⟩ : ∃ V, ((w.alloc (.cells #[.pointer (some ⟨pb, po, none⟩)] 177)).alloc (.cells #[.string key, .bool false, .func (.func 183) #[] #[.pointer (some ⟨w.heap.size, 0, none⟩)], .func (.func 184) #[] #[], .func (.func 185) #[] #[.pointer (some ⟨w.heap.size, 0, none⟩)], .func (.func 186) #[] #[.pointer (some ⟨w.heap.size, 0, none⟩)]] 172)) = V := ⟨_, rfl⟩
  have VB : Below w.heap.size w V := by rw [← hV]; (repeat (first | exact Below.refl _ _ | assumption | (refine bdrew ?_) | (refine bdrewN ?_ _) | (refine balloc ?_ _) | (refine bset ?_ (by first | omega | (simp; done) | (simp; omega)) _) | (refine bnext ?_ (by assumption))))
  have V0 : V.heap[bx]? = some (.cells #[.pointer (some ⟨pb, po, none⟩)] 177 (0, 0)) := by rw [← hV, ← hbx]; exact block_alloc (heap_alloc_new _ _) _
  have V1 : V.heap[bx + 1]? = some (.cells #[.string key, .bool false, .func (.func 183) #[] #[.pointer (some ⟨bx, 0, none⟩)], .func (.func 184) #[] #[], .func (.func 185) #[] #[.pointer (some ⟨bx, 0, none⟩)], .func (.func 186) #[] #[.pointer (some ⟨bx, 0, none⟩)]] 172 (0, 0)) := by rw [← hV, ← hbx]; exact alloc_new_at _ (by simp)
  have d : ∀ o, V.cell? ⟨bx + 1, o, none⟩ = _ := block_cell V1
  rw [hV]
  simp only [hbx]
  clear hV
  refine bodyPost_ret (v := .agg #[.string key, .bool false, .func (.func 183) #[] #[.pointer (some ⟨bx, 0, none⟩)], .func (.func 184) #[] #[], .func (.func 185) #[] #[.pointer (some ⟨bx, 0, none⟩)], .func (.func 186) #[] #[.pointer (some ⟨bx, 0, none⟩)]]) ?_ rfl ⟨⟨key, false, 183, #[.pointer (some ⟨bx, 0, none⟩)], 184, #[], 185, #[.pointer (some ⟨bx, 0, none⟩)], 186, #[.pointer (some ⟨bx, 0, none⟩)]⟩, rfl, ⟨bx, by omega, V0, rfl⟩, by rw [← hbx]; exact VB⟩
  simp [results, Tryz.results109, go_sem, d]
def FlagS (w : World) (lo : Nat) (key : ByteArray) (pb po : Nat) (v : FVal) : Prop := ∃ bx, lo ≤ bx ∧ w.heap[bx]? = some (.cells #[.pointer (some ⟨pb, po, none⟩)] 179 (0, 0)) ∧ v = ⟨key, false, 187, #[.pointer (some ⟨bx, 0, none⟩)], 184, #[], 188, #[], 189, #[.pointer (some ⟨bx, 0, none⟩)]⟩
set_option maxRecDepth 100000 in
theorem sflag_any (key : ByteArray) (pb po : Nat) (w : World) : Calls Tryz.prog 110 #[.string key, .pointer (some ⟨pb, po, none⟩)] w fun e w' => ∃ v : FVal, e = .returned v.val ∧ FlagS w' w.heap.size key pb po v ∧ Below w.heap.size w w' := by
  go_enter Tryz.func110, Tryz.ntmps110
  go_wp2
  obtain ⟨bx, hbx⟩ : ∃ bx, w.heap.size = bx := ⟨_, rfl⟩
  obtain ⟨V, hV⟩ : ∃ V, ((w.alloc (.cells #[.pointer (some ⟨pb, po, none⟩)] 179)).alloc (.cells #[.string key, .bool false, .func (.func 187) #[] #[.pointer (some ⟨w.heap.size, 0, none⟩)], .func (.func 184) #[] #[], .func (.func 188) #[] #[], .func (.func 189) #[] #[.pointer (some ⟨w.heap.size, 0, none⟩)]] 172)) = V := ⟨_, rfl⟩
  have VB : Below w.heap.size w V := by rw [← hV]; (repeat (first | exact Below.refl _ _ | assumption | (refine bdrew ?_) | (refine bdrewN ?_ _) | (refine balloc ?_ _) | (refine bset ?_ (by first | omega | (simp; done) | (simp; omega)) _) | (refine bnext ?_ (by assumption))))
  have V0 : V.heap[bx]? = some (.cells #[.pointer (some ⟨pb, po, none⟩)] 179 (0, 0)) := by rw [← hV, ← hbx]; exact block_alloc (heap_alloc_new _ _) _
  have V1 : V.heap[bx + 1]? = some (.cells #[.string key, .bool false, .func (.func 187) #[] #[.pointer (some ⟨bx, 0, none⟩)], .func (.func 184) #[] #[], .func (.func 188) #[] #[], .func (.func 189) #[] #[.pointer (some ⟨bx, 0, none⟩)]] 172 (0, 0)) := by rw [← hV, ← hbx]; exact alloc_new_at _ (by simp)
  have d : ∀ o, V.cell? ⟨bx + 1, o, none⟩ = _ := block_cell V1
  rw [hV]
  simp only [hbx]
  clear hV
  refine bodyPost_ret (v := .agg #[.string key, .bool false, .func (.func 187) #[] #[.pointer (some ⟨bx, 0, none⟩)], .func (.func 184) #[] #[], .func (.func 188) #[] #[], .func (.func 189) #[] #[.pointer (some ⟨bx, 0, none⟩)]]) ?_ rfl ⟨⟨key, false, 187, #[.pointer (some ⟨bx, 0, none⟩)], 184, #[], 188, #[], 189, #[.pointer (some ⟨bx, 0, none⟩)]⟩, rfl, ⟨bx, by omega, V0, rfl⟩, by rw [← hbx]; exact VB⟩
  simp [results, Tryz.results110, go_sem, d]
def DigS (w : World) (lo : Nat) (key : ByteArray) (pb po : Nat) (v : FVal) : Prop := ∃ bx, lo ≤ bx ∧ w.heap[bx]? = some (.cells #[.pointer (some ⟨pb, po, none⟩)] 181 (0, 0)) ∧ v = ⟨key, true, 190, #[], 191, #[.pointer (some ⟨bx, 0, none⟩)], 192, #[.pointer (some ⟨bx, 0, none⟩)], 194, #[.pointer (some ⟨bx, 0, none⟩)]⟩
set_option maxRecDepth 100000 in
theorem sdigest_any (key : ByteArray) (pb po : Nat) (w : World) : Calls Tryz.prog 111 #[.string key, .pointer (some ⟨pb, po, none⟩)] w fun e w' => ∃ v : FVal, e = .returned v.val ∧ DigS w' w.heap.size key pb po v ∧ Below w.heap.size w w' := by
  go_enter Tryz.func111, Tryz.ntmps111
  go_wp2
  obtain ⟨bx, hbx⟩ : ∃ bx, w.heap.size = bx := ⟨_, rfl⟩
  obtain ⟨V, hV⟩ : ∃ V, ((w.alloc (.cells #[.pointer (some ⟨pb, po, none⟩)] 181)).alloc (.cells #[.string key, .bool true, .func (.func 190) #[] #[], .func (.func 191) #[] #[.pointer (some ⟨w.heap.size, 0, none⟩)], .func (.func 192) #[] #[.pointer (some ⟨w.heap.size, 0, none⟩)], .func (.func 194) #[] #[.pointer (some ⟨w.heap.size, 0, none⟩)]] 172)) = V := ⟨_, rfl⟩
  have VB : Below w.heap.size w V := by rw [← hV]; (repeat (first | exact Below.refl _ _ | assumption | (refine bdrew ?_) | (refine bdrewN ?_ _) | (refine balloc ?_ _) | (refine bset ?_ (by first | omega | (simp; done) | (simp; omega)) _) | (refine bnext ?_ (by assumption))))
  have V0 : V.heap[bx]? = some (.cells #[.pointer (some ⟨pb, po, none⟩)] 181 (0, 0)) := by rw [← hV, ← hbx]; exact block_alloc (heap_alloc_new _ _) _
  have V1 : V.heap[bx + 1]? = some (.cells #[.string key, .bool true, .func (.func 190) #[] #[], .func (.func 191) #[] #[.pointer (some ⟨bx, 0, none⟩)], .func (.func 192) #[] #[.pointer (some ⟨bx, 0, none⟩)], .func (.func 194) #[] #[.pointer (some ⟨bx, 0, none⟩)]] 172 (0, 0)) := by rw [← hV, ← hbx]; exact alloc_new_at _ (by simp)
  have d : ∀ o, V.cell? ⟨bx + 1, o, none⟩ = _ := block_cell V1
  rw [hV]
  simp only [hbx]
  clear hV
  refine bodyPost_ret (v := .agg #[.string key, .bool true, .func (.func 190) #[] #[], .func (.func 191) #[] #[.pointer (some ⟨bx, 0, none⟩)], .func (.func 192) #[] #[.pointer (some ⟨bx, 0, none⟩)], .func (.func 194) #[] #[.pointer (some ⟨bx, 0, none⟩)]]) ?_ rfl ⟨⟨key, true, 190, #[], 191, #[.pointer (some ⟨bx, 0, none⟩)], 192, #[.pointer (some ⟨bx, 0, none⟩)], 194, #[.pointer (some ⟨bx, 0, none⟩)]⟩, rfl, ⟨bx, by omega, V0, rfl⟩, by rw [← hbx]; exact VB⟩
  simp [results, Tryz.results111, go_sem, d]
structure ManySSAt (w : World) (bx pb po most : Nat) : Prop where
  b0 : w.heap[bx]? = some (.cells #[.pointer (some ⟨pb, po, none⟩)] 230 (0, 0))
  b1 : w.heap[bx + 1]? = some (.cells #[.int .i64 most] 3 (0, 0))
  b2 : w.heap[bx + 1 + 1]? = some (.cells #[.func (.func 211) #[] #[]] 301 (0, 0))
  b3 : w.heap[bx + 1 + 1 + 1]? = some (.cells #[.func (.func 212) #[] #[]] 302 (0, 0))
  b4 : w.heap[bx + 1 + 1 + 1 + 1]? = some (.cells #[.func (.func 213) #[] #[]] 303 (0, 0))
theorem ManySSAt.but {w w' : World} {bx pb po most t : Nat} (h : ManySSAt w bx pb po most) (ht : t < bx) (hb : ∀ i, i ≠ t → w'.heap[i]? = w.heap[i]?) : ManySSAt w' bx pb po most :=
  ⟨(hb _ (by omega)).trans h.b0, (hb _ (by omega)).trans h.b1, (hb _ (by omega)).trans h.b2, (hb _ (by omega)).trans h.b3, (hb _ (by omega)).trans h.b4⟩
def ManySS (w : World) (lo : Nat) (key : ByteArray) (pb po most : Nat) (v : FVal) : Prop := ∃ bx, lo ≤ bx ∧ ManySSAt w bx pb po most ∧ v = ⟨key, false, 247, #[.pointer (some ⟨bx, 0, none⟩)], 248, #[.pointer (some ⟨bx, 0, none⟩), .pointer (some ⟨bx + 1, 0, none⟩), .pointer (some ⟨bx + 1 + 1, 0, none⟩)], 251, #[.pointer (some ⟨bx, 0, none⟩), .pointer (some ⟨bx + 1 + 1 + 1, 0, none⟩)], 252, #[.pointer (some ⟨bx + 1, 0, none⟩), .pointer (some ⟨bx + 1 + 1 + 1 + 1, 0, none⟩), .pointer (some ⟨bx, 0, none⟩)]⟩
set_option maxRecDepth 100000 in
set_option maxHeartbeats 2000000 in
theorem smanys_any (key : ByteArray) (pb po most : Nat) (w : World) : Calls Tryz.prog 210 #[.string key, .pointer (some ⟨pb, po, none⟩), .int .i64 most, .func (.func 211) #[] #[], .func (.func 212) #[] #[], .func (.func 213) #[] #[]] w fun e w' => ∃ v : FVal, e = .returned v.val ∧ ManySS w' w.heap.size key pb po most v ∧ Below w.heap.size w w' := by
  go_enter Tryz.func210, Tryz.ntmps210
  go_wp2
  obtain ⟨bx, hbx⟩ : ∃ bx, w.heap.size = bx := ⟨_, rfl⟩
  obtain ⟨V, hV⟩ : ∃ V, (((((((w.alloc (.cells #[.pointer (some ⟨pb, po, none⟩)] 230)).alloc (.cells #[.int .i64 most] 3)).alloc (.cells #[.func (.func 211) #[] #[]] 301)).alloc (.cells #[.func (.func 212) #[] #[]] 302)).alloc (.cells #[.func (.func 213) #[] #[]] 303)).alloc (.cells #[.string key, .bool false, .func (.func 247) #[] #[.pointer (some ⟨w.heap.size, 0, none⟩)], .func (.func 248) #[] #[.pointer (some ⟨w.heap.size, 0, none⟩), .pointer (some ⟨w.heap.size + 1, 0, none⟩), .pointer (some ⟨w.heap.size + 1 + 1, 0, none⟩)], .func (.func 251) #[] #[.pointer (some ⟨w.heap.size, 0, none⟩), .pointer (some ⟨w.heap.size + 1 + 1 + 1, 0, none⟩)], .func (.func 252) #[] #[.pointer (some ⟨w.heap.size + 1, 0, none⟩), .pointer (some ⟨w.heap.size + 1 + 1 + 1 + 1, 0, none⟩), .pointer (some ⟨w.heap.size, 0, none⟩)]] 172)).alloc (.cells #[.string key, .bool false, .func (.func 247) #[] #[.pointer (some ⟨w.heap.size, 0, none⟩)], .func (.func 248) #[] #[.pointer (some ⟨w.heap.size, 0, none⟩), .pointer (some ⟨w.heap.size + 1, 0, none⟩), .pointer (some ⟨w.heap.size + 1 + 1, 0, none⟩)], .func (.func 251) #[] #[.pointer (some ⟨w.heap.size, 0, none⟩), .pointer (some ⟨w.heap.size + 1 + 1 + 1, 0, none⟩)], .func (.func 252) #[] #[.pointer (some ⟨w.heap.size + 1, 0, none⟩), .pointer (some ⟨w.heap.size + 1 + 1 + 1 + 1, 0, none⟩), .pointer (some ⟨w.heap.size, 0, none⟩)]] 172)) = V := ⟨_, rfl⟩
  have VB : Below w.heap.size w V := by rw [← hV]; (repeat (first | exact Below.refl _ _ | assumption | (refine bdrew ?_) | (refine bdrewN ?_ _) | (refine balloc ?_ _) | (refine bset ?_ (by first | omega | (simp; done) | (simp; omega)) _) | (refine bnext ?_ (by assumption))))
  have V0 : V.heap[bx]? = some (.cells #[.pointer (some ⟨pb, po, none⟩)] 230 (0, 0)) := by rw [← hV, ← hbx]; exact (block_alloc (block_alloc (block_alloc (block_alloc (block_alloc (block_alloc (heap_alloc_new _ _) _) _) _) _) _) _)
  have V1 : V.heap[bx + 1]? = some (.cells #[.int .i64 most] 3 (0, 0)) := by rw [← hV, ← hbx]; exact (block_alloc (block_alloc (block_alloc (block_alloc (block_alloc (alloc_new_at _ (by simp)) _) _) _) _) _)
  have V2 : V.heap[bx + 1 + 1]? = some (.cells #[.func (.func 211) #[] #[]] 301 (0, 0)) := by rw [← hV, ← hbx]; exact (block_alloc (block_alloc (block_alloc (block_alloc (alloc_new_at _ (by simp)) _) _) _) _)
  have V3 : V.heap[bx + 1 + 1 + 1]? = some (.cells #[.func (.func 212) #[] #[]] 302 (0, 0)) := by rw [← hV, ← hbx]; exact (block_alloc (block_alloc (block_alloc (alloc_new_at _ (by simp)) _) _) _)
  have V4 : V.heap[bx + 1 + 1 + 1 + 1]? = some (.cells #[.func (.func 213) #[] #[]] 303 (0, 0)) := by rw [← hV, ← hbx]; exact (block_alloc (block_alloc (alloc_new_at _ (by simp)) _) _)
  have V5 : V.heap[bx + 1 + 1 + 1 + 1 + 1]? = some (.cells #[.string key, .bool false, .func (.func 247) #[] #[.pointer (some ⟨bx, 0, none⟩)], .func (.func 248) #[] #[.pointer (some ⟨bx, 0, none⟩), .pointer (some ⟨bx + 1, 0, none⟩), .pointer (some ⟨bx + 1 + 1, 0, none⟩)], .func (.func 251) #[] #[.pointer (some ⟨bx, 0, none⟩), .pointer (some ⟨bx + 1 + 1 + 1, 0, none⟩)], .func (.func 252) #[] #[.pointer (some ⟨bx + 1, 0, none⟩), .pointer (some ⟨bx + 1 + 1 + 1 + 1, 0, none⟩), .pointer (some ⟨bx, 0, none⟩)]] 172 (0, 0)) := by rw [← hV, ← hbx]; exact block_alloc (alloc_new_at _ (by simp)) _
  have d : ∀ o, V.cell? ⟨bx + 1 + 1 + 1 + 1 + 1, o, none⟩ = _ := block_cell V5
  rw [hV]
  simp only [hbx]
  clear hV
  refine bodyPost_ret (v := .agg #[.string key, .bool false, .func (.func 247) #[] #[.pointer (some ⟨bx, 0, none⟩)], .func (.func 248) #[] #[.pointer (some ⟨bx, 0, none⟩), .pointer (some ⟨bx + 1, 0, none⟩), .pointer (some ⟨bx + 1 + 1, 0, none⟩)], .func (.func 251) #[] #[.pointer (some ⟨bx, 0, none⟩), .pointer (some ⟨bx + 1 + 1 + 1, 0, none⟩)], .func (.func 252) #[] #[.pointer (some ⟨bx + 1, 0, none⟩), .pointer (some ⟨bx + 1 + 1 + 1 + 1, 0, none⟩), .pointer (some ⟨bx, 0, none⟩)]]) ?_ rfl ⟨⟨key, false, 247, #[.pointer (some ⟨bx, 0, none⟩)], 248, #[.pointer (some ⟨bx, 0, none⟩), .pointer (some ⟨bx + 1, 0, none⟩), .pointer (some ⟨bx + 1 + 1, 0, none⟩)], 251, #[.pointer (some ⟨bx, 0, none⟩), .pointer (some ⟨bx + 1 + 1 + 1, 0, none⟩)], 252, #[.pointer (some ⟨bx + 1, 0, none⟩), .pointer (some ⟨bx + 1 + 1 + 1 + 1, 0, none⟩), .pointer (some ⟨bx, 0, none⟩)]⟩, rfl, ⟨bx, by omega, ⟨V0, V1, V2, V3, V4⟩, rfl⟩, by rw [← hbx]; exact VB⟩
  simp [results, Tryz.results210, go_sem, d]
structure ManyUSAt (w : World) (bx pb po most : Nat) : Prop where
  b0 : w.heap[bx]? = some (.cells #[.pointer (some ⟨pb, po, none⟩)] 232 (0, 0))
  b1 : w.heap[bx + 1]? = some (.cells #[.int .i64 most] 3 (0, 0))
  b2 : w.heap[bx + 1 + 1]? = some (.cells #[.func (.func 147) #[] #[]] 233 (0, 0))
  b3 : w.heap[bx + 1 + 1 + 1]? = some (.cells #[.func (.func 148) #[] #[]] 235 (0, 0))
  b4 : w.heap[bx + 1 + 1 + 1 + 1]? = some (.cells #[.func (.func 150) #[] #[]] 239 (0, 0))
theorem ManyUSAt.but {w w' : World} {bx pb po most t : Nat} (h : ManyUSAt w bx pb po most) (ht : t < bx) (hb : ∀ i, i ≠ t → w'.heap[i]? = w.heap[i]?) : ManyUSAt w' bx pb po most :=
  ⟨(hb _ (by omega)).trans h.b0, (hb _ (by omega)).trans h.b1, (hb _ (by omega)).trans h.b2, (hb _ (by omega)).trans h.b3, (hb _ (by omega)).trans h.b4⟩
structure ManyRSAt (w : World) (bx pb po most : Nat) : Prop where
  b0 : w.heap[bx]? = some (.cells #[.pointer (some ⟨pb, po, none⟩)] 241 (0, 0))
  b1 : w.heap[bx + 1]? = some (.cells #[.int .i64 most] 3 (0, 0))
  b2 : w.heap[bx + 1 + 1]? = some (.cells #[.func (.func 154) #[] #[]] 244 (0, 0))
  b3 : w.heap[bx + 1 + 1 + 1]? = some (.cells #[.func (.func 156) #[] #[]] 245 (0, 0))
  b4 : w.heap[bx + 1 + 1 + 1 + 1]? = some (.cells #[.func (.func 157) #[] #[]] 246 (0, 0))
theorem ManyRSAt.but {w w' : World} {bx pb po most t : Nat} (h : ManyRSAt w bx pb po most) (ht : t < bx) (hb : ∀ i, i ≠ t → w'.heap[i]? = w.heap[i]?) : ManyRSAt w' bx pb po most :=
  ⟨(hb _ (by omega)).trans h.b0, (hb _ (by omega)).trans h.b1, (hb _ (by omega)).trans h.b2, (hb _ (by omega)).trans h.b3, (hb _ (by omega)).trans h.b4⟩
set_option maxRecDepth 100000 in
theorem sdigests_any (key : ByteArray) (pb po most : Nat) (w : World) : Calls Tryz.prog 145 #[.string key, .pointer (some ⟨pb, po, none⟩), .int .i64 most] w fun e w' => ∃ v : FVal, e = .returned v.val ∧ ManySS w' w.heap.size key pb po most v ∧ Below w.heap.size w w' := by
  go_enter Tryz.func145, Tryz.ntmps145
  go_wp2_with fail
  refine (smanys_any key pb po most _).mono ?_
  rintro e w1 ⟨v, rfl, ⟨bx, hbx, hat, hv⟩, hb⟩
  have HAT := Lib.hid hat
  have HBX : Hid (w.heap.size < bx) := Lib.hid (by simp at hbx; omega)
  have HVV := Lib.hid hv
  have HB : Hid (Below w.heap.size w w1) := Lib.hid (bnext (balloc (Below.refl _ _) _) hb)
  have hblk := (hb.block w.heap.size (by simp)).trans (heap_alloc_new w _)
  have hfr : ∀ o, w1.frozen? ⟨w.heap.size, o, none⟩ = false := block_free hblk
  have hcl : ∀ o, w1.cell? ⟨w.heap.size, o, none⟩ = _ := block_cell hblk
  have HBK := Lib.hid hblk
  clear hat hb hblk hbx hv
  unfold FVal.val
  go_wp2
  obtain ⟨V, hV⟩ : ∃ V, (((((w1.setCell ⟨w.heap.size, 0, none⟩ (.string v.key)).setCell ⟨w.heap.size, 1, none⟩ (.bool v.must)).setCell ⟨w.heap.size, 2, none⟩ (.func (.func v.ef) #[] v.ec)).setCell ⟨w.heap.size, 3, none⟩ (.func (.func v.mf) #[] v.mc)).setCell ⟨w.heap.size, 4, none⟩ (.func (.func v.pf) #[] v.pc)).setCell ⟨w.heap.size, 5, none⟩ (.func (.func v.gf) #[] v.gc) = V := ⟨_, rfl⟩
  have hV5 := block_setCell (block_setCell (block_setCell (block_setCell (block_setCell (block_setCell HBK.out (o := 0) (.string v.key)) (o := 1) (.bool v.must)) (o := 2) (.func (.func v.ef) #[] v.ec)) (o := 3) (.func (.func v.mf) #[] v.mc)) (o := 4) (.func (.func v.pf) #[] v.pc)) (o := 5) (.func (.func v.gf) #[] v.gc)
  rw [hV] at hV5
  have d : ∀ o, V.cell? ⟨w.heap.size, o, none⟩ = _ := block_cell hV5
  have hbut : ∀ k : Nat, k ≠ w.heap.size → V.heap[k]? = w1.heap[k]? := fun k hk => by
    rw [← hV, Below.heap_setCell _ _ _ _ hk, Below.heap_setCell _ _ _ _ hk, Below.heap_setCell _ _ _ _ hk, Below.heap_setCell _ _ _ _ hk, Below.heap_setCell _ _ _ _ hk, Below.heap_setCell _ _ _ _ hk]
  have hbel : Below w.heap.size w V := by
    rw [← hV]
    exact (((((HB.out.setCell (Nat.le_refl _) _).setCell (Nat.le_refl _) _).setCell (Nat.le_refl _) _).setCell (Nat.le_refl _) _).setCell (Nat.le_refl _) _).setCell (Nat.le_refl _) _
  rw [hV]
  refine bodyPost_ret (v := v.val) ?_ rfl ⟨v, rfl, ⟨bx, by have := HBX.out; omega, HAT.out.but HBX.out hbut, HVV.out⟩, hbel⟩
  simp [results, Tryz.results145, go_sem, d, FVal.val]
theorem says_mustV (w : World) (l : List FVal) : SaysF w l 177 #[] (fun i => (fth l i).must) := by
  refine ⟨enters_of Tryz.func177 (by kernel_rfl) rfl, fun i hi w' hb => ?_⟩
  show Calls Tryz.prog 177 (#[(fth l i).val] ++ #[]) w' (fun e w'' => e = .returned (.bool ((fth l i).must)) ∧ Below w'.heap.size w' w'')
  generalize fth l i = v
  show Calls Tryz.prog 177 #[v.val] w' _
  unfold FVal.val
  go_enter Tryz.func177, Tryz.ntmps177
  go_wp2
  go_ret
  exact ⟨rfl, by (repeat (first | exact Below.refl _ _ | assumption | (refine bdrew ?_) | (refine bdrewN ?_ _) | (refine balloc ?_ _) | (refine bset ?_ (by first | omega | (simp; done) | (simp; omega)) _) | (refine bnext ?_ (by assumption))))⟩
def ObjS (w : World) (lo : Nat) (key : ByteArray) (must : Bool) (g n c : Nat) (v : FVal) : Prop := ∃ bx, lo ≤ bx ∧ w.heap[bx]? = some (.cells #[.slice (some ⟨g, 0, none⟩) n c] 113 (0, 0)) ∧ v = ⟨key, must, 178, #[.pointer (some ⟨bx, 0, none⟩)], 180, #[.pointer (some ⟨bx, 0, none⟩)], 181, #[.pointer (some ⟨bx, 0, none⟩)], 182, #[.pointer (some ⟨bx, 0, none⟩)]⟩
set_option maxRecDepth 100000 in
set_option maxHeartbeats 2000000 in
theorem sobject_any (key : ByteArray) (g c : Nat) (l : List FVal) (w : World) (hF : FRow w g l) (hn : len l ≤ 1000) :
    Calls Tryz.prog 107 #[.string key, .slice (some ⟨g, 0, none⟩) (len l) c] w fun e w' => ∃ v : FVal, e = .returned v.val ∧ ObjS w' w.heap.size key (l.any fun v => v.must) g (len l) c v ∧ Below w.heap.size w w' := by
  have HF := Lib.hid hF
  have eg := (says_mustV w l).1
  clear hF
  go_enter Tryz.func107, Tryz.ntmps107
  go_wp2_with fail
  obtain ⟨bx, hbx⟩ : ∃ bx, w.heap.size = bx := ⟨_, rfl⟩
  obtain ⟨V1, hV1⟩ : ∃ V1, (w.alloc (.cells #[.slice (some ⟨g, 0, none⟩) (len l) c] 113)).alloc (.cells #[.string ⟨#[]⟩, .bool false, .nilFunc, .nilFunc, .nilFunc, .nilFunc] 172) = V1 := ⟨_, rfl⟩
  have HB1 : Hid (Below w.heap.size w V1) := Lib.hid (by rw [← hV1]; (repeat (first | exact Below.refl _ _ | assumption | (refine bdrew ?_) | (refine bdrewN ?_ _) | (refine balloc ?_ _) | (refine bset ?_ (by first | omega | (simp; done) | (simp; omega)) _) | (refine bnext ?_ (by assumption)))))
  have HX1 : Hid (V1.heap[bx]? = some (.cells #[.slice (some ⟨g, 0, none⟩) (len l) c] 113 (0, 0))) := Lib.hid (by rw [← hV1, ← hbx]; exact block_alloc (heap_alloc_new _ _) _)
  have HT1 : Hid (V1.heap[bx + 1]? = some (.cells #[.string ⟨#[]⟩, .bool false, .nilFunc, .nilFunc, .nilFunc, .nilFunc] 172 (0, 0))) := Lib.hid (by rw [← hV1, ← hbx]; exact alloc_new_at _ (by simp))
  rw [hbx]
  try rw [hV1]
  have HBX := Lib.hid hbx
  clear hV1 hbx
  refine (containsf_any (some ⟨g, 0, none⟩) c l 177 #[] _ V1 (HF.out.below HB1.out).flds hn (says_mustV _ l)).mono ?_
  rintro e w2 ⟨q, rfl, hq, hb2⟩
  have HQ : Hid (q = l.any fun v => v.must) := Lib.hid (by
    rw [Bool.eq_iff_iff, hq, List.any_eq_true]
    constructor
    · rintro ⟨i, hi, h⟩
      have hi' : i < l.length := hi
      exact ⟨l[i], List.getElem_mem _, by rw [← fth_eq l i hi']; exact h⟩
    · rintro ⟨x, hx, h⟩
      obtain ⟨i, hi, rfl⟩ := List.getElem_of_mem hx
      exact ⟨i, hi, by rw [fth_eq l i hi]; exact h⟩)
  have HB2 := Lib.hid hb2
  have HX2 : Hid (w2.heap[bx]? = some (.cells #[.slice (some ⟨g, 0, none⟩) (len l) c] 113 (0, 0))) := Lib.hid ((hb2.block _ (lt_of_block HX1.out)).trans HX1.out)
  have hT2 : w2.heap[bx + 1]? = some (.cells #[.string ⟨#[]⟩, .bool false, .nilFunc, .nilFunc, .nilFunc, .nilFunc] 172 (0, 0)) := (hb2.block _ (lt_of_block HT1.out)).trans HT1.out
  have HT2 := Lib.hid hT2
  have hfr : ∀ o, w2.frozen? ⟨bx + 1, o, none⟩ = false := block_free hT2
  have hcl : ∀ o, w2.cell? ⟨bx + 1, o, none⟩ = _ := block_cell hT2
  have lx : bx < w2.heap.size := lt_of_block HX2.out
  clear hb2 hq hT2
  go_wp2
  obtain ⟨V, hV⟩ : ∃ V, ((((((w2.setCell ⟨bx + 1, 0, none⟩ (.string key)).setCell ⟨bx + 1, 1, none⟩ (.bool q)).setCell ⟨bx + 1, 2, none⟩ (.func (.func 178) #[] #[.pointer (some ⟨bx, 0, none⟩)])).setCell ⟨bx + 1, 3, none⟩ (.func (.func 180) #[] #[.pointer (some ⟨bx, 0, none⟩)])).setCell ⟨bx + 1, 4, none⟩ (.func (.func 181) #[] #[.pointer (some ⟨bx, 0, none⟩)])).setCell ⟨bx + 1, 5, none⟩ (.func (.func 182) #[] #[.pointer (some ⟨bx, 0, none⟩)])) = V := ⟨_, rfl⟩
  have hV5 := (block_setCell (block_setCell (block_setCell (block_setCell (block_setCell (block_setCell HT2.out (o := 0) (.string key)) (o := 1) (.bool q)) (o := 2) (.func (.func 178) #[] #[.pointer (some ⟨bx, 0, none⟩)])) (o := 3) (.func (.func 180) #[] #[.pointer (some ⟨bx, 0, none⟩)])) (o := 4) (.func (.func 181) #[] #[.pointer (some ⟨bx, 0, none⟩)])) (o := 5) (.func (.func 182) #[] #[.pointer (some ⟨bx, 0, none⟩)]))
  rw [hV] at hV5
  have d : ∀ o, V.cell? ⟨bx + 1, o, none⟩ = _ := block_cell hV5
  have hne : bx ≠ bx + 1 := by omega
  have VX : V.heap[bx]? = some (.cells #[.slice (some ⟨g, 0, none⟩) (len l) c] 113 (0, 0)) := by
    rw [← hV, Below.heap_setCell _ _ _ _ hne, Below.heap_setCell _ _ _ _ hne, Below.heap_setCell _ _ _ _ hne, Below.heap_setCell _ _ _ _ hne, Below.heap_setCell _ _ _ _ hne, Below.heap_setCell _ _ _ _ hne]; exact HX2.out
  have hwx := HBX.out
  have HBW : Below bx w w2 := by rw [← hwx]; exact bnext HB1.out HB2.out
  have hbel : Below w.heap.size w V := by
    rw [← hV, hwx]
    exact ((((((HBW.setCell (Nat.le_succ_of_le (Nat.le_refl _)) _).setCell (Nat.le_succ_of_le (Nat.le_refl _)) _).setCell (Nat.le_succ_of_le (Nat.le_refl _)) _).setCell (Nat.le_succ_of_le (Nat.le_refl _)) _).setCell (Nat.le_succ_of_le (Nat.le_refl _)) _).setCell (Nat.le_succ_of_le (Nat.le_refl _)) _)
  rw [hV]
  refine bodyPost_ret (v := .agg #[.string key, .bool q, .func (.func 178) #[] #[.pointer (some ⟨bx, 0, none⟩)], .func (.func 180) #[] #[.pointer (some ⟨bx, 0, none⟩)], .func (.func 181) #[] #[.pointer (some ⟨bx, 0, none⟩)], .func (.func 182) #[] #[.pointer (some ⟨bx, 0, none⟩)]]) ?_ rfl ⟨⟨key, q, 178, #[.pointer (some ⟨bx, 0, none⟩)], 180, #[.pointer (some ⟨bx, 0, none⟩)], 181, #[.pointer (some ⟨bx, 0, none⟩)], 182, #[.pointer (some ⟨bx, 0, none⟩)]⟩, rfl, ⟨bx, by omega, VX, by rw [← HQ.out]⟩, hbel⟩
  simp [results, Tryz.results107, go_sem, d]
end Go.Proofs.YtihiaopilnjonaaGreatDoor
namespace Go.Proofs.YtihiaopilnjonaaGreatDoor
open Go.RowKit
set_option linter.unusedSimpArgs false
set_option linter.unusedVariables false
set_option maxRecDepth 100000 in
theorem fobject_any (B : Nat) (key : ByteArray) (g c : Nat) (W0 : World) (l : List FVal) (fs : List FSpec) (w : World) (hk : key.size < 65536) (hF : FRow w g l) (hn : len l ≤ 1000) (h0 : 0 < len l) (hS : FSems B W0 l fs) (hK : Keep8 B W0 w) :
    Calls Tryz.prog 107 #[.string key, .slice (some ⟨g, 0, none⟩) (len l) c] w fun e w' => ∃ v : FVal, e = .returned v.val ∧ FSem B w' v (objSpec key fs) ∧ Below w.heap.size w w' := by
  have HF := Lib.hid hF
  have HS := Lib.hid hS
  have HK := Lib.hid hK
  have eg := (says_must (w := w) hS).1
  have HA := Lib.hid (anyMust_iff fs (len l) hS.1)
  clear hF hS hK
  go_enter Tryz.func107, Tryz.ntmps107
  go_wp2_with fail
  obtain ⟨bx, hbx⟩ : ∃ bx, w.heap.size = bx := ⟨_, rfl⟩
  obtain ⟨V1, hV1⟩ : ∃ V1, (w.alloc (.cells #[.slice (some ⟨g, 0, none⟩) (len l) c] 113)).alloc (.cells #[.string ⟨#[]⟩, .bool false, .nilFunc, .nilFunc, .nilFunc, .nilFunc] 172) = V1 := ⟨_, rfl⟩
  have HB1 : Hid (Below w.heap.size w V1) := Lib.hid (by rw [← hV1]; (repeat (first | exact Below.refl _ _ | assumption | (refine bdrew ?_) | (refine bdrewN ?_ _) | (refine balloc ?_ _) | (refine bset ?_ (by first | omega | (simp; done) | (simp; omega)) _) | (refine bnext ?_ (by assumption)))))
  have HX1 : Hid (V1.heap[bx]? = some (.cells #[.slice (some ⟨g, 0, none⟩) (len l) c] 113 (0, 0))) := Lib.hid (by rw [← hV1, ← hbx]; exact block_alloc (heap_alloc_new _ _) _)
  have HT1 : Hid (V1.heap[bx + 1]? = some (.cells #[.string ⟨#[]⟩, .bool false, .nilFunc, .nilFunc, .nilFunc, .nilFunc] 172 (0, 0))) := Lib.hid (by rw [← hV1, ← hbx]; exact alloc_new_at _ (by simp))
  rw [hbx]
  try rw [hV1]
  have HBX := Lib.hid hbx
  clear hV1 hbx
  refine (containsf_any (some ⟨g, 0, none⟩) c l 177 #[] _ V1 (HF.out.below HB1.out).flds hn (says_must HS.out)).mono ?_
  rintro e w2 ⟨q, rfl, hq, hb2⟩
  have HQ : Hid (q = fs.any fun f => f.must) := Lib.hid (by
    rw [Bool.eq_iff_iff, hq]; exact HA.out.symm)
  have HB2 := Lib.hid hb2
  have HX2 : Hid (w2.heap[bx]? = some (.cells #[.slice (some ⟨g, 0, none⟩) (len l) c] 113 (0, 0))) := Lib.hid ((hb2.block _ (lt_of_block HX1.out)).trans HX1.out)
  have hT2 : w2.heap[bx + 1]? = some (.cells #[.string ⟨#[]⟩, .bool false, .nilFunc, .nilFunc, .nilFunc, .nilFunc] 172 (0, 0)) := (hb2.block _ (lt_of_block HT1.out)).trans HT1.out
  have HT2 := Lib.hid hT2
  have hfr : ∀ o, w2.frozen? ⟨bx + 1, o, none⟩ = false := block_free hT2
  have hcl : ∀ o, w2.cell? ⟨bx + 1, o, none⟩ = _ := block_cell hT2
  have lx : bx < w2.heap.size := lt_of_block HX2.out
  clear hb2 hq hT2
  go_wp2
  obtain ⟨V, hV⟩ : ∃ V, ((((((w2.setCell ⟨bx + 1, 0, none⟩ (.string key)).setCell ⟨bx + 1, 1, none⟩ (.bool q)).setCell ⟨bx + 1, 2, none⟩ (.func (.func 178) #[] #[.pointer (some ⟨bx, 0, none⟩)])).setCell ⟨bx + 1, 3, none⟩ (.func (.func 180) #[] #[.pointer (some ⟨bx, 0, none⟩)])).setCell ⟨bx + 1, 4, none⟩ (.func (.func 181) #[] #[.pointer (some ⟨bx, 0, none⟩)])).setCell ⟨bx + 1, 5, none⟩ (.func (.func 182) #[] #[.pointer (some ⟨bx, 0, none⟩)])) = V := ⟨_, rfl⟩
  have hV5 := (block_setCell (block_setCell (block_setCell (block_setCell (block_setCell (block_setCell HT2.out (o := 0) (.string key)) (o := 1) (.bool q)) (o := 2) (.func (.func 178) #[] #[.pointer (some ⟨bx, 0, none⟩)])) (o := 3) (.func (.func 180) #[] #[.pointer (some ⟨bx, 0, none⟩)])) (o := 4) (.func (.func 181) #[] #[.pointer (some ⟨bx, 0, none⟩)])) (o := 5) (.func (.func 182) #[] #[.pointer (some ⟨bx, 0, none⟩)]))
  rw [hV] at hV5
  have d : ∀ o, V.cell? ⟨bx + 1, o, none⟩ = _ := block_cell hV5
  have hne : bx ≠ bx + 1 := by omega
  have VX : V.heap[bx]? = some (.cells #[.slice (some ⟨g, 0, none⟩) (len l) c] 113 (0, 0)) := by
    rw [← hV, Below.heap_setCell _ _ _ _ hne, Below.heap_setCell _ _ _ _ hne, Below.heap_setCell _ _ _ _ hne, Below.heap_setCell _ _ _ _ hne, Below.heap_setCell _ _ _ _ hne, Below.heap_setCell _ _ _ _ hne]; exact HX2.out
  have hwx := HBX.out
  have HBW : Below bx w w2 := by rw [← hwx]; exact bnext HB1.out HB2.out
  have hbel : Below w.heap.size w V := by
    rw [← hV, hwx]
    exact ((((((HBW.setCell (Nat.le_succ_of_le (Nat.le_refl _)) _).setCell (Nat.le_succ_of_le (Nat.le_refl _)) _).setCell (Nat.le_succ_of_le (Nat.le_refl _)) _).setCell (Nat.le_succ_of_le (Nat.le_refl _)) _).setCell (Nat.le_succ_of_le (Nat.le_refl _)) _).setCell (Nat.le_succ_of_le (Nat.le_refl _)) _)
  rw [hV]
  have C0 : CellAt B V bx 0 (.slice (some ⟨g, 0, none⟩) (len l) c) := cellAt_new VX (by decide) rfl
  have HKV : Keep8 B W0 V := HK.out.next hbel
  have HFV : FRow V g l := HF.out.below hbel
  have HSV : FSems B V l fs := HS.out.later HKV
  refine bodyPost_ret (v := .agg #[.string key, .bool q, .func (.func 178) #[] #[.pointer (some ⟨bx, 0, none⟩)], .func (.func 180) #[] #[.pointer (some ⟨bx, 0, none⟩)], .func (.func 181) #[] #[.pointer (some ⟨bx, 0, none⟩)], .func (.func 182) #[] #[.pointer (some ⟨bx, 0, none⟩)]]) ?_ rfl ⟨⟨key, q, 178, #[.pointer (some ⟨bx, 0, none⟩)], 180, #[.pointer (some ⟨bx, 0, none⟩)], 181, #[.pointer (some ⟨bx, 0, none⟩)], 182, #[.pointer (some ⟨bx, 0, none⟩)]⟩, rfl, ?_, hbel⟩
  · simp [results, Tryz.results107, go_sem, d]
  · exact ⟨rfl, HQ.out, hk, enters_of Tryz.func178 (by kernel_rfl) rfl, enters_of Tryz.func180 (by kernel_rfl) rfl, enters_of Tryz.func181 (by kernel_rfl) rfl, fun w' hw => obj2_any B bx g c V l fs w' (C0.keep hw) (HFV.keep hw).flds hn HSV hw, fun w' hw => obj3_any B bx g c V l fs w' (C0.keep hw) (HFV.keep hw).flds hn HSV hw, fun hm1 he w' b base s hw hb ht hB hW hs => obj4_any B b base bx g c V l fs s w' (C0.keep hw) (HFV.keep hw).flds hn h0 HSV hm1 hw hb ht hB hW hs⟩
end Go.Proofs.YtihiaopilnjonaaGreatDoor
namespace Go.Proofs.YtihiaopilnjonaaGreatDoor
open Go.RowKit
set_option linter.unusedSimpArgs false
set_option linter.unusedVariables false
theorem wp_of_callP {P : Program} {o : Oper} {a : Act} {w : World} {f : FuncId} {args : Array Value} {R : Value → World → Prop} {K : Act → World → Prop} {Q : Exit → Act → World → Prop} (h : (execOp a.eval o).run P w = .ok (.enter f args) w)
    (hc : Calls P f args w (fun e w' => ∃ v, e = .returned v ∧ R v w')) (hK : ∀ v w', R v w' → K (a.put o.dst v) w') : o.wp P a w K Q := by
  unfold Oper.wp; rw [h]
  exact hc.mono fun e w' ⟨v, he, hR⟩ => by subst he; exact hK v w' hR
def FIn (B : Nat) (w : World) (v : FVal) (f : FSpec) : Prop := B ≤ w.heap.size ∧ FSem B w v f
theorem FIn.below {B : Nat} {w w' : World} {v : FVal} {f : FSpec} (h : FIn B w v f) (hb : Below w.heap.size w w') : FIn B w' v f := ⟨Nat.le_trans h.1 hb.size, h.2.later (Keep8.of_below hb h.1)⟩
def MadeF (B : Nat) (f : FSpec) (w : World) (e : Ending) (w' : World) : Prop := ∃ u, e = .returned u ∧ ∃ v : FVal, u = v.val ∧ FIn B w' v f ∧ Below w.heap.size w w'
theorem madeF {B : Nat} {f : FSpec} {w w' : World} {e : Ending} (hB : B ≤ w.heap.size) (h : ∃ v : FVal, e = .returned v.val ∧ FSem B w' v f ∧ Below w.heap.size w w') : MadeF B f w e w' := by
  obtain ⟨v, he, hs, hb⟩ := h
  exact ⟨v.val, he, v, rfl, ⟨Nat.le_trans hB hb.size, hs⟩, hb⟩
structure SigAt (B : Nat) (w : World) (b o : Nat) (idx : Int) (wots path : List ByteArray) : Prop where
  c0 : CellAt B w b o (.int .u64 idx)
  c1 : ∃ a c, CellAt B w b (o + 1) (.slice a (len wots) c) ∧ Strs B w a wots
  c2 : ∃ a c, CellAt B w b (o + 2) (.slice a (len path) c) ∧ Strs B w a path
theorem SigAt.below {B : Nat} {w w' : World} {b o : Nat} {idx : Int} {wots path : List ByteArray} (h : SigAt B w b o idx wots path) (hb : Below w.heap.size w w') : SigAt B w' b o idx wots path := by
  obtain ⟨h0, ⟨a1, k1, h1, s1⟩, ⟨a2, k2, h2, s2⟩⟩ := h
  exact ⟨h0.below hb, ⟨a1, k1, h1.below hb, s1.below hb⟩, ⟨a2, k2, h2.below hb, s2.below hb⟩⟩
def sigSpecs (idx : Int) (wots path : List ByteArray) : List FSpec :=
  [⟨⟨#[105]⟩, false, idx == 0, true, numP idx⟩, ⟨⟨#[112]⟩, false, decide (len path = 0), mayB path 16, dgsP path⟩, ⟨⟨#[118]⟩, false, decide (len wots = 0), mayB wots 67, dgsP wots⟩]
def RowOf (B : Nat) (specs : List FSpec) (w : World) (e : Ending) (w' : World) : Prop :=
  ∃ g c, ∃ l : List FVal, e = .returned (.slice (some ⟨g, 0, none⟩) (len l) c) ∧ FRow w' g l ∧ FSems B w' l specs ∧ Below w.heap.size w w'
set_option maxRecDepth 100000 in
set_option maxHeartbeats 4000000 in
theorem ofsig_any (B sb so : Nat) (idx : Int) (wots path : List ByteArray) (w : World) (hB : B ≤ w.heap.size) (h : SigAt B w sb so idx wots path) (h0 : 0 ≤ idx) (h1 : idx ≤ 18446744073709551615) (hw : len wots ≤ 100000) (hp : len path ≤ 100000) :
    Calls Tryz.prog 108 #[.pointer (some ⟨sb, so, none⟩)] w (RowOf B (sigSpecs idx wots path) w) := by
  obtain ⟨S0, hS0⟩ : ∃ S0 : FSpec, (⟨⟨#[105]⟩, false, idx == 0, true, numP idx⟩ : FSpec) = S0 := ⟨_, rfl⟩
  obtain ⟨S1, hS1⟩ : ∃ S1 : FSpec, (⟨⟨#[112]⟩, false, decide (len path = 0), mayB path 16, dgsP path⟩ : FSpec) = S1 := ⟨_, rfl⟩
  obtain ⟨S2, hS2⟩ : ∃ S2 : FSpec, (⟨⟨#[118]⟩, false, decide (len wots = 0), mayB wots 67, dgsP wots⟩ : FSpec) = S2 := ⟨_, rfl⟩
  have HSP : Hid (sigSpecs idx wots path = [S0, S1, S2]) := Lib.hid (by unfold sigSpecs; rw [hS0, hS1, hS2])
  obtain ⟨a1, k1, hc1, hs1⟩ := h.c1
  obtain ⟨a2, k2, hc2, hs2⟩ := h.c2
  have HS0 : Hid (∀ w', Below w.heap.size w w' → Calls Tryz.prog 109 #[.string ⟨#[105]⟩, .pointer (some ⟨sb, so, none⟩)] w' (MadeF B S0 w')) := Lib.hid (fun w' hb => by
    rw [← hS0]
    exact (fnum_any B ⟨#[105]⟩ sb so idx w' (by decide) (Nat.le_trans hB hb.size) (h.c0.below hb) h0 h1).mono (fun e w'' hh => madeF (Nat.le_trans hB hb.size) hh))
  have HS1 : Hid (∀ w', Below w.heap.size w w' → Calls Tryz.prog 145 #[.string ⟨#[112]⟩, .pointer (some ⟨sb, so + 2, none⟩), .int .i64 16] w' (MadeF B S1 w')) := Lib.hid (fun w' hb => by
    rw [← hS1]
    exact (fdigests_any B ⟨#[112]⟩ sb (so + 2) k2 16 a2 path w' (by decide) (Nat.le_trans hB hb.size) (hc2.below hb) (hs2.below hb) hp (by decide)).mono (fun e w'' hh => madeF (Nat.le_trans hB hb.size) hh))
  have HS2 : Hid (∀ w', Below w.heap.size w w' → Calls Tryz.prog 145 #[.string ⟨#[118]⟩, .pointer (some ⟨sb, so + 1, none⟩), .int .i64 67] w' (MadeF B S2 w')) := Lib.hid (fun w' hb => by
    rw [← hS2]
    exact (fdigests_any B ⟨#[118]⟩ sb (so + 1) k1 67 a1 wots w' (by decide) (Nat.le_trans hB hb.size) (hc1.below hb) (hs1.below hb) hw (by decide)).mono (fun e w'' hh => madeF (Nat.le_trans hB hb.size) hh))
  clear h hc1 hs1 hc2 hs2 hS0 hS1 hS2
  go_enter Tryz.func108, Tryz.ntmps108
  go_upto_region 1 with fail
  refine wp_region_tail 12 1000 (none) (phis [fun u _ => u = (.pointer (some ⟨sb, so, none⟩)), fun u _ => u = (.pointer (some ⟨sb, so, none⟩)), fun u _ => u = (.pointer (some ⟨sb, so, none⟩)), fun u w' => ∃ v : FVal, u = v.val ∧ FIn B w' v S0, fun u _ => u = (.pointer (some ⟨sb, so, none⟩)), fun u _ => u = (.pointer (some ⟨sb, so, none⟩)), fun u _ => u = (.pointer (some ⟨sb, so + 2, none⟩)), fun u w' => ∃ v : FVal, u = v.val ∧ FIn B w' v S1, fun u _ => u = (.pointer (some ⟨sb, so, none⟩)), fun u _ => u = (.pointer (some ⟨sb, so, none⟩)), fun u _ => u = (.pointer (some ⟨sb, so + 1, none⟩)), fun u w' => ∃ v : FVal, u = v.val ∧ FIn B w' v S2]) rfl (by kernel_rfl) (by kernel_rfl) (mono_of ⟨mono_eq, mono_eq, mono_eq, ?m3, mono_eq, mono_eq, mono_eq, ?m7, mono_eq, mono_eq, mono_eq, ?m11, trivial⟩) (steps_of 12 ⟨?s0, ?s1, ?s2, ?s3, ?s4, ?s5, ?s6, ?s7, ?s8, ?s9, ?s10, ?s11, trivial⟩) ?_
  case m3 =>
    exact ⟨fun u w1 w2 h ⟨v, h1, h2⟩ => ⟨v, h1, h2.below h⟩, fun _ u w1 w2 h ⟨v, h1, h2⟩ => ⟨v, h1, h2.below (extB_none h)⟩⟩
  case m7 =>
    exact ⟨fun u w1 w2 h ⟨v, h1, h2⟩ => ⟨v, h1, h2.below h⟩, fun _ u w1 w2 h ⟨v, h1, h2⟩ => ⟨v, h1, h2.below (extB_none h)⟩⟩
  case m11 =>
    exact ⟨fun u w1 w2 h ⟨v, h1, h2⟩ => ⟨v, h1, h2.below h⟩, fun _ u w1 w2 h ⟨v, h1, h2⟩ => ⟨v, h1, h2.below (extB_none h)⟩⟩
  case s0 =>
    refine step_val (v := (.pointer (some ⟨sb, so, none⟩))) (fun av wv hE hS hO hD => ?_) (fun _ => rfl)
    have h0 : av.eval (.tmp 0) = (.pointer (some ⟨sb, so, none⟩)) := hO.2.2 0 rfl
    have f0 := (ev_form av 0).symm.trans h0
    refine ⟨rfl, ?_⟩
    simp [go_sem, f0]
  case s1 =>
    refine step_val (v := (.pointer (some ⟨sb, so, none⟩))) (fun av wv hE hS hO hD => ?_) (fun _ => rfl)
    have d3 : av.eval (.tmp 3) = (.pointer (some ⟨sb, so, none⟩)) := hD.1 rfl _ rfl
    have f3 := (ev_form av 3).symm.trans d3
    refine ⟨rfl, ?_⟩
    simp [go_sem, f3]
  case s2 =>
    refine step_val (v := (.pointer (some ⟨sb, so, none⟩))) (fun av wv hE hS hO hD => ?_) (fun _ => rfl)
    have d4 : av.eval (.tmp 4) = (.pointer (some ⟨sb, so, none⟩)) := hD.1 rfl _ rfl
    have f4 := (ev_form av 4).symm.trans d4
    refine ⟨rfl, ?_⟩
    simp [go_sem, f4]
  case s3 =>
    refine step_wp (fun av wv hE hS hO hD => ?_)
    have d5 : av.eval (.tmp 5) = (.pointer (some ⟨sb, so, none⟩)) := hD.1 rfl _ rfl
    have f5 := (ev_form av 5).symm.trans d5
    refine ⟨rfl, ?_⟩
    refine wp_of_callP (f := 109) (args := #[.string ⟨#[105]⟩, .pointer (some ⟨sb, so, none⟩)]) (by simp [go_sem, f5]) (HS0.out wv (of_drew hE)) (fun u w2 ⟨v, hu, hs, hb⟩ => ⟨u, rfl, es_of_ext hb, v, hu, hs⟩)
  case s4 =>
    refine step_val (v := (.pointer (some ⟨sb, so, none⟩))) (fun av wv hE hS hO hD => ?_) (fun _ => rfl)
    have h0 : av.eval (.tmp 0) = (.pointer (some ⟨sb, so, none⟩)) := hO.2.2 0 rfl
    have f0 := (ev_form av 0).symm.trans h0
    refine ⟨rfl, ?_⟩
    simp [go_sem, f0]
  case s5 =>
    refine step_val (v := (.pointer (some ⟨sb, so, none⟩))) (fun av wv hE hS hO hD => ?_) (fun _ => rfl)
    have d7 : av.eval (.tmp 7) = (.pointer (some ⟨sb, so, none⟩)) := hD.1 rfl _ rfl
    have f7 := (ev_form av 7).symm.trans d7
    refine ⟨rfl, ?_⟩
    simp [go_sem, f7]
  case s6 =>
    refine step_val (v := (.pointer (some ⟨sb, so + 2, none⟩))) (fun av wv hE hS hO hD => ?_) (fun _ => rfl)
    have d8 : av.eval (.tmp 8) = (.pointer (some ⟨sb, so, none⟩)) := hD.1 rfl _ rfl
    have f8 := (ev_form av 8).symm.trans d8
    refine ⟨rfl, ?_⟩
    simp [go_sem, f8]
  case s7 =>
    refine step_wp (fun av wv hE hS hO hD => ?_)
    have d9 : av.eval (.tmp 9) = (.pointer (some ⟨sb, so + 2, none⟩)) := hD.1 rfl _ rfl
    have f9 := (ev_form av 9).symm.trans d9
    refine ⟨rfl, ?_⟩
    refine wp_of_callP (f := 145) (args := #[.string ⟨#[112]⟩, .pointer (some ⟨sb, so + 2, none⟩), .int .i64 16]) (by simp [go_sem, f9]) (HS1.out wv (of_drew hE)) (fun u w2 ⟨v, hu, hs, hb⟩ => ⟨u, rfl, es_of_ext hb, v, hu, hs⟩)
  case s8 =>
    refine step_val (v := (.pointer (some ⟨sb, so, none⟩))) (fun av wv hE hS hO hD => ?_) (fun _ => rfl)
    have h0 : av.eval (.tmp 0) = (.pointer (some ⟨sb, so, none⟩)) := hO.2.2 0 rfl
    have f0 := (ev_form av 0).symm.trans h0
    refine ⟨rfl, ?_⟩
    simp [go_sem, f0]
  case s9 =>
    refine step_val (v := (.pointer (some ⟨sb, so, none⟩))) (fun av wv hE hS hO hD => ?_) (fun _ => rfl)
    have d11 : av.eval (.tmp 11) = (.pointer (some ⟨sb, so, none⟩)) := hD.1 rfl _ rfl
    have f11 := (ev_form av 11).symm.trans d11
    refine ⟨rfl, ?_⟩
    simp [go_sem, f11]
  case s10 =>
    refine step_val (v := (.pointer (some ⟨sb, so + 1, none⟩))) (fun av wv hE hS hO hD => ?_) (fun _ => rfl)
    have d12 : av.eval (.tmp 12) = (.pointer (some ⟨sb, so, none⟩)) := hD.1 rfl _ rfl
    have f12 := (ev_form av 12).symm.trans d12
    refine ⟨rfl, ?_⟩
    simp [go_sem, f12]
  case s11 =>
    refine step_wp (fun av wv hE hS hO hD => ?_)
    have d13 : av.eval (.tmp 13) = (.pointer (some ⟨sb, so + 1, none⟩)) := hD.1 rfl _ rfl
    have f13 := (ev_form av 13).symm.trans d13
    refine ⟨rfl, ?_⟩
    refine wp_of_callP (f := 145) (args := #[.string ⟨#[118]⟩, .pointer (some ⟨sb, so + 1, none⟩), .int .i64 67]) (by simp [go_sem, f13]) (HS2.out wv (of_drew hE)) (fun u w2 ⟨v, hu, hs, hb⟩ => ⟨u, rfl, es_of_ext hb, v, hu, hs⟩)
  intro a' w' hE hO hall
  have hA := act_of_outer (ds := [3, 4, 5, 6, 7, 8, 9, 10, 11, 12, 13, 14]) rfl hO (by kernel_rfl)
  have e3 : (fun u _ => u = (.pointer (some ⟨sb, so, none⟩))) (a'.eval (.tmp 3)) w' := hall.1 _ rfl
  have e4 : (fun u _ => u = (.pointer (some ⟨sb, so, none⟩))) (a'.eval (.tmp 4)) w' := hall.2.1 _ rfl
  have e5 : (fun u _ => u = (.pointer (some ⟨sb, so, none⟩))) (a'.eval (.tmp 5)) w' := hall.2.2.1 _ rfl
  have e6 : (fun u w' => ∃ v : FVal, u = v.val ∧ FIn B w' v S0) (a'.eval (.tmp 6)) w' := hall.2.2.2.1 _ rfl
  have e7 : (fun u _ => u = (.pointer (some ⟨sb, so, none⟩))) (a'.eval (.tmp 7)) w' := hall.2.2.2.2.1 _ rfl
  have e8 : (fun u _ => u = (.pointer (some ⟨sb, so, none⟩))) (a'.eval (.tmp 8)) w' := hall.2.2.2.2.2.1 _ rfl
  have e9 : (fun u _ => u = (.pointer (some ⟨sb, so + 2, none⟩))) (a'.eval (.tmp 9)) w' := hall.2.2.2.2.2.2.1 _ rfl
  have e10 : (fun u w' => ∃ v : FVal, u = v.val ∧ FIn B w' v S1) (a'.eval (.tmp 10)) w' := hall.2.2.2.2.2.2.2.1 _ rfl
  have e11 : (fun u _ => u = (.pointer (some ⟨sb, so, none⟩))) (a'.eval (.tmp 11)) w' := hall.2.2.2.2.2.2.2.2.1 _ rfl
  have e12 : (fun u _ => u = (.pointer (some ⟨sb, so, none⟩))) (a'.eval (.tmp 12)) w' := hall.2.2.2.2.2.2.2.2.2.1 _ rfl
  have e13 : (fun u _ => u = (.pointer (some ⟨sb, so + 1, none⟩))) (a'.eval (.tmp 13)) w' := hall.2.2.2.2.2.2.2.2.2.2.1 _ rfl
  have e14 : (fun u w' => ∃ v : FVal, u = v.val ∧ FIn B w' v S2) (a'.eval (.tmp 14)) w' := hall.2.2.2.2.2.2.2.2.2.2.2.1 _ rfl
  obtain ⟨v6, hv6⟩ : ∃ v, a'.eval (.tmp 6) = v := ⟨_, rfl⟩
  rw [hv6] at e6
  obtain ⟨v10, hv10⟩ : ∃ v, a'.eval (.tmp 10) = v := ⟨_, rfl⟩
  rw [hv10] at e10
  obtain ⟨v14, hv14⟩ : ∃ v, a'.eval (.tmp 14) = v := ⟨_, rfl⟩
  rw [hv14] at e14
  simp only [List.foldl_cons, List.foldl_nil, Act.put, List.setIfInBounds_toArray, List.set_cons_succ, List.set_cons_zero, e3, e4, e5, hv6, e7, e8, e9, hv10, e11, e12, e13, hv14] at hA
  clear hO hall e3 e4 e5 hv6 e7 e8 e9 hv10 e11 e12 e13 hv14
  subst hA
  obtain ⟨x0, rfl, s0⟩ := e6
  obtain ⟨x1, rfl, s1⟩ := e10
  obtain ⟨x2, rfl, s2⟩ := e14
  have HSS : Hid (FSems B w' [x0, x1, x2] [S0, S1, S2]) := Lib.hid ⟨rfl, fun i hi => by
    have : i = 0 ∨ i = 1 ∨ i = 2 := by simp [len] at hi; omega
    rcases this with rfl | rfl | rfl
    · exact s0.2
    · exact s1.2
    · exact s2.2⟩
  have HBW : Hid (Below w.heap.size w w' ∧ B ≤ w'.heap.size) := Lib.hid ⟨of_drew hE, s0.1⟩
  clear s0 s1 s2 hE
  unfold FVal.val
  go_wp2
  go_ret
  refine ⟨w'.heap.size, 3, [x0, x1, x2], rfl, ⟨Flds.block (l := [x0, x1, x2]) (heap_alloc_new w' _), _, heap_alloc_new w' _⟩, ?_, bnext HBW.out.1 (balloc (Below.refl _ _) _)⟩
  rw [HSP.out]
  exact HSS.out.later (Keep8.of_below (balloc (Below.refl _ _) _) HBW.out.2)
end Go.Proofs.YtihiaopilnjonaaGreatDoor
namespace Go.Proofs.YtihiaopilnjonaaGreatDoor
open Go.RowKit
set_option linter.unusedSimpArgs false
set_option linter.unusedVariables false
def MadeG (P : World → FVal → Prop) (w : World) (e : Ending) (w' : World) : Prop := ∃ u, e = .returned u ∧ ∃ v : FVal, u = v.val ∧ P w' v ∧ Below w.heap.size w w'
def Lasts (P : World → FVal → Prop) : Prop := ∀ w w' v, Below w.heap.size w w' → P w v → P w' v
def LastsR (P : World → List FVal → Prop) : Prop := ∀ w w' l, Below w.heap.size w w' → P w l → P w' l
def RowG (P : World → List FVal → Prop) (u : Value) (w : World) : Prop := ∃ g c, ∃ l : List FVal, u = .slice (some ⟨g, 0, none⟩) (len l) c ∧ len l ≤ c ∧ FRow w g l ∧ P w l
theorem RowG.below {P : World → List FVal → Prop} (hP : LastsR P) {u : Value} {w w' : World} (h : RowG P u w) (hb : Below w.heap.size w w') : RowG P u w' := by
  obtain ⟨g, c, l, hu, hc, hF, hp⟩ := h
  exact ⟨g, c, l, hu, hc, hF.below hb, hP _ _ _ hb hp⟩
def RowIs (P : World → List FVal → Prop) (w : World) (e : Ending) (w' : World) : Prop := ∃ u, e = .returned u ∧ RowG P u w' ∧ Below w.heap.size w w'
def RowPart (P0 P1 P2 P3 P4 : World → FVal → Prop) : World → List FVal → Prop := fun w l => ∃ x0 x1 x2 x3 x4, l = [x0, x1, x2, x3, x4] ∧ P0 w x0 ∧ P1 w x1 ∧ P2 w x2 ∧ P3 w x3 ∧ P4 w x4
set_option maxRecDepth 100000 in
set_option maxHeartbeats 8000000 in
theorem gofPart_any (sb so : Nat) (w : World) (P0 P1 P2 P3 P4 : World → FVal → Prop)
    (hp0 : ∀ w', Below w.heap.size w w' → Calls Tryz.prog 109 #[.string ⟨#[102]⟩, .pointer (some ⟨sb, so + 2, none⟩)] w' (MadeG P0 w'))
    (hP0 : Lasts P0)
    (hp1 : ∀ w', Below w.heap.size w w' → Calls Tryz.prog 109 #[.string ⟨#[107]⟩, .pointer (some ⟨sb, so + 4, none⟩)] w' (MadeG P1 w'))
    (hP1 : Lasts P1)
    (hp2 : ∀ w', Below w.heap.size w w' → Calls Tryz.prog 109 #[.string ⟨#[108]⟩, .pointer (some ⟨sb, so + 3, none⟩)] w' (MadeG P2 w'))
    (hP2 : Lasts P2)
    (hp3 : ∀ w', Below w.heap.size w w' → Calls Tryz.prog 111 #[.string ⟨#[114]⟩, .pointer (some ⟨sb, so, none⟩)] w' (MadeG P3 w'))
    (hP3 : Lasts P3)
    (hp4 : ∀ w', Below w.heap.size w w' → Calls Tryz.prog 109 #[.string ⟨#[119]⟩, .pointer (some ⟨sb, so + 1, none⟩)] w' (MadeG P4 w'))
    (hP4 : Lasts P4) :
    Calls Tryz.prog 62 #[.pointer (some ⟨sb, so, none⟩)] w (RowIs (RowPart P0 P1 P2 P3 P4) w) := by
  have HP0 := Lib.hid hp0
  have HP1 := Lib.hid hp1
  have HP2 := Lib.hid hp2
  have HP3 := Lib.hid hp3
  have HP4 := Lib.hid hp4
  clear hp0 hp1 hp2 hp3 hp4
  go_enter Tryz.func62, Tryz.ntmps62
  go_upto_region 1 with fail
  refine wp_region_tail 20 1000 (none) (phis [fun u _ => u = (.pointer (some ⟨sb, so, none⟩)), fun u _ => u = (.pointer (some ⟨sb, so, none⟩)), fun u _ => u = (.pointer (some ⟨sb, so + 2, none⟩)), fun u w' => ∃ v : FVal, u = v.val ∧ P0 w' v, fun u _ => u = (.pointer (some ⟨sb, so, none⟩)), fun u _ => u = (.pointer (some ⟨sb, so, none⟩)), fun u _ => u = (.pointer (some ⟨sb, so + 4, none⟩)), fun u w' => ∃ v : FVal, u = v.val ∧ P1 w' v, fun u _ => u = (.pointer (some ⟨sb, so, none⟩)), fun u _ => u = (.pointer (some ⟨sb, so, none⟩)), fun u _ => u = (.pointer (some ⟨sb, so + 3, none⟩)), fun u w' => ∃ v : FVal, u = v.val ∧ P2 w' v, fun u _ => u = (.pointer (some ⟨sb, so, none⟩)), fun u _ => u = (.pointer (some ⟨sb, so, none⟩)), fun u _ => u = (.pointer (some ⟨sb, so, none⟩)), fun u w' => ∃ v : FVal, u = v.val ∧ P3 w' v, fun u _ => u = (.pointer (some ⟨sb, so, none⟩)), fun u _ => u = (.pointer (some ⟨sb, so, none⟩)), fun u _ => u = (.pointer (some ⟨sb, so + 1, none⟩)), fun u w' => ∃ v : FVal, u = v.val ∧ P4 w' v]) rfl (by kernel_rfl) (by kernel_rfl) (mono_of ⟨mono_eq, mono_eq, mono_eq, ?m3, mono_eq, mono_eq, mono_eq, ?m7, mono_eq, mono_eq, mono_eq, ?m11, mono_eq, mono_eq, mono_eq, ?m15, mono_eq, mono_eq, mono_eq, ?m19, trivial⟩) (steps_of 20 ⟨?s0, ?s1, ?s2, ?s3, ?s4, ?s5, ?s6, ?s7, ?s8, ?s9, ?s10, ?s11, ?s12, ?s13, ?s14, ?s15, ?s16, ?s17, ?s18, ?s19, trivial⟩) ?_
  case m3 =>
    exact ⟨fun u w1 w2 h ⟨v, h1, h2⟩ => ⟨v, h1, hP0 _ _ _ h h2⟩, fun _ u w1 w2 h ⟨v, h1, h2⟩ => ⟨v, h1, hP0 _ _ _ (extB_none h) h2⟩⟩
  case m7 =>
    exact ⟨fun u w1 w2 h ⟨v, h1, h2⟩ => ⟨v, h1, hP1 _ _ _ h h2⟩, fun _ u w1 w2 h ⟨v, h1, h2⟩ => ⟨v, h1, hP1 _ _ _ (extB_none h) h2⟩⟩
  case m11 =>
    exact ⟨fun u w1 w2 h ⟨v, h1, h2⟩ => ⟨v, h1, hP2 _ _ _ h h2⟩, fun _ u w1 w2 h ⟨v, h1, h2⟩ => ⟨v, h1, hP2 _ _ _ (extB_none h) h2⟩⟩
  case m15 =>
    exact ⟨fun u w1 w2 h ⟨v, h1, h2⟩ => ⟨v, h1, hP3 _ _ _ h h2⟩, fun _ u w1 w2 h ⟨v, h1, h2⟩ => ⟨v, h1, hP3 _ _ _ (extB_none h) h2⟩⟩
  case m19 =>
    exact ⟨fun u w1 w2 h ⟨v, h1, h2⟩ => ⟨v, h1, hP4 _ _ _ h h2⟩, fun _ u w1 w2 h ⟨v, h1, h2⟩ => ⟨v, h1, hP4 _ _ _ (extB_none h) h2⟩⟩
  case s0 =>
    refine step_val (v := (.pointer (some ⟨sb, so, none⟩))) (fun av wv hE hS hO hD => ?_) (fun _ => rfl)
    have h0 : av.eval (.tmp 0) = (.pointer (some ⟨sb, so, none⟩)) := hO.2.2 0 rfl
    have f0 := (ev_form av 0).symm.trans h0
    refine ⟨rfl, ?_⟩
    simp [go_sem, f0]
  case s1 =>
    refine step_val (v := (.pointer (some ⟨sb, so, none⟩))) (fun av wv hE hS hO hD => ?_) (fun _ => rfl)
    have d3 : av.eval (.tmp 3) = (.pointer (some ⟨sb, so, none⟩)) := hD.1 rfl _ rfl
    have f3 := (ev_form av 3).symm.trans d3
    refine ⟨rfl, ?_⟩
    simp [go_sem, f3]
  case s2 =>
    refine step_val (v := (.pointer (some ⟨sb, so + 2, none⟩))) (fun av wv hE hS hO hD => ?_) (fun _ => rfl)
    have d4 : av.eval (.tmp 4) = (.pointer (some ⟨sb, so, none⟩)) := hD.1 rfl _ rfl
    have f4 := (ev_form av 4).symm.trans d4
    refine ⟨rfl, ?_⟩
    simp [go_sem, f4]
  case s3 =>
    refine step_wp (fun av wv hE hS hO hD => ?_)
    have d5 : av.eval (.tmp 5) = (.pointer (some ⟨sb, so + 2, none⟩)) := hD.1 rfl _ rfl
    have f5 := (ev_form av 5).symm.trans d5
    refine ⟨rfl, ?_⟩
    refine wp_of_callP (f := 109) (args := #[.string ⟨#[102]⟩, .pointer (some ⟨sb, so + 2, none⟩)]) (by simp [go_sem, f5]) (HP0.out wv (of_drew hE)) (fun u w2 ⟨v, hu, hs, hb⟩ => ⟨u, rfl, es_of_ext hb, v, hu, hs⟩)
  case s4 =>
    refine step_val (v := (.pointer (some ⟨sb, so, none⟩))) (fun av wv hE hS hO hD => ?_) (fun _ => rfl)
    have h0 : av.eval (.tmp 0) = (.pointer (some ⟨sb, so, none⟩)) := hO.2.2 0 rfl
    have f0 := (ev_form av 0).symm.trans h0
    refine ⟨rfl, ?_⟩
    simp [go_sem, f0]
  case s5 =>
    refine step_val (v := (.pointer (some ⟨sb, so, none⟩))) (fun av wv hE hS hO hD => ?_) (fun _ => rfl)
    have d7 : av.eval (.tmp 7) = (.pointer (some ⟨sb, so, none⟩)) := hD.1 rfl _ rfl
    have f7 := (ev_form av 7).symm.trans d7
    refine ⟨rfl, ?_⟩
    simp [go_sem, f7]
  case s6 =>
    refine step_val (v := (.pointer (some ⟨sb, so + 4, none⟩))) (fun av wv hE hS hO hD => ?_) (fun _ => rfl)
    have d8 : av.eval (.tmp 8) = (.pointer (some ⟨sb, so, none⟩)) := hD.1 rfl _ rfl
    have f8 := (ev_form av 8).symm.trans d8
    refine ⟨rfl, ?_⟩
    simp [go_sem, f8]
  case s7 =>
    refine step_wp (fun av wv hE hS hO hD => ?_)
    have d9 : av.eval (.tmp 9) = (.pointer (some ⟨sb, so + 4, none⟩)) := hD.1 rfl _ rfl
    have f9 := (ev_form av 9).symm.trans d9
    refine ⟨rfl, ?_⟩
    refine wp_of_callP (f := 109) (args := #[.string ⟨#[107]⟩, .pointer (some ⟨sb, so + 4, none⟩)]) (by simp [go_sem, f9]) (HP1.out wv (of_drew hE)) (fun u w2 ⟨v, hu, hs, hb⟩ => ⟨u, rfl, es_of_ext hb, v, hu, hs⟩)
  case s8 =>
    refine step_val (v := (.pointer (some ⟨sb, so, none⟩))) (fun av wv hE hS hO hD => ?_) (fun _ => rfl)
    have h0 : av.eval (.tmp 0) = (.pointer (some ⟨sb, so, none⟩)) := hO.2.2 0 rfl
    have f0 := (ev_form av 0).symm.trans h0
    refine ⟨rfl, ?_⟩
    simp [go_sem, f0]
  case s9 =>
    refine step_val (v := (.pointer (some ⟨sb, so, none⟩))) (fun av wv hE hS hO hD => ?_) (fun _ => rfl)
    have d11 : av.eval (.tmp 11) = (.pointer (some ⟨sb, so, none⟩)) := hD.1 rfl _ rfl
    have f11 := (ev_form av 11).symm.trans d11
    refine ⟨rfl, ?_⟩
    simp [go_sem, f11]
  case s10 =>
    refine step_val (v := (.pointer (some ⟨sb, so + 3, none⟩))) (fun av wv hE hS hO hD => ?_) (fun _ => rfl)
    have d12 : av.eval (.tmp 12) = (.pointer (some ⟨sb, so, none⟩)) := hD.1 rfl _ rfl
    have f12 := (ev_form av 12).symm.trans d12
    refine ⟨rfl, ?_⟩
    simp [go_sem, f12]
  case s11 =>
    refine step_wp (fun av wv hE hS hO hD => ?_)
    have d13 : av.eval (.tmp 13) = (.pointer (some ⟨sb, so + 3, none⟩)) := hD.1 rfl _ rfl
    have f13 := (ev_form av 13).symm.trans d13
    refine ⟨rfl, ?_⟩
    refine wp_of_callP (f := 109) (args := #[.string ⟨#[108]⟩, .pointer (some ⟨sb, so + 3, none⟩)]) (by simp [go_sem, f13]) (HP2.out wv (of_drew hE)) (fun u w2 ⟨v, hu, hs, hb⟩ => ⟨u, rfl, es_of_ext hb, v, hu, hs⟩)
  case s12 =>
    refine step_val (v := (.pointer (some ⟨sb, so, none⟩))) (fun av wv hE hS hO hD => ?_) (fun _ => rfl)
    have h0 : av.eval (.tmp 0) = (.pointer (some ⟨sb, so, none⟩)) := hO.2.2 0 rfl
    have f0 := (ev_form av 0).symm.trans h0
    refine ⟨rfl, ?_⟩
    simp [go_sem, f0]
  case s13 =>
    refine step_val (v := (.pointer (some ⟨sb, so, none⟩))) (fun av wv hE hS hO hD => ?_) (fun _ => rfl)
    have d15 : av.eval (.tmp 15) = (.pointer (some ⟨sb, so, none⟩)) := hD.1 rfl _ rfl
    have f15 := (ev_form av 15).symm.trans d15
    refine ⟨rfl, ?_⟩
    simp [go_sem, f15]
  case s14 =>
    refine step_val (v := (.pointer (some ⟨sb, so, none⟩))) (fun av wv hE hS hO hD => ?_) (fun _ => rfl)
    have d16 : av.eval (.tmp 16) = (.pointer (some ⟨sb, so, none⟩)) := hD.1 rfl _ rfl
    have f16 := (ev_form av 16).symm.trans d16
    refine ⟨rfl, ?_⟩
    simp [go_sem, f16]
  case s15 =>
    refine step_wp (fun av wv hE hS hO hD => ?_)
    have d17 : av.eval (.tmp 17) = (.pointer (some ⟨sb, so, none⟩)) := hD.1 rfl _ rfl
    have f17 := (ev_form av 17).symm.trans d17
    refine ⟨rfl, ?_⟩
    refine wp_of_callP (f := 111) (args := #[.string ⟨#[114]⟩, .pointer (some ⟨sb, so, none⟩)]) (by simp [go_sem, f17]) (HP3.out wv (of_drew hE)) (fun u w2 ⟨v, hu, hs, hb⟩ => ⟨u, rfl, es_of_ext hb, v, hu, hs⟩)
  case s16 =>
    refine step_val (v := (.pointer (some ⟨sb, so, none⟩))) (fun av wv hE hS hO hD => ?_) (fun _ => rfl)
    have h0 : av.eval (.tmp 0) = (.pointer (some ⟨sb, so, none⟩)) := hO.2.2 0 rfl
    have f0 := (ev_form av 0).symm.trans h0
    refine ⟨rfl, ?_⟩
    simp [go_sem, f0]
  case s17 =>
    refine step_val (v := (.pointer (some ⟨sb, so, none⟩))) (fun av wv hE hS hO hD => ?_) (fun _ => rfl)
    have d19 : av.eval (.tmp 19) = (.pointer (some ⟨sb, so, none⟩)) := hD.1 rfl _ rfl
    have f19 := (ev_form av 19).symm.trans d19
    refine ⟨rfl, ?_⟩
    simp [go_sem, f19]
  case s18 =>
    refine step_val (v := (.pointer (some ⟨sb, so + 1, none⟩))) (fun av wv hE hS hO hD => ?_) (fun _ => rfl)
    have d20 : av.eval (.tmp 20) = (.pointer (some ⟨sb, so, none⟩)) := hD.1 rfl _ rfl
    have f20 := (ev_form av 20).symm.trans d20
    refine ⟨rfl, ?_⟩
    simp [go_sem, f20]
  case s19 =>
    refine step_wp (fun av wv hE hS hO hD => ?_)
    have d21 : av.eval (.tmp 21) = (.pointer (some ⟨sb, so + 1, none⟩)) := hD.1 rfl _ rfl
    have f21 := (ev_form av 21).symm.trans d21
    refine ⟨rfl, ?_⟩
    refine wp_of_callP (f := 109) (args := #[.string ⟨#[119]⟩, .pointer (some ⟨sb, so + 1, none⟩)]) (by simp [go_sem, f21]) (HP4.out wv (of_drew hE)) (fun u w2 ⟨v, hu, hs, hb⟩ => ⟨u, rfl, es_of_ext hb, v, hu, hs⟩)
  intro a' w' hE hO hall
  have hA := act_of_outer (ds := [3, 4, 5, 6, 7, 8, 9, 10, 11, 12, 13, 14, 15, 16, 17, 18, 19, 20, 21, 22]) rfl hO (by kernel_rfl)
  have e3 : (fun u _ => u = (.pointer (some ⟨sb, so, none⟩))) (a'.eval (.tmp 3)) w' := hall.1 _ rfl
  have e4 : (fun u _ => u = (.pointer (some ⟨sb, so, none⟩))) (a'.eval (.tmp 4)) w' := hall.2.1 _ rfl
  have e5 : (fun u _ => u = (.pointer (some ⟨sb, so + 2, none⟩))) (a'.eval (.tmp 5)) w' := hall.2.2.1 _ rfl
  have e6 : (fun u w' => ∃ v : FVal, u = v.val ∧ P0 w' v) (a'.eval (.tmp 6)) w' := hall.2.2.2.1 _ rfl
  have e7 : (fun u _ => u = (.pointer (some ⟨sb, so, none⟩))) (a'.eval (.tmp 7)) w' := hall.2.2.2.2.1 _ rfl
  have e8 : (fun u _ => u = (.pointer (some ⟨sb, so, none⟩))) (a'.eval (.tmp 8)) w' := hall.2.2.2.2.2.1 _ rfl
  have e9 : (fun u _ => u = (.pointer (some ⟨sb, so + 4, none⟩))) (a'.eval (.tmp 9)) w' := hall.2.2.2.2.2.2.1 _ rfl
  have e10 : (fun u w' => ∃ v : FVal, u = v.val ∧ P1 w' v) (a'.eval (.tmp 10)) w' := hall.2.2.2.2.2.2.2.1 _ rfl
  have e11 : (fun u _ => u = (.pointer (some ⟨sb, so, none⟩))) (a'.eval (.tmp 11)) w' := hall.2.2.2.2.2.2.2.2.1 _ rfl
  have e12 : (fun u _ => u = (.pointer (some ⟨sb, so, none⟩))) (a'.eval (.tmp 12)) w' := hall.2.2.2.2.2.2.2.2.2.1 _ rfl
  have e13 : (fun u _ => u = (.pointer (some ⟨sb, so + 3, none⟩))) (a'.eval (.tmp 13)) w' := hall.2.2.2.2.2.2.2.2.2.2.1 _ rfl
  have e14 : (fun u w' => ∃ v : FVal, u = v.val ∧ P2 w' v) (a'.eval (.tmp 14)) w' := hall.2.2.2.2.2.2.2.2.2.2.2.1 _ rfl
  have e15 : (fun u _ => u = (.pointer (some ⟨sb, so, none⟩))) (a'.eval (.tmp 15)) w' := hall.2.2.2.2.2.2.2.2.2.2.2.2.1 _ rfl
  have e16 : (fun u _ => u = (.pointer (some ⟨sb, so, none⟩))) (a'.eval (.tmp 16)) w' := hall.2.2.2.2.2.2.2.2.2.2.2.2.2.1 _ rfl
  have e17 : (fun u _ => u = (.pointer (some ⟨sb, so, none⟩))) (a'.eval (.tmp 17)) w' := hall.2.2.2.2.2.2.2.2.2.2.2.2.2.2.1 _ rfl
  have e18 : (fun u w' => ∃ v : FVal, u = v.val ∧ P3 w' v) (a'.eval (.tmp 18)) w' := hall.2.2.2.2.2.2.2.2.2.2.2.2.2.2.2.1 _ rfl
  have e19 : (fun u _ => u = (.pointer (some ⟨sb, so, none⟩))) (a'.eval (.tmp 19)) w' := hall.2.2.2.2.2.2.2.2.2.2.2.2.2.2.2.2.1 _ rfl
  have e20 : (fun u _ => u = (.pointer (some ⟨sb, so, none⟩))) (a'.eval (.tmp 20)) w' := hall.2.2.2.2.2.2.2.2.2.2.2.2.2.2.2.2.2.1 _ rfl
  have e21 : (fun u _ => u = (.pointer (some ⟨sb, so + 1, none⟩))) (a'.eval (.tmp 21)) w' := hall.2.2.2.2.2.2.2.2.2.2.2.2.2.2.2.2.2.2.1 _ rfl
  have e22 : (fun u w' => ∃ v : FVal, u = v.val ∧ P4 w' v) (a'.eval (.tmp 22)) w' := hall.2.2.2.2.2.2.2.2.2.2.2.2.2.2.2.2.2.2.2.1 _ rfl
  obtain ⟨v6, hv6⟩ : ∃ v, a'.eval (.tmp 6) = v := ⟨_, rfl⟩
  rw [hv6] at e6
  obtain ⟨v10, hv10⟩ : ∃ v, a'.eval (.tmp 10) = v := ⟨_, rfl⟩
  rw [hv10] at e10
  obtain ⟨v14, hv14⟩ : ∃ v, a'.eval (.tmp 14) = v := ⟨_, rfl⟩
  rw [hv14] at e14
  obtain ⟨v18, hv18⟩ : ∃ v, a'.eval (.tmp 18) = v := ⟨_, rfl⟩
  rw [hv18] at e18
  obtain ⟨v22, hv22⟩ : ∃ v, a'.eval (.tmp 22) = v := ⟨_, rfl⟩
  rw [hv22] at e22
  simp only [List.foldl_cons, List.foldl_nil, Act.put, List.setIfInBounds_toArray, List.set_cons_succ, List.set_cons_zero, e3, e4, e5, hv6, e7, e8, e9, hv10, e11, e12, e13, hv14, e15, e16, e17, hv18, e19, e20, e21, hv22] at hA
  clear hO hall e3 e4 e5 hv6 e7 e8 e9 hv10 e11 e12 e13 hv14 e15 e16 e17 hv18 e19 e20 e21 hv22
  subst hA
  obtain ⟨x0, rfl, s0⟩ := e6
  obtain ⟨x1, rfl, s1⟩ := e10
  obtain ⟨x2, rfl, s2⟩ := e14
  obtain ⟨x3, rfl, s3⟩ := e18
  obtain ⟨x4, rfl, s4⟩ := e22
  have HSS : Hid (∀ o, RowPart P0 P1 P2 P3 P4 (w'.alloc o) [x0, x1, x2, x3, x4]) := Lib.hid (fun o => ⟨x0, x1, x2, x3, x4, rfl, hP0 _ _ _ (balloc (Below.refl _ _) _) s0, hP1 _ _ _ (balloc (Below.refl _ _) _) s1, hP2 _ _ _ (balloc (Below.refl _ _) _) s2, hP3 _ _ _ (balloc (Below.refl _ _) _) s3, hP4 _ _ _ (balloc (Below.refl _ _) _) s4⟩)
  have HBW : Hid (Below w.heap.size w w') := Lib.hid (of_drew hE)
  clear s0 s1 s2 s3 s4 hE
  unfold FVal.val
  go_wp2
  go_ret
  exact ⟨_, rfl, ⟨w'.heap.size, 5, [x0, x1, x2, x3, x4], rfl, Nat.le_refl _, ⟨Flds.block (l := [x0, x1, x2, x3, x4]) (heap_alloc_new w' _), _, heap_alloc_new w' _⟩, HSS.out _⟩, bnext HBW.out (balloc (Below.refl _ _) _)⟩
def RowSig (P0 P1 P2 : World → FVal → Prop) : World → List FVal → Prop := fun w l => ∃ x0 x1 x2, l = [x0, x1, x2] ∧ P0 w x0 ∧ P1 w x1 ∧ P2 w x2
set_option maxRecDepth 100000 in
set_option maxHeartbeats 8000000 in
theorem gofSig_any (sb so : Nat) (w : World) (P0 P1 P2 : World → FVal → Prop)
    (hp0 : ∀ w', Below w.heap.size w w' → Calls Tryz.prog 109 #[.string ⟨#[105]⟩, .pointer (some ⟨sb, so, none⟩)] w' (MadeG P0 w'))
    (hP0 : Lasts P0)
    (hp1 : ∀ w', Below w.heap.size w w' → Calls Tryz.prog 145 #[.string ⟨#[112]⟩, .pointer (some ⟨sb, so + 2, none⟩), .int .i64 16] w' (MadeG P1 w'))
    (hP1 : Lasts P1)
    (hp2 : ∀ w', Below w.heap.size w w' → Calls Tryz.prog 145 #[.string ⟨#[118]⟩, .pointer (some ⟨sb, so + 1, none⟩), .int .i64 67] w' (MadeG P2 w'))
    (hP2 : Lasts P2) :
    Calls Tryz.prog 108 #[.pointer (some ⟨sb, so, none⟩)] w (RowIs (RowSig P0 P1 P2) w) := by
  have HP0 := Lib.hid hp0
  have HP1 := Lib.hid hp1
  have HP2 := Lib.hid hp2
  clear hp0 hp1 hp2
  go_enter Tryz.func108, Tryz.ntmps108
  go_upto_region 1 with fail
  refine wp_region_tail 12 1000 (none) (phis [fun u _ => u = (.pointer (some ⟨sb, so, none⟩)), fun u _ => u = (.pointer (some ⟨sb, so, none⟩)), fun u _ => u = (.pointer (some ⟨sb, so, none⟩)), fun u w' => ∃ v : FVal, u = v.val ∧ P0 w' v, fun u _ => u = (.pointer (some ⟨sb, so, none⟩)), fun u _ => u = (.pointer (some ⟨sb, so, none⟩)), fun u _ => u = (.pointer (some ⟨sb, so + 2, none⟩)), fun u w' => ∃ v : FVal, u = v.val ∧ P1 w' v, fun u _ => u = (.pointer (some ⟨sb, so, none⟩)), fun u _ => u = (.pointer (some ⟨sb, so, none⟩)), fun u _ => u = (.pointer (some ⟨sb, so + 1, none⟩)), fun u w' => ∃ v : FVal, u = v.val ∧ P2 w' v]) rfl (by kernel_rfl) (by kernel_rfl) (mono_of ⟨mono_eq, mono_eq, mono_eq, ?m3, mono_eq, mono_eq, mono_eq, ?m7, mono_eq, mono_eq, mono_eq, ?m11, trivial⟩) (steps_of 12 ⟨?s0, ?s1, ?s2, ?s3, ?s4, ?s5, ?s6, ?s7, ?s8, ?s9, ?s10, ?s11, trivial⟩) ?_
  case m3 =>
    exact ⟨fun u w1 w2 h ⟨v, h1, h2⟩ => ⟨v, h1, hP0 _ _ _ h h2⟩, fun _ u w1 w2 h ⟨v, h1, h2⟩ => ⟨v, h1, hP0 _ _ _ (extB_none h) h2⟩⟩
  case m7 =>
    exact ⟨fun u w1 w2 h ⟨v, h1, h2⟩ => ⟨v, h1, hP1 _ _ _ h h2⟩, fun _ u w1 w2 h ⟨v, h1, h2⟩ => ⟨v, h1, hP1 _ _ _ (extB_none h) h2⟩⟩
  case m11 =>
    exact ⟨fun u w1 w2 h ⟨v, h1, h2⟩ => ⟨v, h1, hP2 _ _ _ h h2⟩, fun _ u w1 w2 h ⟨v, h1, h2⟩ => ⟨v, h1, hP2 _ _ _ (extB_none h) h2⟩⟩
  case s0 =>
    refine step_val (v := (.pointer (some ⟨sb, so, none⟩))) (fun av wv hE hS hO hD => ?_) (fun _ => rfl)
    have h0 : av.eval (.tmp 0) = (.pointer (some ⟨sb, so, none⟩)) := hO.2.2 0 rfl
    have f0 := (ev_form av 0).symm.trans h0
    refine ⟨rfl, ?_⟩
    simp [go_sem, f0]
  case s1 =>
    refine step_val (v := (.pointer (some ⟨sb, so, none⟩))) (fun av wv hE hS hO hD => ?_) (fun _ => rfl)
    have d3 : av.eval (.tmp 3) = (.pointer (some ⟨sb, so, none⟩)) := hD.1 rfl _ rfl
    have f3 := (ev_form av 3).symm.trans d3
    refine ⟨rfl, ?_⟩
    simp [go_sem, f3]
  case s2 =>
    refine step_val (v := (.pointer (some ⟨sb, so, none⟩))) (fun av wv hE hS hO hD => ?_) (fun _ => rfl)
    have d4 : av.eval (.tmp 4) = (.pointer (some ⟨sb, so, none⟩)) := hD.1 rfl _ rfl
    have f4 := (ev_form av 4).symm.trans d4
    refine ⟨rfl, ?_⟩
    simp [go_sem, f4]
  case s3 =>
    refine step_wp (fun av wv hE hS hO hD => ?_)
    have d5 : av.eval (.tmp 5) = (.pointer (some ⟨sb, so, none⟩)) := hD.1 rfl _ rfl
    have f5 := (ev_form av 5).symm.trans d5
    refine ⟨rfl, ?_⟩
    refine wp_of_callP (f := 109) (args := #[.string ⟨#[105]⟩, .pointer (some ⟨sb, so, none⟩)]) (by simp [go_sem, f5]) (HP0.out wv (of_drew hE)) (fun u w2 ⟨v, hu, hs, hb⟩ => ⟨u, rfl, es_of_ext hb, v, hu, hs⟩)
  case s4 =>
    refine step_val (v := (.pointer (some ⟨sb, so, none⟩))) (fun av wv hE hS hO hD => ?_) (fun _ => rfl)
    have h0 : av.eval (.tmp 0) = (.pointer (some ⟨sb, so, none⟩)) := hO.2.2 0 rfl
    have f0 := (ev_form av 0).symm.trans h0
    refine ⟨rfl, ?_⟩
    simp [go_sem, f0]
  case s5 =>
    refine step_val (v := (.pointer (some ⟨sb, so, none⟩))) (fun av wv hE hS hO hD => ?_) (fun _ => rfl)
    have d7 : av.eval (.tmp 7) = (.pointer (some ⟨sb, so, none⟩)) := hD.1 rfl _ rfl
    have f7 := (ev_form av 7).symm.trans d7
    refine ⟨rfl, ?_⟩
    simp [go_sem, f7]
  case s6 =>
    refine step_val (v := (.pointer (some ⟨sb, so + 2, none⟩))) (fun av wv hE hS hO hD => ?_) (fun _ => rfl)
    have d8 : av.eval (.tmp 8) = (.pointer (some ⟨sb, so, none⟩)) := hD.1 rfl _ rfl
    have f8 := (ev_form av 8).symm.trans d8
    refine ⟨rfl, ?_⟩
    simp [go_sem, f8]
  case s7 =>
    refine step_wp (fun av wv hE hS hO hD => ?_)
    have d9 : av.eval (.tmp 9) = (.pointer (some ⟨sb, so + 2, none⟩)) := hD.1 rfl _ rfl
    have f9 := (ev_form av 9).symm.trans d9
    refine ⟨rfl, ?_⟩
    refine wp_of_callP (f := 145) (args := #[.string ⟨#[112]⟩, .pointer (some ⟨sb, so + 2, none⟩), .int .i64 16]) (by simp [go_sem, f9]) (HP1.out wv (of_drew hE)) (fun u w2 ⟨v, hu, hs, hb⟩ => ⟨u, rfl, es_of_ext hb, v, hu, hs⟩)
  case s8 =>
    refine step_val (v := (.pointer (some ⟨sb, so, none⟩))) (fun av wv hE hS hO hD => ?_) (fun _ => rfl)
    have h0 : av.eval (.tmp 0) = (.pointer (some ⟨sb, so, none⟩)) := hO.2.2 0 rfl
    have f0 := (ev_form av 0).symm.trans h0
    refine ⟨rfl, ?_⟩
    simp [go_sem, f0]
  case s9 =>
    refine step_val (v := (.pointer (some ⟨sb, so, none⟩))) (fun av wv hE hS hO hD => ?_) (fun _ => rfl)
    have d11 : av.eval (.tmp 11) = (.pointer (some ⟨sb, so, none⟩)) := hD.1 rfl _ rfl
    have f11 := (ev_form av 11).symm.trans d11
    refine ⟨rfl, ?_⟩
    simp [go_sem, f11]
  case s10 =>
    refine step_val (v := (.pointer (some ⟨sb, so + 1, none⟩))) (fun av wv hE hS hO hD => ?_) (fun _ => rfl)
    have d12 : av.eval (.tmp 12) = (.pointer (some ⟨sb, so, none⟩)) := hD.1 rfl _ rfl
    have f12 := (ev_form av 12).symm.trans d12
    refine ⟨rfl, ?_⟩
    simp [go_sem, f12]
  case s11 =>
    refine step_wp (fun av wv hE hS hO hD => ?_)
    have d13 : av.eval (.tmp 13) = (.pointer (some ⟨sb, so + 1, none⟩)) := hD.1 rfl _ rfl
    have f13 := (ev_form av 13).symm.trans d13
    refine ⟨rfl, ?_⟩
    refine wp_of_callP (f := 145) (args := #[.string ⟨#[118]⟩, .pointer (some ⟨sb, so + 1, none⟩), .int .i64 67]) (by simp [go_sem, f13]) (HP2.out wv (of_drew hE)) (fun u w2 ⟨v, hu, hs, hb⟩ => ⟨u, rfl, es_of_ext hb, v, hu, hs⟩)
  intro a' w' hE hO hall
  have hA := act_of_outer (ds := [3, 4, 5, 6, 7, 8, 9, 10, 11, 12, 13, 14]) rfl hO (by kernel_rfl)
  have e3 : (fun u _ => u = (.pointer (some ⟨sb, so, none⟩))) (a'.eval (.tmp 3)) w' := hall.1 _ rfl
  have e4 : (fun u _ => u = (.pointer (some ⟨sb, so, none⟩))) (a'.eval (.tmp 4)) w' := hall.2.1 _ rfl
  have e5 : (fun u _ => u = (.pointer (some ⟨sb, so, none⟩))) (a'.eval (.tmp 5)) w' := hall.2.2.1 _ rfl
  have e6 : (fun u w' => ∃ v : FVal, u = v.val ∧ P0 w' v) (a'.eval (.tmp 6)) w' := hall.2.2.2.1 _ rfl
  have e7 : (fun u _ => u = (.pointer (some ⟨sb, so, none⟩))) (a'.eval (.tmp 7)) w' := hall.2.2.2.2.1 _ rfl
  have e8 : (fun u _ => u = (.pointer (some ⟨sb, so, none⟩))) (a'.eval (.tmp 8)) w' := hall.2.2.2.2.2.1 _ rfl
  have e9 : (fun u _ => u = (.pointer (some ⟨sb, so + 2, none⟩))) (a'.eval (.tmp 9)) w' := hall.2.2.2.2.2.2.1 _ rfl
  have e10 : (fun u w' => ∃ v : FVal, u = v.val ∧ P1 w' v) (a'.eval (.tmp 10)) w' := hall.2.2.2.2.2.2.2.1 _ rfl
  have e11 : (fun u _ => u = (.pointer (some ⟨sb, so, none⟩))) (a'.eval (.tmp 11)) w' := hall.2.2.2.2.2.2.2.2.1 _ rfl
  have e12 : (fun u _ => u = (.pointer (some ⟨sb, so, none⟩))) (a'.eval (.tmp 12)) w' := hall.2.2.2.2.2.2.2.2.2.1 _ rfl
  have e13 : (fun u _ => u = (.pointer (some ⟨sb, so + 1, none⟩))) (a'.eval (.tmp 13)) w' := hall.2.2.2.2.2.2.2.2.2.2.1 _ rfl
  have e14 : (fun u w' => ∃ v : FVal, u = v.val ∧ P2 w' v) (a'.eval (.tmp 14)) w' := hall.2.2.2.2.2.2.2.2.2.2.2.1 _ rfl
  obtain ⟨v6, hv6⟩ : ∃ v, a'.eval (.tmp 6) = v := ⟨_, rfl⟩
  rw [hv6] at e6
  obtain ⟨v10, hv10⟩ : ∃ v, a'.eval (.tmp 10) = v := ⟨_, rfl⟩
  rw [hv10] at e10
  obtain ⟨v14, hv14⟩ : ∃ v, a'.eval (.tmp 14) = v := ⟨_, rfl⟩
  rw [hv14] at e14
  simp only [List.foldl_cons, List.foldl_nil, Act.put, List.setIfInBounds_toArray, List.set_cons_succ, List.set_cons_zero, e3, e4, e5, hv6, e7, e8, e9, hv10, e11, e12, e13, hv14] at hA
  clear hO hall e3 e4 e5 hv6 e7 e8 e9 hv10 e11 e12 e13 hv14
  subst hA
  obtain ⟨x0, rfl, s0⟩ := e6
  obtain ⟨x1, rfl, s1⟩ := e10
  obtain ⟨x2, rfl, s2⟩ := e14
  have HSS : Hid (∀ o, RowSig P0 P1 P2 (w'.alloc o) [x0, x1, x2]) := Lib.hid (fun o => ⟨x0, x1, x2, rfl, hP0 _ _ _ (balloc (Below.refl _ _) _) s0, hP1 _ _ _ (balloc (Below.refl _ _) _) s1, hP2 _ _ _ (balloc (Below.refl _ _) _) s2⟩)
  have HBW : Hid (Below w.heap.size w w') := Lib.hid (of_drew hE)
  clear s0 s1 s2 hE
  unfold FVal.val
  go_wp2
  go_ret
  exact ⟨_, rfl, ⟨w'.heap.size, 3, [x0, x1, x2], rfl, Nat.le_refl _, ⟨Flds.block (l := [x0, x1, x2]) (heap_alloc_new w' _), _, heap_alloc_new w' _⟩, HSS.out _⟩, bnext HBW.out (balloc (Below.refl _ _) _)⟩
def RowSlot (P0 P1 P2 : World → FVal → Prop) : World → List FVal → Prop := fun w l => ∃ x0 x1 x2, l = [x0, x1, x2] ∧ P0 w x0 ∧ P1 w x1 ∧ P2 w x2
set_option maxRecDepth 100000 in
set_option maxHeartbeats 8000000 in
theorem gofSlot_any (sb so : Nat) (w : World) (P0 P1 P2 : World → FVal → Prop) (R0 : World → List FVal → Prop)
    (hR0 : LastsR R0) (hr0 : ∀ w', Below w.heap.size w w' → Calls Tryz.prog 108 #[.pointer (some ⟨sb, so + 2, none⟩)] w' (RowIs R0 w'))
    (hp0 : ∀ w' g c l, Below w.heap.size w w' → FRow w' g l → len l ≤ c → R0 w' l → Calls Tryz.prog 107 #[.string ⟨#[103]⟩, .slice (some ⟨g, 0, none⟩) (len l) c] w' (MadeG P0 w'))
    (hP0 : Lasts P0)
    (hp1 : ∀ w', Below w.heap.size w w' → Calls Tryz.prog 109 #[.string ⟨#[108]⟩, .pointer (some ⟨sb, so, none⟩)] w' (MadeG P1 w'))
    (hP1 : Lasts P1)
    (hp2 : ∀ w', Below w.heap.size w w' → Calls Tryz.prog 110 #[.string ⟨#[115]⟩, .pointer (some ⟨sb, so + 1, none⟩)] w' (MadeG P2 w'))
    (hP2 : Lasts P2) :
    Calls Tryz.prog 61 #[.pointer (some ⟨sb, so, none⟩)] w (RowIs (RowSlot P0 P1 P2) w) := by
  have HR0 := Lib.hid hr0
  have HP0 := Lib.hid hp0
  have HP1 := Lib.hid hp1
  have HP2 := Lib.hid hp2
  clear hr0 hp0 hp1 hp2
  go_enter Tryz.func61, Tryz.ntmps61
  go_upto_region 1 with fail
  refine wp_region_tail 13 1000 (none) (phis [fun u _ => u = (.pointer (some ⟨sb, so, none⟩)), fun u _ => u = (.pointer (some ⟨sb, so, none⟩)), fun u _ => u = (.pointer (some ⟨sb, so + 2, none⟩)), fun u w' => RowG R0 u w', fun u w' => ∃ v : FVal, u = v.val ∧ P0 w' v, fun u _ => u = (.pointer (some ⟨sb, so, none⟩)), fun u _ => u = (.pointer (some ⟨sb, so, none⟩)), fun u _ => u = (.pointer (some ⟨sb, so, none⟩)), fun u w' => ∃ v : FVal, u = v.val ∧ P1 w' v, fun u _ => u = (.pointer (some ⟨sb, so, none⟩)), fun u _ => u = (.pointer (some ⟨sb, so, none⟩)), fun u _ => u = (.pointer (some ⟨sb, so + 1, none⟩)), fun u w' => ∃ v : FVal, u = v.val ∧ P2 w' v]) rfl (by kernel_rfl) (by kernel_rfl) (mono_of ⟨mono_eq, mono_eq, mono_eq, ?m3, ?m4, mono_eq, mono_eq, mono_eq, ?m8, mono_eq, mono_eq, mono_eq, ?m12, trivial⟩) (steps_of 13 ⟨?s0, ?s1, ?s2, ?s3, ?s4, ?s5, ?s6, ?s7, ?s8, ?s9, ?s10, ?s11, ?s12, trivial⟩) ?_
  case m3 =>
    exact ⟨fun u w1 w2 h h1 => h1.below hR0 h, fun _ u w1 w2 h h1 => h1.below hR0 (extB_none h)⟩
  case m4 =>
    exact ⟨fun u w1 w2 h ⟨v, h1, h2⟩ => ⟨v, h1, hP0 _ _ _ h h2⟩, fun _ u w1 w2 h ⟨v, h1, h2⟩ => ⟨v, h1, hP0 _ _ _ (extB_none h) h2⟩⟩
  case m8 =>
    exact ⟨fun u w1 w2 h ⟨v, h1, h2⟩ => ⟨v, h1, hP1 _ _ _ h h2⟩, fun _ u w1 w2 h ⟨v, h1, h2⟩ => ⟨v, h1, hP1 _ _ _ (extB_none h) h2⟩⟩
  case m12 =>
    exact ⟨fun u w1 w2 h ⟨v, h1, h2⟩ => ⟨v, h1, hP2 _ _ _ h h2⟩, fun _ u w1 w2 h ⟨v, h1, h2⟩ => ⟨v, h1, hP2 _ _ _ (extB_none h) h2⟩⟩
  case s0 =>
    refine step_val (v := (.pointer (some ⟨sb, so, none⟩))) (fun av wv hE hS hO hD => ?_) (fun _ => rfl)
    have h0 : av.eval (.tmp 0) = (.pointer (some ⟨sb, so, none⟩)) := hO.2.2 0 rfl
    have f0 := (ev_form av 0).symm.trans h0
    refine ⟨rfl, ?_⟩
    simp [go_sem, f0]
  case s1 =>
    refine step_val (v := (.pointer (some ⟨sb, so, none⟩))) (fun av wv hE hS hO hD => ?_) (fun _ => rfl)
    have d3 : av.eval (.tmp 3) = (.pointer (some ⟨sb, so, none⟩)) := hD.1 rfl _ rfl
    have f3 := (ev_form av 3).symm.trans d3
    refine ⟨rfl, ?_⟩
    simp [go_sem, f3]
  case s2 =>
    refine step_val (v := (.pointer (some ⟨sb, so + 2, none⟩))) (fun av wv hE hS hO hD => ?_) (fun _ => rfl)
    have d4 : av.eval (.tmp 4) = (.pointer (some ⟨sb, so, none⟩)) := hD.1 rfl _ rfl
    have f4 := (ev_form av 4).symm.trans d4
    refine ⟨rfl, ?_⟩
    simp [go_sem, f4]
  case s3 =>
    refine step_wp (fun av wv hE hS hO hD => ?_)
    have d5 : av.eval (.tmp 5) = (.pointer (some ⟨sb, so + 2, none⟩)) := hD.1 rfl _ rfl
    have f5 := (ev_form av 5).symm.trans d5
    refine ⟨rfl, ?_⟩
    refine wp_of_callP (f := 108) (args := #[.pointer (some ⟨sb, so + 2, none⟩)]) (by simp [go_sem, f5]) (HR0.out wv (of_drew hE)) (fun u w2 ⟨h1, hb⟩ => ⟨u, rfl, es_of_ext hb, h1⟩)
  case s4 =>
    refine step_wp (fun av wv hE hS hO hD => ?_)
    have d6 : (fun u w' => RowG R0 u w') (av.eval (.tmp 6)) wv := hD.1 rfl _ rfl
    refine ⟨rfl, ?_⟩
    obtain ⟨gg, cc, ll, hu, hc, hF, hp⟩ := d6
    have f6 := (ev_form av 6).symm.trans hu
    refine wp_of_callP (f := 107) (args := #[.string ⟨#[103]⟩, .slice (some ⟨gg, 0, none⟩) (len ll) cc]) (by simp [go_sem, f6]) (HP0.out wv gg cc ll (of_drew hE) hF hc hp) (fun u w2 ⟨v, hu, hs, hb⟩ => ⟨u, rfl, es_of_ext hb, v, hu, hs⟩)
  case s5 =>
    refine step_val (v := (.pointer (some ⟨sb, so, none⟩))) (fun av wv hE hS hO hD => ?_) (fun _ => rfl)
    have h0 : av.eval (.tmp 0) = (.pointer (some ⟨sb, so, none⟩)) := hO.2.2 0 rfl
    have f0 := (ev_form av 0).symm.trans h0
    refine ⟨rfl, ?_⟩
    simp [go_sem, f0]
  case s6 =>
    refine step_val (v := (.pointer (some ⟨sb, so, none⟩))) (fun av wv hE hS hO hD => ?_) (fun _ => rfl)
    have d8 : av.eval (.tmp 8) = (.pointer (some ⟨sb, so, none⟩)) := hD.1 rfl _ rfl
    have f8 := (ev_form av 8).symm.trans d8
    refine ⟨rfl, ?_⟩
    simp [go_sem, f8]
  case s7 =>
    refine step_val (v := (.pointer (some ⟨sb, so, none⟩))) (fun av wv hE hS hO hD => ?_) (fun _ => rfl)
    have d9 : av.eval (.tmp 9) = (.pointer (some ⟨sb, so, none⟩)) := hD.1 rfl _ rfl
    have f9 := (ev_form av 9).symm.trans d9
    refine ⟨rfl, ?_⟩
    simp [go_sem, f9]
  case s8 =>
    refine step_wp (fun av wv hE hS hO hD => ?_)
    have d10 : av.eval (.tmp 10) = (.pointer (some ⟨sb, so, none⟩)) := hD.1 rfl _ rfl
    have f10 := (ev_form av 10).symm.trans d10
    refine ⟨rfl, ?_⟩
    refine wp_of_callP (f := 109) (args := #[.string ⟨#[108]⟩, .pointer (some ⟨sb, so, none⟩)]) (by simp [go_sem, f10]) (HP1.out wv (of_drew hE)) (fun u w2 ⟨v, hu, hs, hb⟩ => ⟨u, rfl, es_of_ext hb, v, hu, hs⟩)
  case s9 =>
    refine step_val (v := (.pointer (some ⟨sb, so, none⟩))) (fun av wv hE hS hO hD => ?_) (fun _ => rfl)
    have h0 : av.eval (.tmp 0) = (.pointer (some ⟨sb, so, none⟩)) := hO.2.2 0 rfl
    have f0 := (ev_form av 0).symm.trans h0
    refine ⟨rfl, ?_⟩
    simp [go_sem, f0]
  case s10 =>
    refine step_val (v := (.pointer (some ⟨sb, so, none⟩))) (fun av wv hE hS hO hD => ?_) (fun _ => rfl)
    have d12 : av.eval (.tmp 12) = (.pointer (some ⟨sb, so, none⟩)) := hD.1 rfl _ rfl
    have f12 := (ev_form av 12).symm.trans d12
    refine ⟨rfl, ?_⟩
    simp [go_sem, f12]
  case s11 =>
    refine step_val (v := (.pointer (some ⟨sb, so + 1, none⟩))) (fun av wv hE hS hO hD => ?_) (fun _ => rfl)
    have d13 : av.eval (.tmp 13) = (.pointer (some ⟨sb, so, none⟩)) := hD.1 rfl _ rfl
    have f13 := (ev_form av 13).symm.trans d13
    refine ⟨rfl, ?_⟩
    simp [go_sem, f13]
  case s12 =>
    refine step_wp (fun av wv hE hS hO hD => ?_)
    have d14 : av.eval (.tmp 14) = (.pointer (some ⟨sb, so + 1, none⟩)) := hD.1 rfl _ rfl
    have f14 := (ev_form av 14).symm.trans d14
    refine ⟨rfl, ?_⟩
    refine wp_of_callP (f := 110) (args := #[.string ⟨#[115]⟩, .pointer (some ⟨sb, so + 1, none⟩)]) (by simp [go_sem, f14]) (HP2.out wv (of_drew hE)) (fun u w2 ⟨v, hu, hs, hb⟩ => ⟨u, rfl, es_of_ext hb, v, hu, hs⟩)
  intro a' w' hE hO hall
  have hA := act_of_outer (ds := [3, 4, 5, 6, 7, 8, 9, 10, 11, 12, 13, 14, 15]) rfl hO (by kernel_rfl)
  have e3 : (fun u _ => u = (.pointer (some ⟨sb, so, none⟩))) (a'.eval (.tmp 3)) w' := hall.1 _ rfl
  have e4 : (fun u _ => u = (.pointer (some ⟨sb, so, none⟩))) (a'.eval (.tmp 4)) w' := hall.2.1 _ rfl
  have e5 : (fun u _ => u = (.pointer (some ⟨sb, so + 2, none⟩))) (a'.eval (.tmp 5)) w' := hall.2.2.1 _ rfl
  have e6 : (fun u w' => RowG R0 u w') (a'.eval (.tmp 6)) w' := hall.2.2.2.1 _ rfl
  have e7 : (fun u w' => ∃ v : FVal, u = v.val ∧ P0 w' v) (a'.eval (.tmp 7)) w' := hall.2.2.2.2.1 _ rfl
  have e8 : (fun u _ => u = (.pointer (some ⟨sb, so, none⟩))) (a'.eval (.tmp 8)) w' := hall.2.2.2.2.2.1 _ rfl
  have e9 : (fun u _ => u = (.pointer (some ⟨sb, so, none⟩))) (a'.eval (.tmp 9)) w' := hall.2.2.2.2.2.2.1 _ rfl
  have e10 : (fun u _ => u = (.pointer (some ⟨sb, so, none⟩))) (a'.eval (.tmp 10)) w' := hall.2.2.2.2.2.2.2.1 _ rfl
  have e11 : (fun u w' => ∃ v : FVal, u = v.val ∧ P1 w' v) (a'.eval (.tmp 11)) w' := hall.2.2.2.2.2.2.2.2.1 _ rfl
  have e12 : (fun u _ => u = (.pointer (some ⟨sb, so, none⟩))) (a'.eval (.tmp 12)) w' := hall.2.2.2.2.2.2.2.2.2.1 _ rfl
  have e13 : (fun u _ => u = (.pointer (some ⟨sb, so, none⟩))) (a'.eval (.tmp 13)) w' := hall.2.2.2.2.2.2.2.2.2.2.1 _ rfl
  have e14 : (fun u _ => u = (.pointer (some ⟨sb, so + 1, none⟩))) (a'.eval (.tmp 14)) w' := hall.2.2.2.2.2.2.2.2.2.2.2.1 _ rfl
  have e15 : (fun u w' => ∃ v : FVal, u = v.val ∧ P2 w' v) (a'.eval (.tmp 15)) w' := hall.2.2.2.2.2.2.2.2.2.2.2.2.1 _ rfl
  obtain ⟨v6, hv6⟩ : ∃ v, a'.eval (.tmp 6) = v := ⟨_, rfl⟩
  rw [hv6] at e6
  obtain ⟨v7, hv7⟩ : ∃ v, a'.eval (.tmp 7) = v := ⟨_, rfl⟩
  rw [hv7] at e7
  obtain ⟨v11, hv11⟩ : ∃ v, a'.eval (.tmp 11) = v := ⟨_, rfl⟩
  rw [hv11] at e11
  obtain ⟨v15, hv15⟩ : ∃ v, a'.eval (.tmp 15) = v := ⟨_, rfl⟩
  rw [hv15] at e15
  simp only [List.foldl_cons, List.foldl_nil, Act.put, List.setIfInBounds_toArray, List.set_cons_succ, List.set_cons_zero, e3, e4, e5, hv6, hv7, e8, e9, e10, hv11, e12, e13, e14, hv15] at hA
  clear hO hall e3 e4 e5 hv6 hv7 e8 e9 e10 hv11 e12 e13 e14 hv15
  subst hA
  obtain ⟨x0, rfl, s0⟩ := e7
  obtain ⟨x1, rfl, s1⟩ := e11
  obtain ⟨x2, rfl, s2⟩ := e15
  have HSS : Hid (∀ o, RowSlot P0 P1 P2 (w'.alloc o) [x0, x1, x2]) := Lib.hid (fun o => ⟨x0, x1, x2, rfl, hP0 _ _ _ (balloc (Below.refl _ _) _) s0, hP1 _ _ _ (balloc (Below.refl _ _) _) s1, hP2 _ _ _ (balloc (Below.refl _ _) _) s2⟩)
  have HBW : Hid (Below w.heap.size w w') := Lib.hid (of_drew hE)
  clear s0 s1 s2 hE
  unfold FVal.val
  go_wp2
  go_ret
  exact ⟨_, rfl, ⟨w'.heap.size, 3, [x0, x1, x2], rfl, Nat.le_refl _, ⟨Flds.block (l := [x0, x1, x2]) (heap_alloc_new w' _), _, heap_alloc_new w' _⟩, HSS.out _⟩, bnext HBW.out (balloc (Below.refl _ _) _)⟩
def RowMsg (P0 P1 P2 P3 P4 P5 : World → FVal → Prop) : World → List FVal → Prop := fun w l => ∃ x0 x1 x2 x3 x4 x5, l = [x0, x1, x2, x3, x4, x5] ∧ P0 w x0 ∧ P1 w x1 ∧ P2 w x2 ∧ P3 w x3 ∧ P4 w x4 ∧ P5 w x5
set_option maxRecDepth 100000 in
set_option maxHeartbeats 8000000 in
theorem gofMsg_any (sb so : Nat) (w : World) (P0 P1 P2 P3 P4 P5 : World → FVal → Prop)
    (hp0 : ∀ w', Below w.heap.size w w' → Calls Tryz.prog 109 #[.string ⟨#[102]⟩, .pointer (some ⟨sb, so + 4, none⟩)] w' (MadeG P0 w'))
    (hP0 : Lasts P0)
    (hp1 : ∀ w', Below w.heap.size w w' → Calls Tryz.prog 111 #[.string ⟨#[104]⟩, .pointer (some ⟨sb, so, none⟩)] w' (MadeG P1 w'))
    (hP1 : Lasts P1)
    (hp2 : ∀ w', Below w.heap.size w w' → Calls Tryz.prog 109 #[.string ⟨#[108]⟩, .pointer (some ⟨sb, so + 5, none⟩)] w' (MadeG P2 w'))
    (hP2 : Lasts P2)
    (hp3 : ∀ w', Below w.heap.size w w' → Calls Tryz.prog 109 #[.string ⟨#[110]⟩, .pointer (some ⟨sb, so + 2, none⟩)] w' (MadeG P3 w'))
    (hP3 : Lasts P3)
    (hp4 : ∀ w', Below w.heap.size w w' → Calls Tryz.prog 111 #[.string ⟨#[118]⟩, .pointer (some ⟨sb, so + 1, none⟩)] w' (MadeG P4 w'))
    (hP4 : Lasts P4)
    (hp5 : ∀ w', Below w.heap.size w w' → Calls Tryz.prog 109 #[.string ⟨#[119]⟩, .pointer (some ⟨sb, so + 3, none⟩)] w' (MadeG P5 w'))
    (hP5 : Lasts P5) :
    Calls Tryz.prog 80 #[.pointer (some ⟨sb, so, none⟩)] w (RowIs (RowMsg P0 P1 P2 P3 P4 P5) w) := by
  have HP0 := Lib.hid hp0
  have HP1 := Lib.hid hp1
  have HP2 := Lib.hid hp2
  have HP3 := Lib.hid hp3
  have HP4 := Lib.hid hp4
  have HP5 := Lib.hid hp5
  clear hp0 hp1 hp2 hp3 hp4 hp5
  go_enter Tryz.func80, Tryz.ntmps80
  go_upto_region 1 with fail
  refine wp_region_tail 24 1000 (none) (phis [fun u _ => u = (.pointer (some ⟨sb, so, none⟩)), fun u _ => u = (.pointer (some ⟨sb, so, none⟩)), fun u _ => u = (.pointer (some ⟨sb, so + 4, none⟩)), fun u w' => ∃ v : FVal, u = v.val ∧ P0 w' v, fun u _ => u = (.pointer (some ⟨sb, so, none⟩)), fun u _ => u = (.pointer (some ⟨sb, so, none⟩)), fun u _ => u = (.pointer (some ⟨sb, so, none⟩)), fun u w' => ∃ v : FVal, u = v.val ∧ P1 w' v, fun u _ => u = (.pointer (some ⟨sb, so, none⟩)), fun u _ => u = (.pointer (some ⟨sb, so, none⟩)), fun u _ => u = (.pointer (some ⟨sb, so + 5, none⟩)), fun u w' => ∃ v : FVal, u = v.val ∧ P2 w' v, fun u _ => u = (.pointer (some ⟨sb, so, none⟩)), fun u _ => u = (.pointer (some ⟨sb, so, none⟩)), fun u _ => u = (.pointer (some ⟨sb, so + 2, none⟩)), fun u w' => ∃ v : FVal, u = v.val ∧ P3 w' v, fun u _ => u = (.pointer (some ⟨sb, so, none⟩)), fun u _ => u = (.pointer (some ⟨sb, so, none⟩)), fun u _ => u = (.pointer (some ⟨sb, so + 1, none⟩)), fun u w' => ∃ v : FVal, u = v.val ∧ P4 w' v, fun u _ => u = (.pointer (some ⟨sb, so, none⟩)), fun u _ => u = (.pointer (some ⟨sb, so, none⟩)), fun u _ => u = (.pointer (some ⟨sb, so + 3, none⟩)), fun u w' => ∃ v : FVal, u = v.val ∧ P5 w' v]) rfl (by kernel_rfl) (by kernel_rfl) (mono_of ⟨mono_eq, mono_eq, mono_eq, ?m3, mono_eq, mono_eq, mono_eq, ?m7, mono_eq, mono_eq, mono_eq, ?m11, mono_eq, mono_eq, mono_eq, ?m15, mono_eq, mono_eq, mono_eq, ?m19, mono_eq, mono_eq, mono_eq, ?m23, trivial⟩) (steps_of 24 ⟨?s0, ?s1, ?s2, ?s3, ?s4, ?s5, ?s6, ?s7, ?s8, ?s9, ?s10, ?s11, ?s12, ?s13, ?s14, ?s15, ?s16, ?s17, ?s18, ?s19, ?s20, ?s21, ?s22, ?s23, trivial⟩) ?_
  case m3 =>
    exact ⟨fun u w1 w2 h ⟨v, h1, h2⟩ => ⟨v, h1, hP0 _ _ _ h h2⟩, fun _ u w1 w2 h ⟨v, h1, h2⟩ => ⟨v, h1, hP0 _ _ _ (extB_none h) h2⟩⟩
  case m7 =>
    exact ⟨fun u w1 w2 h ⟨v, h1, h2⟩ => ⟨v, h1, hP1 _ _ _ h h2⟩, fun _ u w1 w2 h ⟨v, h1, h2⟩ => ⟨v, h1, hP1 _ _ _ (extB_none h) h2⟩⟩
  case m11 =>
    exact ⟨fun u w1 w2 h ⟨v, h1, h2⟩ => ⟨v, h1, hP2 _ _ _ h h2⟩, fun _ u w1 w2 h ⟨v, h1, h2⟩ => ⟨v, h1, hP2 _ _ _ (extB_none h) h2⟩⟩
  case m15 =>
    exact ⟨fun u w1 w2 h ⟨v, h1, h2⟩ => ⟨v, h1, hP3 _ _ _ h h2⟩, fun _ u w1 w2 h ⟨v, h1, h2⟩ => ⟨v, h1, hP3 _ _ _ (extB_none h) h2⟩⟩
  case m19 =>
    exact ⟨fun u w1 w2 h ⟨v, h1, h2⟩ => ⟨v, h1, hP4 _ _ _ h h2⟩, fun _ u w1 w2 h ⟨v, h1, h2⟩ => ⟨v, h1, hP4 _ _ _ (extB_none h) h2⟩⟩
  case m23 =>
    exact ⟨fun u w1 w2 h ⟨v, h1, h2⟩ => ⟨v, h1, hP5 _ _ _ h h2⟩, fun _ u w1 w2 h ⟨v, h1, h2⟩ => ⟨v, h1, hP5 _ _ _ (extB_none h) h2⟩⟩
  case s0 =>
    refine step_val (v := (.pointer (some ⟨sb, so, none⟩))) (fun av wv hE hS hO hD => ?_) (fun _ => rfl)
    have h0 : av.eval (.tmp 0) = (.pointer (some ⟨sb, so, none⟩)) := hO.2.2 0 rfl
    have f0 := (ev_form av 0).symm.trans h0
    refine ⟨rfl, ?_⟩
    simp [go_sem, f0]
  case s1 =>
    refine step_val (v := (.pointer (some ⟨sb, so, none⟩))) (fun av wv hE hS hO hD => ?_) (fun _ => rfl)
    have d3 : av.eval (.tmp 3) = (.pointer (some ⟨sb, so, none⟩)) := hD.1 rfl _ rfl
    have f3 := (ev_form av 3).symm.trans d3
    refine ⟨rfl, ?_⟩
    simp [go_sem, f3]
  case s2 =>
    refine step_val (v := (.pointer (some ⟨sb, so + 4, none⟩))) (fun av wv hE hS hO hD => ?_) (fun _ => rfl)
    have d4 : av.eval (.tmp 4) = (.pointer (some ⟨sb, so, none⟩)) := hD.1 rfl _ rfl
    have f4 := (ev_form av 4).symm.trans d4
    refine ⟨rfl, ?_⟩
    simp [go_sem, f4]
  case s3 =>
    refine step_wp (fun av wv hE hS hO hD => ?_)
    have d5 : av.eval (.tmp 5) = (.pointer (some ⟨sb, so + 4, none⟩)) := hD.1 rfl _ rfl
    have f5 := (ev_form av 5).symm.trans d5
    refine ⟨rfl, ?_⟩
    refine wp_of_callP (f := 109) (args := #[.string ⟨#[102]⟩, .pointer (some ⟨sb, so + 4, none⟩)]) (by simp [go_sem, f5]) (HP0.out wv (of_drew hE)) (fun u w2 ⟨v, hu, hs, hb⟩ => ⟨u, rfl, es_of_ext hb, v, hu, hs⟩)
  case s4 =>
    refine step_val (v := (.pointer (some ⟨sb, so, none⟩))) (fun av wv hE hS hO hD => ?_) (fun _ => rfl)
    have h0 : av.eval (.tmp 0) = (.pointer (some ⟨sb, so, none⟩)) := hO.2.2 0 rfl
    have f0 := (ev_form av 0).symm.trans h0
    refine ⟨rfl, ?_⟩
    simp [go_sem, f0]
  case s5 =>
    refine step_val (v := (.pointer (some ⟨sb, so, none⟩))) (fun av wv hE hS hO hD => ?_) (fun _ => rfl)
    have d7 : av.eval (.tmp 7) = (.pointer (some ⟨sb, so, none⟩)) := hD.1 rfl _ rfl
    have f7 := (ev_form av 7).symm.trans d7
    refine ⟨rfl, ?_⟩
    simp [go_sem, f7]
  case s6 =>
    refine step_val (v := (.pointer (some ⟨sb, so, none⟩))) (fun av wv hE hS hO hD => ?_) (fun _ => rfl)
    have d8 : av.eval (.tmp 8) = (.pointer (some ⟨sb, so, none⟩)) := hD.1 rfl _ rfl
    have f8 := (ev_form av 8).symm.trans d8
    refine ⟨rfl, ?_⟩
    simp [go_sem, f8]
  case s7 =>
    refine step_wp (fun av wv hE hS hO hD => ?_)
    have d9 : av.eval (.tmp 9) = (.pointer (some ⟨sb, so, none⟩)) := hD.1 rfl _ rfl
    have f9 := (ev_form av 9).symm.trans d9
    refine ⟨rfl, ?_⟩
    refine wp_of_callP (f := 111) (args := #[.string ⟨#[104]⟩, .pointer (some ⟨sb, so, none⟩)]) (by simp [go_sem, f9]) (HP1.out wv (of_drew hE)) (fun u w2 ⟨v, hu, hs, hb⟩ => ⟨u, rfl, es_of_ext hb, v, hu, hs⟩)
  case s8 =>
    refine step_val (v := (.pointer (some ⟨sb, so, none⟩))) (fun av wv hE hS hO hD => ?_) (fun _ => rfl)
    have h0 : av.eval (.tmp 0) = (.pointer (some ⟨sb, so, none⟩)) := hO.2.2 0 rfl
    have f0 := (ev_form av 0).symm.trans h0
    refine ⟨rfl, ?_⟩
    simp [go_sem, f0]
  case s9 =>
    refine step_val (v := (.pointer (some ⟨sb, so, none⟩))) (fun av wv hE hS hO hD => ?_) (fun _ => rfl)
    have d11 : av.eval (.tmp 11) = (.pointer (some ⟨sb, so, none⟩)) := hD.1 rfl _ rfl
    have f11 := (ev_form av 11).symm.trans d11
    refine ⟨rfl, ?_⟩
    simp [go_sem, f11]
  case s10 =>
    refine step_val (v := (.pointer (some ⟨sb, so + 5, none⟩))) (fun av wv hE hS hO hD => ?_) (fun _ => rfl)
    have d12 : av.eval (.tmp 12) = (.pointer (some ⟨sb, so, none⟩)) := hD.1 rfl _ rfl
    have f12 := (ev_form av 12).symm.trans d12
    refine ⟨rfl, ?_⟩
    simp [go_sem, f12]
  case s11 =>
    refine step_wp (fun av wv hE hS hO hD => ?_)
    have d13 : av.eval (.tmp 13) = (.pointer (some ⟨sb, so + 5, none⟩)) := hD.1 rfl _ rfl
    have f13 := (ev_form av 13).symm.trans d13
    refine ⟨rfl, ?_⟩
    refine wp_of_callP (f := 109) (args := #[.string ⟨#[108]⟩, .pointer (some ⟨sb, so + 5, none⟩)]) (by simp [go_sem, f13]) (HP2.out wv (of_drew hE)) (fun u w2 ⟨v, hu, hs, hb⟩ => ⟨u, rfl, es_of_ext hb, v, hu, hs⟩)
  case s12 =>
    refine step_val (v := (.pointer (some ⟨sb, so, none⟩))) (fun av wv hE hS hO hD => ?_) (fun _ => rfl)
    have h0 : av.eval (.tmp 0) = (.pointer (some ⟨sb, so, none⟩)) := hO.2.2 0 rfl
    have f0 := (ev_form av 0).symm.trans h0
    refine ⟨rfl, ?_⟩
    simp [go_sem, f0]
  case s13 =>
    refine step_val (v := (.pointer (some ⟨sb, so, none⟩))) (fun av wv hE hS hO hD => ?_) (fun _ => rfl)
    have d15 : av.eval (.tmp 15) = (.pointer (some ⟨sb, so, none⟩)) := hD.1 rfl _ rfl
    have f15 := (ev_form av 15).symm.trans d15
    refine ⟨rfl, ?_⟩
    simp [go_sem, f15]
  case s14 =>
    refine step_val (v := (.pointer (some ⟨sb, so + 2, none⟩))) (fun av wv hE hS hO hD => ?_) (fun _ => rfl)
    have d16 : av.eval (.tmp 16) = (.pointer (some ⟨sb, so, none⟩)) := hD.1 rfl _ rfl
    have f16 := (ev_form av 16).symm.trans d16
    refine ⟨rfl, ?_⟩
    simp [go_sem, f16]
  case s15 =>
    refine step_wp (fun av wv hE hS hO hD => ?_)
    have d17 : av.eval (.tmp 17) = (.pointer (some ⟨sb, so + 2, none⟩)) := hD.1 rfl _ rfl
    have f17 := (ev_form av 17).symm.trans d17
    refine ⟨rfl, ?_⟩
    refine wp_of_callP (f := 109) (args := #[.string ⟨#[110]⟩, .pointer (some ⟨sb, so + 2, none⟩)]) (by simp [go_sem, f17]) (HP3.out wv (of_drew hE)) (fun u w2 ⟨v, hu, hs, hb⟩ => ⟨u, rfl, es_of_ext hb, v, hu, hs⟩)
  case s16 =>
    refine step_val (v := (.pointer (some ⟨sb, so, none⟩))) (fun av wv hE hS hO hD => ?_) (fun _ => rfl)
    have h0 : av.eval (.tmp 0) = (.pointer (some ⟨sb, so, none⟩)) := hO.2.2 0 rfl
    have f0 := (ev_form av 0).symm.trans h0
    refine ⟨rfl, ?_⟩
    simp [go_sem, f0]
  case s17 =>
    refine step_val (v := (.pointer (some ⟨sb, so, none⟩))) (fun av wv hE hS hO hD => ?_) (fun _ => rfl)
    have d19 : av.eval (.tmp 19) = (.pointer (some ⟨sb, so, none⟩)) := hD.1 rfl _ rfl
    have f19 := (ev_form av 19).symm.trans d19
    refine ⟨rfl, ?_⟩
    simp [go_sem, f19]
  case s18 =>
    refine step_val (v := (.pointer (some ⟨sb, so + 1, none⟩))) (fun av wv hE hS hO hD => ?_) (fun _ => rfl)
    have d20 : av.eval (.tmp 20) = (.pointer (some ⟨sb, so, none⟩)) := hD.1 rfl _ rfl
    have f20 := (ev_form av 20).symm.trans d20
    refine ⟨rfl, ?_⟩
    simp [go_sem, f20]
  case s19 =>
    refine step_wp (fun av wv hE hS hO hD => ?_)
    have d21 : av.eval (.tmp 21) = (.pointer (some ⟨sb, so + 1, none⟩)) := hD.1 rfl _ rfl
    have f21 := (ev_form av 21).symm.trans d21
    refine ⟨rfl, ?_⟩
    refine wp_of_callP (f := 111) (args := #[.string ⟨#[118]⟩, .pointer (some ⟨sb, so + 1, none⟩)]) (by simp [go_sem, f21]) (HP4.out wv (of_drew hE)) (fun u w2 ⟨v, hu, hs, hb⟩ => ⟨u, rfl, es_of_ext hb, v, hu, hs⟩)
  case s20 =>
    refine step_val (v := (.pointer (some ⟨sb, so, none⟩))) (fun av wv hE hS hO hD => ?_) (fun _ => rfl)
    have h0 : av.eval (.tmp 0) = (.pointer (some ⟨sb, so, none⟩)) := hO.2.2 0 rfl
    have f0 := (ev_form av 0).symm.trans h0
    refine ⟨rfl, ?_⟩
    simp [go_sem, f0]
  case s21 =>
    refine step_val (v := (.pointer (some ⟨sb, so, none⟩))) (fun av wv hE hS hO hD => ?_) (fun _ => rfl)
    have d23 : av.eval (.tmp 23) = (.pointer (some ⟨sb, so, none⟩)) := hD.1 rfl _ rfl
    have f23 := (ev_form av 23).symm.trans d23
    refine ⟨rfl, ?_⟩
    simp [go_sem, f23]
  case s22 =>
    refine step_val (v := (.pointer (some ⟨sb, so + 3, none⟩))) (fun av wv hE hS hO hD => ?_) (fun _ => rfl)
    have d24 : av.eval (.tmp 24) = (.pointer (some ⟨sb, so, none⟩)) := hD.1 rfl _ rfl
    have f24 := (ev_form av 24).symm.trans d24
    refine ⟨rfl, ?_⟩
    simp [go_sem, f24]
  case s23 =>
    refine step_wp (fun av wv hE hS hO hD => ?_)
    have d25 : av.eval (.tmp 25) = (.pointer (some ⟨sb, so + 3, none⟩)) := hD.1 rfl _ rfl
    have f25 := (ev_form av 25).symm.trans d25
    refine ⟨rfl, ?_⟩
    refine wp_of_callP (f := 109) (args := #[.string ⟨#[119]⟩, .pointer (some ⟨sb, so + 3, none⟩)]) (by simp [go_sem, f25]) (HP5.out wv (of_drew hE)) (fun u w2 ⟨v, hu, hs, hb⟩ => ⟨u, rfl, es_of_ext hb, v, hu, hs⟩)
  intro a' w' hE hO hall
  have hA := act_of_outer (ds := [3, 4, 5, 6, 7, 8, 9, 10, 11, 12, 13, 14, 15, 16, 17, 18, 19, 20, 21, 22, 23, 24, 25, 26]) rfl hO (by kernel_rfl)
  have e3 : (fun u _ => u = (.pointer (some ⟨sb, so, none⟩))) (a'.eval (.tmp 3)) w' := hall.1 _ rfl
  have e4 : (fun u _ => u = (.pointer (some ⟨sb, so, none⟩))) (a'.eval (.tmp 4)) w' := hall.2.1 _ rfl
  have e5 : (fun u _ => u = (.pointer (some ⟨sb, so + 4, none⟩))) (a'.eval (.tmp 5)) w' := hall.2.2.1 _ rfl
  have e6 : (fun u w' => ∃ v : FVal, u = v.val ∧ P0 w' v) (a'.eval (.tmp 6)) w' := hall.2.2.2.1 _ rfl
  have e7 : (fun u _ => u = (.pointer (some ⟨sb, so, none⟩))) (a'.eval (.tmp 7)) w' := hall.2.2.2.2.1 _ rfl
  have e8 : (fun u _ => u = (.pointer (some ⟨sb, so, none⟩))) (a'.eval (.tmp 8)) w' := hall.2.2.2.2.2.1 _ rfl
  have e9 : (fun u _ => u = (.pointer (some ⟨sb, so, none⟩))) (a'.eval (.tmp 9)) w' := hall.2.2.2.2.2.2.1 _ rfl
  have e10 : (fun u w' => ∃ v : FVal, u = v.val ∧ P1 w' v) (a'.eval (.tmp 10)) w' := hall.2.2.2.2.2.2.2.1 _ rfl
  have e11 : (fun u _ => u = (.pointer (some ⟨sb, so, none⟩))) (a'.eval (.tmp 11)) w' := hall.2.2.2.2.2.2.2.2.1 _ rfl
  have e12 : (fun u _ => u = (.pointer (some ⟨sb, so, none⟩))) (a'.eval (.tmp 12)) w' := hall.2.2.2.2.2.2.2.2.2.1 _ rfl
  have e13 : (fun u _ => u = (.pointer (some ⟨sb, so + 5, none⟩))) (a'.eval (.tmp 13)) w' := hall.2.2.2.2.2.2.2.2.2.2.1 _ rfl
  have e14 : (fun u w' => ∃ v : FVal, u = v.val ∧ P2 w' v) (a'.eval (.tmp 14)) w' := hall.2.2.2.2.2.2.2.2.2.2.2.1 _ rfl
  have e15 : (fun u _ => u = (.pointer (some ⟨sb, so, none⟩))) (a'.eval (.tmp 15)) w' := hall.2.2.2.2.2.2.2.2.2.2.2.2.1 _ rfl
  have e16 : (fun u _ => u = (.pointer (some ⟨sb, so, none⟩))) (a'.eval (.tmp 16)) w' := hall.2.2.2.2.2.2.2.2.2.2.2.2.2.1 _ rfl
  have e17 : (fun u _ => u = (.pointer (some ⟨sb, so + 2, none⟩))) (a'.eval (.tmp 17)) w' := hall.2.2.2.2.2.2.2.2.2.2.2.2.2.2.1 _ rfl
  have e18 : (fun u w' => ∃ v : FVal, u = v.val ∧ P3 w' v) (a'.eval (.tmp 18)) w' := hall.2.2.2.2.2.2.2.2.2.2.2.2.2.2.2.1 _ rfl
  have e19 : (fun u _ => u = (.pointer (some ⟨sb, so, none⟩))) (a'.eval (.tmp 19)) w' := hall.2.2.2.2.2.2.2.2.2.2.2.2.2.2.2.2.1 _ rfl
  have e20 : (fun u _ => u = (.pointer (some ⟨sb, so, none⟩))) (a'.eval (.tmp 20)) w' := hall.2.2.2.2.2.2.2.2.2.2.2.2.2.2.2.2.2.1 _ rfl
  have e21 : (fun u _ => u = (.pointer (some ⟨sb, so + 1, none⟩))) (a'.eval (.tmp 21)) w' := hall.2.2.2.2.2.2.2.2.2.2.2.2.2.2.2.2.2.2.1 _ rfl
  have e22 : (fun u w' => ∃ v : FVal, u = v.val ∧ P4 w' v) (a'.eval (.tmp 22)) w' := hall.2.2.2.2.2.2.2.2.2.2.2.2.2.2.2.2.2.2.2.1 _ rfl
  have e23 : (fun u _ => u = (.pointer (some ⟨sb, so, none⟩))) (a'.eval (.tmp 23)) w' := hall.2.2.2.2.2.2.2.2.2.2.2.2.2.2.2.2.2.2.2.2.1 _ rfl
  have e24 : (fun u _ => u = (.pointer (some ⟨sb, so, none⟩))) (a'.eval (.tmp 24)) w' := hall.2.2.2.2.2.2.2.2.2.2.2.2.2.2.2.2.2.2.2.2.2.1 _ rfl
  have e25 : (fun u _ => u = (.pointer (some ⟨sb, so + 3, none⟩))) (a'.eval (.tmp 25)) w' := hall.2.2.2.2.2.2.2.2.2.2.2.2.2.2.2.2.2.2.2.2.2.2.1 _ rfl
  have e26 : (fun u w' => ∃ v : FVal, u = v.val ∧ P5 w' v) (a'.eval (.tmp 26)) w' := hall.2.2.2.2.2.2.2.2.2.2.2.2.2.2.2.2.2.2.2.2.2.2.2.1 _ rfl
  obtain ⟨v6, hv6⟩ : ∃ v, a'.eval (.tmp 6) = v := ⟨_, rfl⟩
  rw [hv6] at e6
  obtain ⟨v10, hv10⟩ : ∃ v, a'.eval (.tmp 10) = v := ⟨_, rfl⟩
  rw [hv10] at e10
  obtain ⟨v14, hv14⟩ : ∃ v, a'.eval (.tmp 14) = v := ⟨_, rfl⟩
  rw [hv14] at e14
  obtain ⟨v18, hv18⟩ : ∃ v, a'.eval (.tmp 18) = v := ⟨_, rfl⟩
  rw [hv18] at e18
  obtain ⟨v22, hv22⟩ : ∃ v, a'.eval (.tmp 22) = v := ⟨_, rfl⟩
  rw [hv22] at e22
  obtain ⟨v26, hv26⟩ : ∃ v, a'.eval (.tmp 26) = v := ⟨_, rfl⟩
  rw [hv26] at e26
  simp only [List.foldl_cons, List.foldl_nil, Act.put, List.setIfInBounds_toArray, List.set_cons_succ, List.set_cons_zero, e3, e4, e5, hv6, e7, e8, e9, hv10, e11, e12, e13, hv14, e15, e16, e17, hv18, e19, e20, e21, hv22, e23, e24, e25, hv26] at hA
  clear hO hall e3 e4 e5 hv6 e7 e8 e9 hv10 e11 e12 e13 hv14 e15 e16 e17 hv18 e19 e20 e21 hv22 e23 e24 e25 hv26
  subst hA
  obtain ⟨x0, rfl, s0⟩ := e6
  obtain ⟨x1, rfl, s1⟩ := e10
  obtain ⟨x2, rfl, s2⟩ := e14
  obtain ⟨x3, rfl, s3⟩ := e18
  obtain ⟨x4, rfl, s4⟩ := e22
  obtain ⟨x5, rfl, s5⟩ := e26
  have HSS : Hid (∀ o, RowMsg P0 P1 P2 P3 P4 P5 (w'.alloc o) [x0, x1, x2, x3, x4, x5]) := Lib.hid (fun o => ⟨x0, x1, x2, x3, x4, x5, rfl, hP0 _ _ _ (balloc (Below.refl _ _) _) s0, hP1 _ _ _ (balloc (Below.refl _ _) _) s1, hP2 _ _ _ (balloc (Below.refl _ _) _) s2, hP3 _ _ _ (balloc (Below.refl _ _) _) s3, hP4 _ _ _ (balloc (Below.refl _ _) _) s4, hP5 _ _ _ (balloc (Below.refl _ _) _) s5⟩)
  have HBW : Hid (Below w.heap.size w w') := Lib.hid (of_drew hE)
  clear s0 s1 s2 s3 s4 s5 hE
  unfold FVal.val
  go_wp2
  go_ret
  exact ⟨_, rfl, ⟨w'.heap.size, 6, [x0, x1, x2, x3, x4, x5], rfl, Nat.le_refl _, ⟨Flds.block (l := [x0, x1, x2, x3, x4, x5]) (heap_alloc_new w' _), _, heap_alloc_new w' _⟩, HSS.out _⟩, bnext HBW.out (balloc (Below.refl _ _) _)⟩
end Go.Proofs.YtihiaopilnjonaaGreatDoor
namespace Go.Proofs.YtihiaopilnjonaaGreatDoor
open Go.RowKit
set_option linter.unusedSimpArgs false
set_option linter.unusedVariables false
structure TEnv (B qb rb tb n : Nat) (T : TypeId) (w : World) : Prop where
  rd : ∃ cs, w.heap[rb]? = some (.cells cs 275 (0, 0))
  th : ∃ cs, w.heap[tb]? = some (.cells cs T (0, 0))
  ne : tb ≠ rb
  nq : qb ≠ tb
  le : B ≤ tb
  t8 : T ≠ 5
  tf : T ≠ 172
theorem TEnv.below {B qb rb tb n : Nat} {T : TypeId} {w w' : World} (h : TEnv B qb rb tb n T w) (hb : Below w.heap.size w w') : TEnv B qb rb tb n T w' := by
  obtain ⟨cs, h1⟩ := h.rd
  obtain ⟨ct, h2⟩ := h.th
  exact ⟨⟨cs, (hb.block _ (lt_of_block h1)).trans h1⟩, ⟨ct, (hb.block _ (lt_of_block h2)).trans h2⟩, h.ne, h.nq, h.le, h.t8, h.tf⟩
theorem TEnv.rlt {B qb rb tb n : Nat} {T : TypeId} {w : World} (h : TEnv B qb rb tb n T w) : rb < w.heap.size := by obtain ⟨cs, h1⟩ := h.rd; exact lt_of_block h1
theorem TEnv.tlt {B qb rb tb n : Nat} {T : TypeId} {w : World} (h : TEnv B qb rb tb n T w) : tb < w.heap.size := by obtain ⟨cs, h1⟩ := h.th; exact lt_of_block h1
theorem TEnv.apart {B qb rb tb n : Nat} {T : TypeId} {w : World} (h : TEnv B qb rb tb n T w) {g : Nat} (hg : ∃ cs, w.heap[g]? = some (.cells cs 172 (0, 0))) : g ≠ rb ∧ g ≠ tb := by
  obtain ⟨cs, h1⟩ := h.rd
  obtain ⟨ct, h2⟩ := h.th
  obtain ⟨cg, h3⟩ := hg
  refine ⟨fun e => ?_, fun e => ?_⟩
  · subst e; rw [h1] at h3; cases h3
  · subst e; rw [h2] at h3; cases h3; exact h.tf rfl
theorem RecAt.cellAt {B rb tb : Nat} {T : TypeId} {n : Nat} {w : World} {x : Rcd} (h : RecAt rb tb T n w x) (hT : T ≠ 5) {o : Nat} (ho : o < n) : ∃ v, CellAt B w tb o v ∧ HoldsD rb tb w v (x o) := by
  obtain ⟨cs, h1, h2, h3⟩ := h
  obtain ⟨v, h4, h5⟩ := h3 o ho
  exact ⟨v, cellAt_new h1 hT h4, h5⟩
theorem Kd.strs {x0 x : Rcd} (h : Kd x0 x) {o : Nat} (h0 : kindD (x0 o) = 3) : ∃ n, x o = .strs n := by
  have := (h o).trans h0
  cases hx : x o <;> rw [hx] at this <;> first | exact ⟨_, rfl⟩ | cases this
theorem Kd.nums {x0 x : Rcd} (h : Kd x0 x) {o : Nat} (h0 : kindD (x0 o) = 4) : ∃ n, x o = .nums n := by
  have := (h o).trans h0
  cases hx : x o <;> rw [hx] at this <;> first | exact ⟨_, rfl⟩ | cases this
theorem Kd.revs {x0 x : Rcd} (h : Kd x0 x) {o : Nat} (h0 : kindD (x0 o) = 5) : ∃ n, x o = .revs n := by
  have := (h o).trans h0
  cases hx : x o <;> rw [hx] at this <;> first | exact ⟨_, rfl⟩ | cases this
section
variable {B qb rb tb n : Nat} {T : TypeId} {w : World} {x0 : Rcd} {s : ByteArray}
theorem gsem_num {lo : Nat} {key : ByteArray} {o : Nat} {v : FVal} (E : TEnv B qb rb tb n T w) (h : NumS w lo key tb o v) (hr : rb < lo) (ht : tb < lo) (ho : o < n) (h0 : kindD (x0 o) = 0) : GSem B qb rb tb x0 T n s w v (gnum s key o) := by
  obtain ⟨bx, hlo, hb, rfl⟩ := h
  have hbk : ∀ w', Chg rb tb w w' → w'.heap[bx]? = some (.cells #[.pointer (some ⟨tb, o, none⟩)] 177 (0, 0)) := fun w' hc => (hc.block bx (lt_of_block hb) (by omega) (by omega)).trans hb
  refine ⟨rfl, rfl, enters_of Tryz.func183 (by kernel_rfl) rfl, enters_of Tryz.func186 (by kernel_rfl) rfl, fun w' x hc hx hk => ?_, fun w' x a hc hx he hf hk => num3_any B qb rb tb o bx T n s key a x w' (hbk w' hc) (by omega) E.ne ho hx he⟩
  obtain ⟨m, hm⟩ := hk.num h0
  obtain ⟨u, hu, hv⟩ := hx.cellAt (B := B) E.t8 ho
  rw [hm] at hv
  obtain rfl : u = .int .u64 m := hv
  show Calls Tryz.prog _ _ _ fun e w'' => e = .returned (.bool (zeroD (x o))) ∧ Below w'.heap.size w' w''
  rw [hm]
  exact num1_any B bx tb o m w' (cellAt_new (hbk w' hc) (by decide) rfl) hu
theorem gsem_flag {lo : Nat} {key : ByteArray} {o : Nat} {v : FVal} (E : TEnv B qb rb tb n T w) (h : FlagS w lo key tb o v) (hr : rb < lo) (ht : tb < lo) (ho : o < n) (h0 : kindD (x0 o) = 1) : GSem B qb rb tb x0 T n s w v (gflag s key o) := by
  obtain ⟨bx, hlo, hb, rfl⟩ := h
  have hbk : ∀ w', Chg rb tb w w' → w'.heap[bx]? = some (.cells #[.pointer (some ⟨tb, o, none⟩)] 179 (0, 0)) := fun w' hc => (hc.block bx (lt_of_block hb) (by omega) (by omega)).trans hb
  refine ⟨rfl, rfl, enters_of Tryz.func187 (by kernel_rfl) rfl, enters_of Tryz.func189 (by kernel_rfl) rfl, fun w' x hc hx hk => ?_, fun w' x a hc hx he hf hk => flag3_any B qb rb tb o bx T n s key a x w' (hbk w' hc) (by omega) E.ne ho hx he⟩
  obtain ⟨m, hm⟩ := hk.flag h0
  obtain ⟨u, hu, hv⟩ := hx.cellAt (B := B) E.t8 ho
  rw [hm] at hv
  obtain rfl : u = .bool m := hv
  show Calls Tryz.prog _ _ _ fun e w'' => e = .returned (.bool (zeroD (x o))) ∧ Below w'.heap.size w' w''
  rw [hm]
  exact flag1_any B bx tb o m w' (cellAt_new (hbk w' hc) (by decide) rfl) hu
theorem gsem_dig {lo : Nat} {key : ByteArray} {o : Nat} {v : FVal} (E : TEnv B qb rb tb n T w) (h : DigS w lo key tb o v) (hr : rb < lo) (ht : tb < lo) (ho : o < n) : GSem B qb rb tb x0 T n s w v (gdig s key o) := by
  obtain ⟨bx, hlo, hb, rfl⟩ := h
  have hbk : ∀ w', Chg rb tb w w' → w'.heap[bx]? = some (.cells #[.pointer (some ⟨tb, o, none⟩)] 181 (0, 0)) := fun w' hc => (hc.block bx (lt_of_block hb) (by omega) (by omega)).trans hb
  exact ⟨rfl, rfl, enters_of Tryz.func190 (by kernel_rfl) rfl, enters_of Tryz.func194 (by kernel_rfl) rfl, fun w' x hc hx hk => digest1_any w', fun w' x a hc hx he hf hk => digest4_any B qb rb tb o bx T n s key a x w' (hbk w' hc) (by omega) E.ne ho hx he⟩
end
theorem gsem_manys {B qb rb tb n : Nat} {T : TypeId} {w : World} {x0 : Rcd} {s : ByteArray} {lo : Nat} {key : ByteArray} {o most : Nat} {v : FVal} {rd : Nat → Except Flt (ByteArray × Nat)} (E : TEnv B qb rb tb n T w) (h : ManySS w lo key tb o most v) (hr : rb < lo) (ht : tb < lo) (ho : o < n) (hm : most ≤ 10240) (h0 : x0 o = .strs [])
    (hget : ∀ w' xb a', Chg rb tb w w' → w.heap.size ≤ xb → w'.heap[xb]? = some (.cells #[.string ⟨#[]⟩] 9 (0, 0)) → RdEnv B w' qb rb s a' → Calls Tryz.prog 213 #[.pointer (some ⟨qb, 0, none⟩), .pointer (some ⟨xb, 0, none⟩)] w' (ElIs (rd a') (fun y _ c => c = #[.string y]) rb xb 9 s w')) : GSem B qb rb tb x0 T n s w v (gmany s key o most .strs rd) := by
  obtain ⟨bx, hlo, hb, rfl⟩ := h
  have hch : ∀ w' b y, Chg rb tb w w' → bx ≤ b → w.heap[b]? = some y → w'.heap[b]? = some y := fun w' b y hc hle hy => (hc.block b (lt_of_block hy) (by omega) (by omega)).trans hy
  refine ⟨rfl, rfl, enters_of Tryz.func247 (by kernel_rfl) rfl, enters_of Tryz.func252 (by kernel_rfl) rfl, fun w' x hc hx hk => ?_, fun w' x a hc hx he hf hk => ?_⟩
  · obtain ⟨m, hm⟩ := hk.strs (show kindD (x0 o) = _ by rw [h0]; rfl)
    obtain ⟨u, hu, hv⟩ := hx.cellAt (B := B) E.t8 ho
    rw [hm] at hv
    obtain ⟨za, zc, rfl, -⟩ := hv
    show Calls Tryz.prog _ _ _ fun e w'' => e = .returned (.bool (zeroD (x o))) ∧ Below w'.heap.size w' w''
    rw [hm]
    refine (many1_any B bx tb o (len m) zc za w' (cellAt_new (hch w' _ _ hc (Nat.le_refl _) hb.b0) (by decide) rfl) hu).mono fun e w'' ⟨h1, h2⟩ => ⟨h1.trans ?_, h2⟩
    congr 2
  · have hx1 : x o = .strs [] := (hf o (by simp [gmany])).trans h0
    exact many4s_any B qb rb tb o bx (bx + 1) (bx + 1 + 1 + 1 + 1) 213 most #[] x0 T n s key a x w' rd (hch w' _ _ hc (Nat.le_refl _) hb.b0) (hch w' _ _ hc (by omega) hb.b1) ⟨_, hch w' _ _ hc (by omega) hb.b4⟩ ⟨by omega, by omega⟩ ⟨by omega, by omega⟩ E.ne E.nq E.le ho hm (enters_of Tryz.func213 (by kernel_rfl) rfl)
      (fun w2 xb a' hc2 hxb hx2 he2 => hget w2 xb a' (hc.trans hc2) (Nat.le_trans hc.size hxb) hx2 he2) hx hx1 he
set_option maxRecDepth 100000 in
theorem says_gfull {B qb rb tb n : Nat} {T : TypeId} {W0 w : World} {x0 : Rcd} {s : ByteArray} {l : List FVal} {gs : List GSpec} {x : Rcd} (h : GSems B qb rb tb x0 T n s W0 l gs) (hc : Chg rb tb W0 w) (hx : RecAt rb tb T n w x) (hk : Kd x0 x) : SaysF w l 179 #[] (fun i => !(gth gs i).empty x) := by
  refine ⟨enters_of Tryz.func179 (by kernel_rfl) rfl, fun i hi w' hb => ?_⟩
  show Calls Tryz.prog 179 (#[(fth l i).val] ++ #[]) w' (fun e w'' => e = .returned (.bool (!(gth gs i).empty x)) ∧ Below w'.heap.size w' w'')
  have hs := h.2 i hi
  generalize fth l i = v at hs
  generalize gth gs i = f at hs
  have ee := hs.ee
  have HM : Hid (∀ u, Below w'.heap.size w' u → Calls Tryz.prog v.ef v.ec u fun e w' => e = .returned (.bool (f.empty x)) ∧ Below u.heap.size u w') := Lib.hid (fun u hu => hs.empty u x ((hc.next hb).next hu) ((hx.below hb).below hu) hk)
  clear hs
  show Calls Tryz.prog 179 #[v.val] w' _
  unfold FVal.val
  go_enter Tryz.func179, Tryz.ntmps179
  go_wp2_with fail
  refine (HM.out _ (balloc (Below.refl _ _) _)).mono ?_
  rintro e w1 ⟨rfl, hb1⟩
  have HB1 : Hid (Below w'.heap.size w' w1) := Lib.hid (bnext (balloc (Below.refl _ _) _) hb1)
  clear hb1
  go_wp2
  go_ret
  exact ⟨rfl, HB1.out⟩
theorem gAll_iff (gs : List GSpec) (x : Rcd) : ((gs.all fun g => g.empty x) = false ↔ ∃ i, i < gs.length ∧ (!(gth gs i).empty x) = true) := by
  rw [List.all_eq_false]
  constructor
  · rintro ⟨y, hx, hm⟩
    obtain ⟨i, hi, rfl⟩ := List.getElem_of_mem hx
    exact ⟨i, hi, by rw [gth_eq gs i hi]; simpa using hm⟩
  · rintro ⟨i, hi, hm⟩
    exact ⟨gs[i], List.getElem_mem _, by rw [gth_eq gs i hi] at hm; simpa using hm⟩
set_option maxRecDepth 100000 in
theorem gobj2_any {B qb rb tb n : Nat} {T : TypeId} {W0 : World} {x0 : Rcd} {s : ByteArray} (bx g c : Nat) (l : List FVal) (gs : List GSpec) (x : Rcd) (w : World) (h1 : w.heap[bx]? = some (.cells #[.slice (some ⟨g, 0, none⟩) (len l) c] 113 (0, 0))) (hl : Flds w (some ⟨g, 0, none⟩) l) (hn : len l ≤ 1000) (hS : GSems B qb rb tb x0 T n s W0 l gs) (hc : Chg rb tb W0 w) (hx : RecAt rb tb T n w x) (hk : Kd x0 x) :
    Calls Tryz.prog 178 #[.pointer (some ⟨bx, 0, none⟩)] w fun e w' => e = .returned (.bool (gs.all fun g => g.empty x)) ∧ Below w.heap.size w w' := by
  have c1 : w.cell? ⟨bx, 0, none⟩ = some (.slice (some ⟨g, 0, none⟩) (len l) c) := block_cell h1 0
  have H := Lib.hid (containsf_any (some ⟨g, 0, none⟩) c l 179 #[] _ w hl hn (says_gfull hS hc hx hk))
  have HI := Lib.hid (gAll_iff gs x)
  have HL : Hid (gs.length = len l) := Lib.hid hS.1
  clear h1 hl hS hc hx
  go_enter Tryz.func178, Tryz.ntmps178
  go_wp2_with fail
  refine H.out.mono ?_
  rintro e w1 ⟨b, rfl, hb1, hb⟩
  have HB := Lib.hid hb
  have HE : Hid ((!b) = (gs.all fun g => g.empty x)) := Lib.hid (by
    have h := HI.out
    rw [HL.out] at h
    cases b with
    | true => rw [h.2 (hb1.1 rfl)]; rfl
    | false =>
      cases hm : (gs.all fun g => g.empty x) with
      | true => rfl
      | false => exact absurd (hb1.2 (h.1 hm)) (by decide))
  clear hb hb1
  go_wp2
  go_ret
  exact ⟨ret_bool HE.out, HB.out⟩
set_option maxRecDepth 100000 in
theorem gobj5_any {qb rb tb n : Nat} {T : TypeId} {s : ByteArray} (bx g c : Nat) (key : ByteArray) (l : List FVal) (gs : List GSpec) (x : Rcd) (a : Nat) (w : World) (h1 : w.heap[bx]? = some (.cells #[.slice (some ⟨g, 0, none⟩) (len l) c] 113 (0, 0)))
    (H : Calls Tryz.prog 123 #[.pointer (some ⟨qb, 0, none⟩), .slice (some ⟨g, 0, none⟩) (len l) c] w (GetIs (objR s gs x a) rb tb T n s w)) :
    Calls Tryz.prog 182 #[.pointer (some ⟨qb, 0, none⟩), .pointer (some ⟨bx, 0, none⟩)] w (GetIs ((gobj s key gs).read x a) rb tb T n s w) := by
  have c1 : w.cell? ⟨bx, 0, none⟩ = some (.slice (some ⟨g, 0, none⟩) (len l) c) := block_cell h1 0
  have H := Lib.hid H
  clear h1
  go_enter Tryz.func182, Tryz.ntmps182
  go_wp2_with fail
  refine H.out.mono ?_
  intro e w1 hh
  show _
  cases hr : objR s gs x a with
  | error f =>
    rw [hr] at hh
    have HTH := Lib.hid (getIs_th hh)
    obtain ⟨fb, rfl, hf, hc⟩ := getIs_err hh
    have HF := Lib.hid hf
    have HC := Lib.hid hc
    have HR : Hid ((gobj s key gs).read x a = .error f) := Lib.hid hr
    clear hh hf hc hr
    go_wp2
    refine ⟨rfl, ?_⟩
    rw [HR.out]
    exact ⟨HC.out, fb, rfl, HF.out, HTH.out⟩
  | ok q =>
    rw [hr] at hh
    obtain ⟨rfl, h2, h3, h4, h5⟩ := getIs_ok hh
    have H2 := Lib.hid h2
    have H4 := Lib.hid h4
    have H5 := Lib.hid h5
    have HR : Hid ((gobj s key gs).read x a = .ok q) := Lib.hid hr
    clear hh h2 h4 h5 hr
    go_wp2
    go_end0
    rw [HR.out]
    exact ⟨H5.out, rfl, H2.out, h3, H4.out⟩
theorem FRow.chg {rb tb g : Nat} {w w' : World} {l : List FVal} (h : FRow w g l) (hc : Chg rb tb w w') (h1 : g ≠ rb) (h2 : g ≠ tb) : FRow w' g l := by
  obtain ⟨hf, cur, hg⟩ := h
  have h3 := hc.block g (lt_of_block hg) h1 h2
  exact ⟨flds_keep hf h3, cur, h3.trans hg⟩
structure GOk (x0 : Rcd) (gs : List GSpec) : Prop where
  keys : KeysOk gs
  disj : Disj gs
  frames : ∀ g ∈ gs, g.Frames
  kinds : ∀ g ∈ gs, g.Kinds x0
theorem gsem_obj {B qb rb tb n : Nat} {T : TypeId} {w : World} {x0 : Rcd} {s : ByteArray} {lo : Nat} {key : ByteArray} {g c : Nat} {l : List FVal} {gs : List GSpec} {v : FVal} (E : TEnv B qb rb tb n T w) (h : ObjS w lo key (l.any fun v => v.must) g (len l) c v) (hr : rb < lo) (ht : tb < lo) (hF : FRow w g l) (hc0 : len l ≤ c) (hn : len l ≤ 1000) (hS : GSems B qb rb tb x0 T n s w l gs) (hG : GOk x0 gs) : GSem B qb rb tb x0 T n s w v (gobj s key gs) := by
  obtain ⟨bx, hlo, hb, rfl⟩ := h
  have hg := E.apart hF.ex
  have hl : gs.length = l.length := hS.1
  have hbk : ∀ w', Chg rb tb w w' → w'.heap[bx]? = some (.cells #[.slice (some ⟨g, 0, none⟩) (len l) c] 113 (0, 0)) := fun w' hc => (hc.block bx (lt_of_block hb) (by omega) (by omega)).trans hb
  refine ⟨rfl, ?_, enters_of Tryz.func178 (by kernel_rfl) rfl, enters_of Tryz.func182 (by kernel_rfl) rfl, fun w' x hc hx hk => gobj2_any bx g c l gs x w' (hbk w' hc) (hF.chg hc hg.1 hg.2).flds hn hS hc hx hk, fun w' x a hc hx he hf hk => gobj5_any bx g c key l gs x a w' (hbk w' hc) ?_⟩
  · show (l.any fun v => v.must) = gs.any fun g => g.must
    rw [Bool.eq_iff_iff, List.any_eq_true, List.any_eq_true]
    constructor
    · rintro ⟨y, hy, hm⟩
      obtain ⟨i, hi, rfl⟩ := List.getElem_of_mem hy
      have hi2 : i < gs.length := by omega
      have := (hS.2 i hi).must
      rw [fth_eq l i hi, gth_eq gs i hi2] at this
      exact ⟨gs[i], List.getElem_mem _, by rw [← this]; exact hm⟩
    · rintro ⟨y, hy, hm⟩
      obtain ⟨i, hi, rfl⟩ := List.getElem_of_mem hy
      have hi2 : i < l.length := by omega
      have := (hS.2 i hi2).must
      rw [fth_eq l i hi2, gth_eq gs i hi] at this
      exact ⟨l[i], List.getElem_mem _, by rw [this]; exact hm⟩
  · refine robject_any B qb rb tb g 0 c x0 T n s w w' l gs a x (hF.chg hc hg.1 hg.2).flds hc0 hn hS hc hg E.nq E.le E.ne hG.keys hG.disj hG.frames hG.kinds hk hx he (fun i hi o ho => hf o ?_)
    show o ∈ gs.flatMap fun g => g.offs
    exact List.mem_flatMap.2 ⟨gth gs i, by rw [gth_eq gs i hi]; exact List.getElem_mem _, ho⟩
end Go.Proofs.YtihiaopilnjonaaGreatDoor
namespace Go.Proofs.YtihiaopilnjonaaGreatDoor
open Go.RowKit
set_option linter.unusedSimpArgs false
set_option linter.unusedVariables false
def RowIn (B : Nat) (specs : List FSpec) (u : Value) (w : World) : Prop := ∃ g c, ∃ l : List FVal, u = .slice (some ⟨g, 0, none⟩) (len l) c ∧ FRow w g l ∧ B ≤ w.heap.size ∧ FSems B w l specs
theorem RowIn.below {B : Nat} {specs : List FSpec} {u : Value} {w w' : World} (h : RowIn B specs u w) (hb : Below w.heap.size w w') : RowIn B specs u w' := by
  obtain ⟨g, c, l, hu, hF, hB, hS⟩ := h
  exact ⟨g, c, l, hu, hF.below hb, Nat.le_trans hB hb.size, hS.later (Keep8.of_below hb hB)⟩
theorem rowIn_of {B : Nat} {specs : List FSpec} {w w' : World} {e : Ending} (hB : B ≤ w.heap.size) (h : RowOf B specs w e w') : ∃ u, e = .returned u ∧ RowIn B specs u w' ∧ Below w.heap.size w w' := by
  obtain ⟨g, c, l, he, hF, hS, hb⟩ := h
  exact ⟨_, he, ⟨g, c, l, rfl, hF, Nat.le_trans hB hb.size, hS⟩, hb⟩
structure SlotAt (B : Nat) (w : World) (b o : Nat) (L : Int) (q : Bool) (idx : Int) (wots path : List ByteArray) : Prop where
  c0 : CellAt B w b o (.int .u64 L)
  c1 : CellAt B w b (o + 1) (.bool q)
  c2 : SigAt B w b (o + 2) idx wots path
theorem SlotAt.below {B : Nat} {w w' : World} {b o : Nat} {L : Int} {q : Bool} {idx : Int} {wots path : List ByteArray} (h : SlotAt B w b o L q idx wots path) (hb : Below w.heap.size w w') : SlotAt B w' b o L q idx wots path := ⟨h.c0.below hb, h.c1.below hb, h.c2.below hb⟩
def slotSpecs (L : Int) (q : Bool) (idx : Int) (wots path : List ByteArray) : List FSpec :=
  [objSpec ⟨#[103]⟩ (sigSpecs idx wots path), ⟨⟨#[108]⟩, false, L == 0, true, numP L⟩, ⟨⟨#[115]⟩, false, !q, true, numP 1⟩]
set_option maxRecDepth 100000 in
set_option maxHeartbeats 4000000 in
theorem ofslot_any (B sb so : Nat) (L : Int) (q : Bool) (idx : Int) (wots path : List ByteArray) (w : World) (hB : B ≤ w.heap.size) (h : SlotAt B w sb so L q idx wots path) (h0 : 0 ≤ idx) (h1 : idx ≤ 18446744073709551615) (hL0 : 0 ≤ L) (hL1 : L ≤ 18446744073709551615) (hw : len wots ≤ 100000) (hp : len path ≤ 100000) :
    Calls Tryz.prog 61 #[.pointer (some ⟨sb, so, none⟩)] w (RowOf B (slotSpecs L q idx wots path) w) := by
  obtain ⟨S3, hS3⟩ : ∃ S3, sigSpecs idx wots path = S3 := ⟨_, rfl⟩
  obtain ⟨S0, hS0⟩ : ∃ S0 : FSpec, objSpec ⟨#[103]⟩ S3 = S0 := ⟨_, rfl⟩
  obtain ⟨S1, hS1⟩ : ∃ S1 : FSpec, (⟨⟨#[108]⟩, false, L == 0, true, numP L⟩ : FSpec) = S1 := ⟨_, rfl⟩
  obtain ⟨S2, hS2⟩ : ∃ S2 : FSpec, (⟨⟨#[115]⟩, false, !q, true, numP 1⟩ : FSpec) = S2 := ⟨_, rfl⟩
  have HSP : Hid (slotSpecs L q idx wots path = [S0, S1, S2]) := Lib.hid (by unfold slotSpecs; rw [hS3, hS0, hS1, hS2])
  have HL3 : Hid (len S3 = 3) := Lib.hid (by rw [← hS3]; rfl)
  have HSG : Hid (∀ w', Below w.heap.size w w' → Calls Tryz.prog 108 #[.pointer (some ⟨sb, so + 2, none⟩)] w' (fun e w'' => ∃ u, e = .returned u ∧ RowIn B S3 u w'' ∧ Below w'.heap.size w' w'')) := Lib.hid (fun w' hb => by
    rw [← hS3]
    exact (ofsig_any B sb (so + 2) idx wots path w' (Nat.le_trans hB hb.size) (h.c2.below hb) h0 h1 hw hp).mono (fun e w'' hh => rowIn_of (Nat.le_trans hB hb.size) hh))
  have HOB : Hid (∀ w' g c, ∀ l : List FVal, FRow w' g l → len l = 3 → FSems B w' l S3 → B ≤ w'.heap.size → Calls Tryz.prog 107 #[.string ⟨#[103]⟩, .slice (some ⟨g, 0, none⟩) (len l) c] w' (MadeF B S0 w')) := Lib.hid (fun w' g c l hF hl hS hB' => by
    rw [← hS0]
    exact (fobject_any B ⟨#[103]⟩ g c w' l S3 w' (by decide) hF (by omega) (by omega) hS (Keep8.refl hB')).mono (fun e w'' hh => madeF hB' hh))
  have HS1 : Hid (∀ w', Below w.heap.size w w' → Calls Tryz.prog 109 #[.string ⟨#[108]⟩, .pointer (some ⟨sb, so, none⟩)] w' (MadeF B S1 w')) := Lib.hid (fun w' hb => by
    rw [← hS1]
    exact (fnum_any B ⟨#[108]⟩ sb so L w' (by decide) (Nat.le_trans hB hb.size) (h.c0.below hb) hL0 hL1).mono (fun e w'' hh => madeF (Nat.le_trans hB hb.size) hh))
  have HS2 : Hid (∀ w', Below w.heap.size w w' → Calls Tryz.prog 110 #[.string ⟨#[115]⟩, .pointer (some ⟨sb, so + 1, none⟩)] w' (MadeF B S2 w')) := Lib.hid (fun w' hb => by
    rw [← hS2]
    exact (fflag_any B ⟨#[115]⟩ sb (so + 1) q w' (by decide) (Nat.le_trans hB hb.size) (h.c1.below hb)).mono (fun e w'' hh => madeF (Nat.le_trans hB hb.size) hh))
  clear h hS3 hS0 hS1 hS2
  go_enter Tryz.func61, Tryz.ntmps61
  go_upto_region 1 with fail
  refine wp_region_tail 13 1000 (none) (phis [fun u _ => u = (.pointer (some ⟨sb, so, none⟩)), fun u _ => u = (.pointer (some ⟨sb, so, none⟩)), fun u _ => u = (.pointer (some ⟨sb, so + 2, none⟩)), fun u w' => RowIn B S3 u w', fun u w' => ∃ v : FVal, u = v.val ∧ FIn B w' v S0, fun u _ => u = (.pointer (some ⟨sb, so, none⟩)), fun u _ => u = (.pointer (some ⟨sb, so, none⟩)), fun u _ => u = (.pointer (some ⟨sb, so, none⟩)), fun u w' => ∃ v : FVal, u = v.val ∧ FIn B w' v S1, fun u _ => u = (.pointer (some ⟨sb, so, none⟩)), fun u _ => u = (.pointer (some ⟨sb, so, none⟩)), fun u _ => u = (.pointer (some ⟨sb, so + 1, none⟩)), fun u w' => ∃ v : FVal, u = v.val ∧ FIn B w' v S2]) rfl (by kernel_rfl) (by kernel_rfl) (mono_of ⟨mono_eq, mono_eq, mono_eq, ?m3, ?m4, mono_eq, mono_eq, mono_eq, ?m8, mono_eq, mono_eq, mono_eq, ?m12, trivial⟩) (steps_of 13 ⟨?s0, ?s1, ?s2, ?s3, ?s4, ?s5, ?s6, ?s7, ?s8, ?s9, ?s10, ?s11, ?s12, trivial⟩) ?_
  case m3 =>
    exact ⟨fun u w1 w2 h h1 => h1.below h, fun _ u w1 w2 h h1 => h1.below (extB_none h)⟩
  case m4 =>
    exact ⟨fun u w1 w2 h ⟨v, h1, h2⟩ => ⟨v, h1, h2.below h⟩, fun _ u w1 w2 h ⟨v, h1, h2⟩ => ⟨v, h1, h2.below (extB_none h)⟩⟩
  case m8 =>
    exact ⟨fun u w1 w2 h ⟨v, h1, h2⟩ => ⟨v, h1, h2.below h⟩, fun _ u w1 w2 h ⟨v, h1, h2⟩ => ⟨v, h1, h2.below (extB_none h)⟩⟩
  case m12 =>
    exact ⟨fun u w1 w2 h ⟨v, h1, h2⟩ => ⟨v, h1, h2.below h⟩, fun _ u w1 w2 h ⟨v, h1, h2⟩ => ⟨v, h1, h2.below (extB_none h)⟩⟩
  case s0 =>
    refine step_val (v := (.pointer (some ⟨sb, so, none⟩))) (fun av wv hE hS hO hD => ?_) (fun _ => rfl)
    have h0 : av.eval (.tmp 0) = (.pointer (some ⟨sb, so, none⟩)) := hO.2.2 0 rfl
    have f0 := (ev_form av 0).symm.trans h0
    refine ⟨rfl, ?_⟩
    simp [go_sem, f0]
  case s1 =>
    refine step_val (v := (.pointer (some ⟨sb, so, none⟩))) (fun av wv hE hS hO hD => ?_) (fun _ => rfl)
    have d3 : av.eval (.tmp 3) = (.pointer (some ⟨sb, so, none⟩)) := hD.1 rfl _ rfl
    have f3 := (ev_form av 3).symm.trans d3
    refine ⟨rfl, ?_⟩
    simp [go_sem, f3]
  case s2 =>
    refine step_val (v := (.pointer (some ⟨sb, so + 2, none⟩))) (fun av wv hE hS hO hD => ?_) (fun _ => rfl)
    have d4 : av.eval (.tmp 4) = (.pointer (some ⟨sb, so, none⟩)) := hD.1 rfl _ rfl
    have f4 := (ev_form av 4).symm.trans d4
    refine ⟨rfl, ?_⟩
    simp [go_sem, f4]
  case s3 =>
    refine step_wp (fun av wv hE hS hO hD => ?_)
    have d5 : av.eval (.tmp 5) = (.pointer (some ⟨sb, so + 2, none⟩)) := hD.1 rfl _ rfl
    have f5 := (ev_form av 5).symm.trans d5
    refine ⟨rfl, ?_⟩
    refine wp_of_callP (f := 108) (args := #[.pointer (some ⟨sb, so + 2, none⟩)]) (by simp [go_sem, f5]) (HSG.out wv (of_drew hE)) (fun u w2 ⟨h1, hb⟩ => ⟨u, rfl, es_of_ext hb, h1⟩)
  case s4 =>
    refine step_wp (fun av wv hE hS hO hD => ?_)
    have d6 : (fun u w' => RowIn B S3 u w') (av.eval (.tmp 6)) wv := hD.1 rfl _ rfl
    refine ⟨rfl, ?_⟩
    obtain ⟨g6, c6, l6, hu6, hF6, hB6, hS6⟩ := d6
    have f6 := (ev_form av 6).symm.trans hu6
    have hl6 : len l6 = 3 := by rw [← hS6.1]; exact HL3.out
    refine wp_of_callP (f := 107) (args := #[.string ⟨#[103]⟩, .slice (some ⟨g6, 0, none⟩) (len l6) c6]) (by simp [go_sem, f6]) (HOB.out wv g6 c6 l6 hF6 hl6 hS6 hB6) (fun u w2 ⟨v, hu, hs, hb⟩ => ⟨u, rfl, es_of_ext hb, v, hu, hs⟩)
  case s5 =>
    refine step_val (v := (.pointer (some ⟨sb, so, none⟩))) (fun av wv hE hS hO hD => ?_) (fun _ => rfl)
    have h0 : av.eval (.tmp 0) = (.pointer (some ⟨sb, so, none⟩)) := hO.2.2 0 rfl
    have f0 := (ev_form av 0).symm.trans h0
    refine ⟨rfl, ?_⟩
    simp [go_sem, f0]
  case s6 =>
    refine step_val (v := (.pointer (some ⟨sb, so, none⟩))) (fun av wv hE hS hO hD => ?_) (fun _ => rfl)
    have d8 : av.eval (.tmp 8) = (.pointer (some ⟨sb, so, none⟩)) := hD.1 rfl _ rfl
    have f8 := (ev_form av 8).symm.trans d8
    refine ⟨rfl, ?_⟩
    simp [go_sem, f8]
  case s7 =>
    refine step_val (v := (.pointer (some ⟨sb, so, none⟩))) (fun av wv hE hS hO hD => ?_) (fun _ => rfl)
    have d9 : av.eval (.tmp 9) = (.pointer (some ⟨sb, so, none⟩)) := hD.1 rfl _ rfl
    have f9 := (ev_form av 9).symm.trans d9
    refine ⟨rfl, ?_⟩
    simp [go_sem, f9]
  case s8 =>
    refine step_wp (fun av wv hE hS hO hD => ?_)
    have d10 : av.eval (.tmp 10) = (.pointer (some ⟨sb, so, none⟩)) := hD.1 rfl _ rfl
    have f10 := (ev_form av 10).symm.trans d10
    refine ⟨rfl, ?_⟩
    refine wp_of_callP (f := 109) (args := #[.string ⟨#[108]⟩, .pointer (some ⟨sb, so, none⟩)]) (by simp [go_sem, f10]) (HS1.out wv (of_drew hE)) (fun u w2 ⟨v, hu, hs, hb⟩ => ⟨u, rfl, es_of_ext hb, v, hu, hs⟩)
  case s9 =>
    refine step_val (v := (.pointer (some ⟨sb, so, none⟩))) (fun av wv hE hS hO hD => ?_) (fun _ => rfl)
    have h0 : av.eval (.tmp 0) = (.pointer (some ⟨sb, so, none⟩)) := hO.2.2 0 rfl
    have f0 := (ev_form av 0).symm.trans h0
    refine ⟨rfl, ?_⟩
    simp [go_sem, f0]
  case s10 =>
    refine step_val (v := (.pointer (some ⟨sb, so, none⟩))) (fun av wv hE hS hO hD => ?_) (fun _ => rfl)
    have d12 : av.eval (.tmp 12) = (.pointer (some ⟨sb, so, none⟩)) := hD.1 rfl _ rfl
    have f12 := (ev_form av 12).symm.trans d12
    refine ⟨rfl, ?_⟩
    simp [go_sem, f12]
  case s11 =>
    refine step_val (v := (.pointer (some ⟨sb, so + 1, none⟩))) (fun av wv hE hS hO hD => ?_) (fun _ => rfl)
    have d13 : av.eval (.tmp 13) = (.pointer (some ⟨sb, so, none⟩)) := hD.1 rfl _ rfl
    have f13 := (ev_form av 13).symm.trans d13
    refine ⟨rfl, ?_⟩
    simp [go_sem, f13]
  case s12 =>
    refine step_wp (fun av wv hE hS hO hD => ?_)
    have d14 : av.eval (.tmp 14) = (.pointer (some ⟨sb, so + 1, none⟩)) := hD.1 rfl _ rfl
    have f14 := (ev_form av 14).symm.trans d14
    refine ⟨rfl, ?_⟩
    refine wp_of_callP (f := 110) (args := #[.string ⟨#[115]⟩, .pointer (some ⟨sb, so + 1, none⟩)]) (by simp [go_sem, f14]) (HS2.out wv (of_drew hE)) (fun u w2 ⟨v, hu, hs, hb⟩ => ⟨u, rfl, es_of_ext hb, v, hu, hs⟩)
  intro a' w' hE hO hall
  have hA := act_of_outer (ds := [3, 4, 5, 6, 7, 8, 9, 10, 11, 12, 13, 14, 15]) rfl hO (by kernel_rfl)
  have e3 : (fun u _ => u = (.pointer (some ⟨sb, so, none⟩))) (a'.eval (.tmp 3)) w' := hall.1 _ rfl
  have e4 : (fun u _ => u = (.pointer (some ⟨sb, so, none⟩))) (a'.eval (.tmp 4)) w' := hall.2.1 _ rfl
  have e5 : (fun u _ => u = (.pointer (some ⟨sb, so + 2, none⟩))) (a'.eval (.tmp 5)) w' := hall.2.2.1 _ rfl
  have e6 : (fun u w' => RowIn B S3 u w') (a'.eval (.tmp 6)) w' := hall.2.2.2.1 _ rfl
  have e7 : (fun u w' => ∃ v : FVal, u = v.val ∧ FIn B w' v S0) (a'.eval (.tmp 7)) w' := hall.2.2.2.2.1 _ rfl
  have e8 : (fun u _ => u = (.pointer (some ⟨sb, so, none⟩))) (a'.eval (.tmp 8)) w' := hall.2.2.2.2.2.1 _ rfl
  have e9 : (fun u _ => u = (.pointer (some ⟨sb, so, none⟩))) (a'.eval (.tmp 9)) w' := hall.2.2.2.2.2.2.1 _ rfl
  have e10 : (fun u _ => u = (.pointer (some ⟨sb, so, none⟩))) (a'.eval (.tmp 10)) w' := hall.2.2.2.2.2.2.2.1 _ rfl
  have e11 : (fun u w' => ∃ v : FVal, u = v.val ∧ FIn B w' v S1) (a'.eval (.tmp 11)) w' := hall.2.2.2.2.2.2.2.2.1 _ rfl
  have e12 : (fun u _ => u = (.pointer (some ⟨sb, so, none⟩))) (a'.eval (.tmp 12)) w' := hall.2.2.2.2.2.2.2.2.2.1 _ rfl
  have e13 : (fun u _ => u = (.pointer (some ⟨sb, so, none⟩))) (a'.eval (.tmp 13)) w' := hall.2.2.2.2.2.2.2.2.2.2.1 _ rfl
  have e14 : (fun u _ => u = (.pointer (some ⟨sb, so + 1, none⟩))) (a'.eval (.tmp 14)) w' := hall.2.2.2.2.2.2.2.2.2.2.2.1 _ rfl
  have e15 : (fun u w' => ∃ v : FVal, u = v.val ∧ FIn B w' v S2) (a'.eval (.tmp 15)) w' := hall.2.2.2.2.2.2.2.2.2.2.2.2.1 _ rfl
  obtain ⟨v6, hv6⟩ : ∃ v, a'.eval (.tmp 6) = v := ⟨_, rfl⟩
  rw [hv6] at e6
  obtain ⟨v7, hv7⟩ : ∃ v, a'.eval (.tmp 7) = v := ⟨_, rfl⟩
  rw [hv7] at e7
  obtain ⟨v11, hv11⟩ : ∃ v, a'.eval (.tmp 11) = v := ⟨_, rfl⟩
  rw [hv11] at e11
  obtain ⟨v15, hv15⟩ : ∃ v, a'.eval (.tmp 15) = v := ⟨_, rfl⟩
  rw [hv15] at e15
  simp only [List.foldl_cons, List.foldl_nil, Act.put, List.setIfInBounds_toArray, List.set_cons_succ, List.set_cons_zero, e3, e4, e5, hv6, hv7, e8, e9, e10, hv11, e12, e13, e14, hv15] at hA
  clear hO hall e3 e4 e5 hv6 hv7 e8 e9 e10 hv11 e12 e13 e14 hv15
  subst hA
  obtain ⟨x0, rfl, s0⟩ := e7
  obtain ⟨x1, rfl, s1⟩ := e11
  obtain ⟨x2, rfl, s2⟩ := e15
  have HSS : Hid (FSems B w' [x0, x1, x2] [S0, S1, S2]) := Lib.hid ⟨rfl, fun i hi => by
    have : i = 0 ∨ i = 1 ∨ i = 2 := by simp [len] at hi; omega
    rcases this with rfl | rfl | rfl
    · exact s0.2
    · exact s1.2
    · exact s2.2⟩
  have HBW : Hid (Below w.heap.size w w' ∧ B ≤ w'.heap.size) := Lib.hid ⟨of_drew hE, s0.1⟩
  clear s0 s1 s2 hE e6
  unfold FVal.val
  go_wp2
  go_ret
  refine ⟨w'.heap.size, 3, [x0, x1, x2], rfl, ⟨Flds.block (l := [x0, x1, x2]) (heap_alloc_new w' _), _, heap_alloc_new w' _⟩, ?_, bnext HBW.out.1 (balloc (Below.refl _ _) _)⟩
  rw [HSP.out]
  exact HSS.out.later (Keep8.of_below (balloc (Below.refl _ _) _) HBW.out.2)
structure PartAt (B : Nat) (w : World) (b o : Nat) (root : ByteArray) (weight first life keys : Int) : Prop where
  c0 : CellAt B w b o (.string root)
  c1 : CellAt B w b (o + 1) (.int .u64 weight)
  c2 : CellAt B w b (o + 2) (.int .u64 first)
  c3 : CellAt B w b (o + 3) (.int .u64 life)
  c4 : CellAt B w b (o + 4) (.int .u64 keys)
theorem PartAt.below {B : Nat} {w w' : World} {b o : Nat} {root : ByteArray} {weight first life keys : Int} (h : PartAt B w b o root weight first life keys) (hb : Below w.heap.size w w') : PartAt B w' b o root weight first life keys := ⟨h.c0.below hb, h.c1.below hb, h.c2.below hb, h.c3.below hb, h.c4.below hb⟩
def partSpecs (root : ByteArray) (weight first life keys : Int) : List FSpec :=
  [⟨⟨#[102]⟩, false, first == 0, true, numP first⟩, ⟨⟨#[107]⟩, false, keys == 0, true, numP keys⟩, ⟨⟨#[108]⟩, false, life == 0, true, numP life⟩, ⟨⟨#[114]⟩, true, false, decide (root.size = 32), binP root⟩, ⟨⟨#[119]⟩, false, weight == 0, true, numP weight⟩]
def U64i (x : Int) : Prop := 0 ≤ x ∧ x ≤ 18446744073709551615
set_option maxRecDepth 100000 in
set_option maxHeartbeats 4000000 in
theorem ofpart_any (B sb so : Nat) (root : ByteArray) (weight first life keys : Int) (w : World) (hB : B ≤ w.heap.size) (h : PartAt B w sb so root weight first life keys) (hr : root.size ≤ 9223372036854775807) (hw : U64i weight) (hf : U64i first) (hl : U64i life) (hk : U64i keys) :
    Calls Tryz.prog 62 #[.pointer (some ⟨sb, so, none⟩)] w (RowOf B (partSpecs root weight first life keys) w) := by
  obtain ⟨S0, hS0⟩ : ∃ S : FSpec, (⟨⟨#[102]⟩, false, first == 0, true, numP first⟩ : FSpec) = S := ⟨_, rfl⟩
  obtain ⟨S1, hS1⟩ : ∃ S : FSpec, (⟨⟨#[107]⟩, false, keys == 0, true, numP keys⟩ : FSpec) = S := ⟨_, rfl⟩
  obtain ⟨S2, hS2⟩ : ∃ S : FSpec, (⟨⟨#[108]⟩, false, life == 0, true, numP life⟩ : FSpec) = S := ⟨_, rfl⟩
  obtain ⟨S3, hS3⟩ : ∃ S : FSpec, (⟨⟨#[114]⟩, true, false, decide (root.size = 32), binP root⟩ : FSpec) = S := ⟨_, rfl⟩
  obtain ⟨S4, hS4⟩ : ∃ S : FSpec, (⟨⟨#[119]⟩, false, weight == 0, true, numP weight⟩ : FSpec) = S := ⟨_, rfl⟩
  have HSP : Hid (partSpecs root weight first life keys = [S0, S1, S2, S3, S4]) := Lib.hid (by unfold partSpecs; rw [hS0, hS1, hS2, hS3, hS4])
  have HS0 : Hid (∀ w', Below w.heap.size w w' → Calls Tryz.prog 109 #[.string ⟨#[102]⟩, .pointer (some ⟨sb, so + 2, none⟩)] w' (MadeF B S0 w')) := Lib.hid (fun w' hb => by
    rw [← hS0]
    exact (fnum_any B ⟨#[102]⟩ sb (so + 2) first w' (by decide) (Nat.le_trans hB hb.size) (h.c2.below hb) hf.1 hf.2).mono (fun e w'' hh => madeF (Nat.le_trans hB hb.size) hh))
  have HS1 : Hid (∀ w', Below w.heap.size w w' → Calls Tryz.prog 109 #[.string ⟨#[107]⟩, .pointer (some ⟨sb, so + 4, none⟩)] w' (MadeF B S1 w')) := Lib.hid (fun w' hb => by
    rw [← hS1]
    exact (fnum_any B ⟨#[107]⟩ sb (so + 4) keys w' (by decide) (Nat.le_trans hB hb.size) (h.c4.below hb) hk.1 hk.2).mono (fun e w'' hh => madeF (Nat.le_trans hB hb.size) hh))
  have HS2 : Hid (∀ w', Below w.heap.size w w' → Calls Tryz.prog 109 #[.string ⟨#[108]⟩, .pointer (some ⟨sb, so + 3, none⟩)] w' (MadeF B S2 w')) := Lib.hid (fun w' hb => by
    rw [← hS2]
    exact (fnum_any B ⟨#[108]⟩ sb (so + 3) life w' (by decide) (Nat.le_trans hB hb.size) (h.c3.below hb) hl.1 hl.2).mono (fun e w'' hh => madeF (Nat.le_trans hB hb.size) hh))
  have HS3 : Hid (∀ w', Below w.heap.size w w' → Calls Tryz.prog 111 #[.string ⟨#[114]⟩, .pointer (some ⟨sb, so, none⟩)] w' (MadeF B S3 w')) := Lib.hid (fun w' hb => by
    rw [← hS3]
    exact (fdigest_any B ⟨#[114]⟩ sb so root w' (by decide) (Nat.le_trans hB hb.size) (h.c0.below hb) hr).mono (fun e w'' hh => madeF (Nat.le_trans hB hb.size) hh))
  have HS4 : Hid (∀ w', Below w.heap.size w w' → Calls Tryz.prog 109 #[.string ⟨#[119]⟩, .pointer (some ⟨sb, so + 1, none⟩)] w' (MadeF B S4 w')) := Lib.hid (fun w' hb => by
    rw [← hS4]
    exact (fnum_any B ⟨#[119]⟩ sb (so + 1) weight w' (by decide) (Nat.le_trans hB hb.size) (h.c1.below hb) hw.1 hw.2).mono (fun e w'' hh => madeF (Nat.le_trans hB hb.size) hh))
  clear h hS3 hS0 hS1 hS2 hS4
  go_enter Tryz.func62, Tryz.ntmps62
  go_upto_region 1 with fail
  refine wp_region_tail 20 1000 (none) (phis [fun u _ => u = (.pointer (some ⟨sb, so, none⟩)), fun u _ => u = (.pointer (some ⟨sb, so, none⟩)), fun u _ => u = (.pointer (some ⟨sb, so + 2, none⟩)), fun u w' => ∃ v : FVal, u = v.val ∧ FIn B w' v S0, fun u _ => u = (.pointer (some ⟨sb, so, none⟩)), fun u _ => u = (.pointer (some ⟨sb, so, none⟩)), fun u _ => u = (.pointer (some ⟨sb, so + 4, none⟩)), fun u w' => ∃ v : FVal, u = v.val ∧ FIn B w' v S1, fun u _ => u = (.pointer (some ⟨sb, so, none⟩)), fun u _ => u = (.pointer (some ⟨sb, so, none⟩)), fun u _ => u = (.pointer (some ⟨sb, so + 3, none⟩)), fun u w' => ∃ v : FVal, u = v.val ∧ FIn B w' v S2, fun u _ => u = (.pointer (some ⟨sb, so, none⟩)), fun u _ => u = (.pointer (some ⟨sb, so, none⟩)), fun u _ => u = (.pointer (some ⟨sb, so, none⟩)), fun u w' => ∃ v : FVal, u = v.val ∧ FIn B w' v S3, fun u _ => u = (.pointer (some ⟨sb, so, none⟩)), fun u _ => u = (.pointer (some ⟨sb, so, none⟩)), fun u _ => u = (.pointer (some ⟨sb, so + 1, none⟩)), fun u w' => ∃ v : FVal, u = v.val ∧ FIn B w' v S4]) rfl (by kernel_rfl) (by kernel_rfl) (mono_of ⟨mono_eq, mono_eq, mono_eq, ?m3, mono_eq, mono_eq, mono_eq, ?m7, mono_eq, mono_eq, mono_eq, ?m11, mono_eq, mono_eq, mono_eq, ?m15, mono_eq, mono_eq, mono_eq, ?m19, trivial⟩) (steps_of 20 ⟨?s0, ?s1, ?s2, ?s3, ?s4, ?s5, ?s6, ?s7, ?s8, ?s9, ?s10, ?s11, ?s12, ?s13, ?s14, ?s15, ?s16, ?s17, ?s18, ?s19, trivial⟩) ?_
  case m3 =>
    exact ⟨fun u w1 w2 h ⟨v, h1, h2⟩ => ⟨v, h1, h2.below h⟩, fun _ u w1 w2 h ⟨v, h1, h2⟩ => ⟨v, h1, h2.below (extB_none h)⟩⟩
  case m7 =>
    exact ⟨fun u w1 w2 h ⟨v, h1, h2⟩ => ⟨v, h1, h2.below h⟩, fun _ u w1 w2 h ⟨v, h1, h2⟩ => ⟨v, h1, h2.below (extB_none h)⟩⟩
  case m11 =>
    exact ⟨fun u w1 w2 h ⟨v, h1, h2⟩ => ⟨v, h1, h2.below h⟩, fun _ u w1 w2 h ⟨v, h1, h2⟩ => ⟨v, h1, h2.below (extB_none h)⟩⟩
  case m15 =>
    exact ⟨fun u w1 w2 h ⟨v, h1, h2⟩ => ⟨v, h1, h2.below h⟩, fun _ u w1 w2 h ⟨v, h1, h2⟩ => ⟨v, h1, h2.below (extB_none h)⟩⟩
  case m19 =>
    exact ⟨fun u w1 w2 h ⟨v, h1, h2⟩ => ⟨v, h1, h2.below h⟩, fun _ u w1 w2 h ⟨v, h1, h2⟩ => ⟨v, h1, h2.below (extB_none h)⟩⟩
  case s0 =>
    refine step_val (v := (.pointer (some ⟨sb, so, none⟩))) (fun av wv hE hS hO hD => ?_) (fun _ => rfl)
    have h0 : av.eval (.tmp 0) = (.pointer (some ⟨sb, so, none⟩)) := hO.2.2 0 rfl
    have f0 := (ev_form av 0).symm.trans h0
    refine ⟨rfl, ?_⟩
    simp [go_sem, f0]
  case s1 =>
    refine step_val (v := (.pointer (some ⟨sb, so, none⟩))) (fun av wv hE hS hO hD => ?_) (fun _ => rfl)
    have d3 : av.eval (.tmp 3) = (.pointer (some ⟨sb, so, none⟩)) := hD.1 rfl _ rfl
    have f3 := (ev_form av 3).symm.trans d3
    refine ⟨rfl, ?_⟩
    simp [go_sem, f3]
  case s2 =>
    refine step_val (v := (.pointer (some ⟨sb, so + 2, none⟩))) (fun av wv hE hS hO hD => ?_) (fun _ => rfl)
    have d4 : av.eval (.tmp 4) = (.pointer (some ⟨sb, so, none⟩)) := hD.1 rfl _ rfl
    have f4 := (ev_form av 4).symm.trans d4
    refine ⟨rfl, ?_⟩
    simp [go_sem, f4]
  case s3 =>
    refine step_wp (fun av wv hE hS hO hD => ?_)
    have d5 : av.eval (.tmp 5) = (.pointer (some ⟨sb, so + 2, none⟩)) := hD.1 rfl _ rfl
    have f5 := (ev_form av 5).symm.trans d5
    refine ⟨rfl, ?_⟩
    refine wp_of_callP (f := 109) (args := #[.string ⟨#[102]⟩, .pointer (some ⟨sb, so + 2, none⟩)]) (by simp [go_sem, f5]) (HS0.out wv (of_drew hE)) (fun u w2 ⟨v, hu, hs, hb⟩ => ⟨u, rfl, es_of_ext hb, v, hu, hs⟩)
  case s4 =>
    refine step_val (v := (.pointer (some ⟨sb, so, none⟩))) (fun av wv hE hS hO hD => ?_) (fun _ => rfl)
    have h0 : av.eval (.tmp 0) = (.pointer (some ⟨sb, so, none⟩)) := hO.2.2 0 rfl
    have f0 := (ev_form av 0).symm.trans h0
    refine ⟨rfl, ?_⟩
    simp [go_sem, f0]
  case s5 =>
    refine step_val (v := (.pointer (some ⟨sb, so, none⟩))) (fun av wv hE hS hO hD => ?_) (fun _ => rfl)
    have d7 : av.eval (.tmp 7) = (.pointer (some ⟨sb, so, none⟩)) := hD.1 rfl _ rfl
    have f7 := (ev_form av 7).symm.trans d7
    refine ⟨rfl, ?_⟩
    simp [go_sem, f7]
  case s6 =>
    refine step_val (v := (.pointer (some ⟨sb, so + 4, none⟩))) (fun av wv hE hS hO hD => ?_) (fun _ => rfl)
    have d8 : av.eval (.tmp 8) = (.pointer (some ⟨sb, so, none⟩)) := hD.1 rfl _ rfl
    have f8 := (ev_form av 8).symm.trans d8
    refine ⟨rfl, ?_⟩
    simp [go_sem, f8]
  case s7 =>
    refine step_wp (fun av wv hE hS hO hD => ?_)
    have d9 : av.eval (.tmp 9) = (.pointer (some ⟨sb, so + 4, none⟩)) := hD.1 rfl _ rfl
    have f9 := (ev_form av 9).symm.trans d9
    refine ⟨rfl, ?_⟩
    refine wp_of_callP (f := 109) (args := #[.string ⟨#[107]⟩, .pointer (some ⟨sb, so + 4, none⟩)]) (by simp [go_sem, f9]) (HS1.out wv (of_drew hE)) (fun u w2 ⟨v, hu, hs, hb⟩ => ⟨u, rfl, es_of_ext hb, v, hu, hs⟩)
  case s8 =>
    refine step_val (v := (.pointer (some ⟨sb, so, none⟩))) (fun av wv hE hS hO hD => ?_) (fun _ => rfl)
    have h0 : av.eval (.tmp 0) = (.pointer (some ⟨sb, so, none⟩)) := hO.2.2 0 rfl
    have f0 := (ev_form av 0).symm.trans h0
    refine ⟨rfl, ?_⟩
    simp [go_sem, f0]
  case s9 =>
    refine step_val (v := (.pointer (some ⟨sb, so, none⟩))) (fun av wv hE hS hO hD => ?_) (fun _ => rfl)
    have d11 : av.eval (.tmp 11) = (.pointer (some ⟨sb, so, none⟩)) := hD.1 rfl _ rfl
    have f11 := (ev_form av 11).symm.trans d11
    refine ⟨rfl, ?_⟩
    simp [go_sem, f11]
  case s10 =>
    refine step_val (v := (.pointer (some ⟨sb, so + 3, none⟩))) (fun av wv hE hS hO hD => ?_) (fun _ => rfl)
    have d12 : av.eval (.tmp 12) = (.pointer (some ⟨sb, so, none⟩)) := hD.1 rfl _ rfl
    have f12 := (ev_form av 12).symm.trans d12
    refine ⟨rfl, ?_⟩
    simp [go_sem, f12]
  case s11 =>
    refine step_wp (fun av wv hE hS hO hD => ?_)
    have d13 : av.eval (.tmp 13) = (.pointer (some ⟨sb, so + 3, none⟩)) := hD.1 rfl _ rfl
    have f13 := (ev_form av 13).symm.trans d13
    refine ⟨rfl, ?_⟩
    refine wp_of_callP (f := 109) (args := #[.string ⟨#[108]⟩, .pointer (some ⟨sb, so + 3, none⟩)]) (by simp [go_sem, f13]) (HS2.out wv (of_drew hE)) (fun u w2 ⟨v, hu, hs, hb⟩ => ⟨u, rfl, es_of_ext hb, v, hu, hs⟩)
  case s12 =>
    refine step_val (v := (.pointer (some ⟨sb, so, none⟩))) (fun av wv hE hS hO hD => ?_) (fun _ => rfl)
    have h0 : av.eval (.tmp 0) = (.pointer (some ⟨sb, so, none⟩)) := hO.2.2 0 rfl
    have f0 := (ev_form av 0).symm.trans h0
    refine ⟨rfl, ?_⟩
    simp [go_sem, f0]
  case s13 =>
    refine step_val (v := (.pointer (some ⟨sb, so, none⟩))) (fun av wv hE hS hO hD => ?_) (fun _ => rfl)
    have d15 : av.eval (.tmp 15) = (.pointer (some ⟨sb, so, none⟩)) := hD.1 rfl _ rfl
    have f15 := (ev_form av 15).symm.trans d15
    refine ⟨rfl, ?_⟩
    simp [go_sem, f15]
  case s14 =>
    refine step_val (v := (.pointer (some ⟨sb, so, none⟩))) (fun av wv hE hS hO hD => ?_) (fun _ => rfl)
    have d16 : av.eval (.tmp 16) = (.pointer (some ⟨sb, so, none⟩)) := hD.1 rfl _ rfl
    have f16 := (ev_form av 16).symm.trans d16
    refine ⟨rfl, ?_⟩
    simp [go_sem, f16]
  case s15 =>
    refine step_wp (fun av wv hE hS hO hD => ?_)
    have d17 : av.eval (.tmp 17) = (.pointer (some ⟨sb, so, none⟩)) := hD.1 rfl _ rfl
    have f17 := (ev_form av 17).symm.trans d17
    refine ⟨rfl, ?_⟩
    refine wp_of_callP (f := 111) (args := #[.string ⟨#[114]⟩, .pointer (some ⟨sb, so, none⟩)]) (by simp [go_sem, f17]) (HS3.out wv (of_drew hE)) (fun u w2 ⟨v, hu, hs, hb⟩ => ⟨u, rfl, es_of_ext hb, v, hu, hs⟩)
  case s16 =>
    refine step_val (v := (.pointer (some ⟨sb, so, none⟩))) (fun av wv hE hS hO hD => ?_) (fun _ => rfl)
    have h0 : av.eval (.tmp 0) = (.pointer (some ⟨sb, so, none⟩)) := hO.2.2 0 rfl
    have f0 := (ev_form av 0).symm.trans h0
    refine ⟨rfl, ?_⟩
    simp [go_sem, f0]
  case s17 =>
    refine step_val (v := (.pointer (some ⟨sb, so, none⟩))) (fun av wv hE hS hO hD => ?_) (fun _ => rfl)
    have d19 : av.eval (.tmp 19) = (.pointer (some ⟨sb, so, none⟩)) := hD.1 rfl _ rfl
    have f19 := (ev_form av 19).symm.trans d19
    refine ⟨rfl, ?_⟩
    simp [go_sem, f19]
  case s18 =>
    refine step_val (v := (.pointer (some ⟨sb, so + 1, none⟩))) (fun av wv hE hS hO hD => ?_) (fun _ => rfl)
    have d20 : av.eval (.tmp 20) = (.pointer (some ⟨sb, so, none⟩)) := hD.1 rfl _ rfl
    have f20 := (ev_form av 20).symm.trans d20
    refine ⟨rfl, ?_⟩
    simp [go_sem, f20]
  case s19 =>
    refine step_wp (fun av wv hE hS hO hD => ?_)
    have d21 : av.eval (.tmp 21) = (.pointer (some ⟨sb, so + 1, none⟩)) := hD.1 rfl _ rfl
    have f21 := (ev_form av 21).symm.trans d21
    refine ⟨rfl, ?_⟩
    refine wp_of_callP (f := 109) (args := #[.string ⟨#[119]⟩, .pointer (some ⟨sb, so + 1, none⟩)]) (by simp [go_sem, f21]) (HS4.out wv (of_drew hE)) (fun u w2 ⟨v, hu, hs, hb⟩ => ⟨u, rfl, es_of_ext hb, v, hu, hs⟩)
  intro a' w' hE hO hall
  have hA := act_of_outer (ds := [3, 4, 5, 6, 7, 8, 9, 10, 11, 12, 13, 14, 15, 16, 17, 18, 19, 20, 21, 22]) rfl hO (by kernel_rfl)
  have e3 : (fun u _ => u = (.pointer (some ⟨sb, so, none⟩))) (a'.eval (.tmp 3)) w' := hall.1 _ rfl
  have e4 : (fun u _ => u = (.pointer (some ⟨sb, so, none⟩))) (a'.eval (.tmp 4)) w' := hall.2.1 _ rfl
  have e5 : (fun u _ => u = (.pointer (some ⟨sb, so + 2, none⟩))) (a'.eval (.tmp 5)) w' := hall.2.2.1 _ rfl
  have e6 : (fun u w' => ∃ v : FVal, u = v.val ∧ FIn B w' v S0) (a'.eval (.tmp 6)) w' := hall.2.2.2.1 _ rfl
  have e7 : (fun u _ => u = (.pointer (some ⟨sb, so, none⟩))) (a'.eval (.tmp 7)) w' := hall.2.2.2.2.1 _ rfl
  have e8 : (fun u _ => u = (.pointer (some ⟨sb, so, none⟩))) (a'.eval (.tmp 8)) w' := hall.2.2.2.2.2.1 _ rfl
  have e9 : (fun u _ => u = (.pointer (some ⟨sb, so + 4, none⟩))) (a'.eval (.tmp 9)) w' := hall.2.2.2.2.2.2.1 _ rfl
  have e10 : (fun u w' => ∃ v : FVal, u = v.val ∧ FIn B w' v S1) (a'.eval (.tmp 10)) w' := hall.2.2.2.2.2.2.2.1 _ rfl
  have e11 : (fun u _ => u = (.pointer (some ⟨sb, so, none⟩))) (a'.eval (.tmp 11)) w' := hall.2.2.2.2.2.2.2.2.1 _ rfl
  have e12 : (fun u _ => u = (.pointer (some ⟨sb, so, none⟩))) (a'.eval (.tmp 12)) w' := hall.2.2.2.2.2.2.2.2.2.1 _ rfl
  have e13 : (fun u _ => u = (.pointer (some ⟨sb, so + 3, none⟩))) (a'.eval (.tmp 13)) w' := hall.2.2.2.2.2.2.2.2.2.2.1 _ rfl
  have e14 : (fun u w' => ∃ v : FVal, u = v.val ∧ FIn B w' v S2) (a'.eval (.tmp 14)) w' := hall.2.2.2.2.2.2.2.2.2.2.2.1 _ rfl
  have e15 : (fun u _ => u = (.pointer (some ⟨sb, so, none⟩))) (a'.eval (.tmp 15)) w' := hall.2.2.2.2.2.2.2.2.2.2.2.2.1 _ rfl
  have e16 : (fun u _ => u = (.pointer (some ⟨sb, so, none⟩))) (a'.eval (.tmp 16)) w' := hall.2.2.2.2.2.2.2.2.2.2.2.2.2.1 _ rfl
  have e17 : (fun u _ => u = (.pointer (some ⟨sb, so, none⟩))) (a'.eval (.tmp 17)) w' := hall.2.2.2.2.2.2.2.2.2.2.2.2.2.2.1 _ rfl
  have e18 : (fun u w' => ∃ v : FVal, u = v.val ∧ FIn B w' v S3) (a'.eval (.tmp 18)) w' := hall.2.2.2.2.2.2.2.2.2.2.2.2.2.2.2.1 _ rfl
  have e19 : (fun u _ => u = (.pointer (some ⟨sb, so, none⟩))) (a'.eval (.tmp 19)) w' := hall.2.2.2.2.2.2.2.2.2.2.2.2.2.2.2.2.1 _ rfl
  have e20 : (fun u _ => u = (.pointer (some ⟨sb, so, none⟩))) (a'.eval (.tmp 20)) w' := hall.2.2.2.2.2.2.2.2.2.2.2.2.2.2.2.2.2.1 _ rfl
  have e21 : (fun u _ => u = (.pointer (some ⟨sb, so + 1, none⟩))) (a'.eval (.tmp 21)) w' := hall.2.2.2.2.2.2.2.2.2.2.2.2.2.2.2.2.2.2.1 _ rfl
  have e22 : (fun u w' => ∃ v : FVal, u = v.val ∧ FIn B w' v S4) (a'.eval (.tmp 22)) w' := hall.2.2.2.2.2.2.2.2.2.2.2.2.2.2.2.2.2.2.2.1 _ rfl
  obtain ⟨v6, hv6⟩ : ∃ v, a'.eval (.tmp 6) = v := ⟨_, rfl⟩
  rw [hv6] at e6
  obtain ⟨v10, hv10⟩ : ∃ v, a'.eval (.tmp 10) = v := ⟨_, rfl⟩
  rw [hv10] at e10
  obtain ⟨v14, hv14⟩ : ∃ v, a'.eval (.tmp 14) = v := ⟨_, rfl⟩
  rw [hv14] at e14
  obtain ⟨v18, hv18⟩ : ∃ v, a'.eval (.tmp 18) = v := ⟨_, rfl⟩
  rw [hv18] at e18
  obtain ⟨v22, hv22⟩ : ∃ v, a'.eval (.tmp 22) = v := ⟨_, rfl⟩
  rw [hv22] at e22
  simp only [List.foldl_cons, List.foldl_nil, Act.put, List.setIfInBounds_toArray, List.set_cons_succ, List.set_cons_zero, e3, e4, e5, hv6, e7, e8, e9, hv10, e11, e12, e13, hv14, e15, e16, e17, hv18, e19, e20, e21, hv22] at hA
  clear hO hall e3 e4 e5 hv6 e7 e8 e9 hv10 e11 e12 e13 hv14 e15 e16 e17 hv18 e19 e20 e21 hv22
  subst hA
  obtain ⟨x0, rfl, s0⟩ := e6
  obtain ⟨x1, rfl, s1⟩ := e10
  obtain ⟨x2, rfl, s2⟩ := e14
  obtain ⟨x3, rfl, s3⟩ := e18
  obtain ⟨x4, rfl, s4⟩ := e22
  have HSS : Hid (FSems B w' [x0, x1, x2, x3, x4] [S0, S1, S2, S3, S4]) := Lib.hid ⟨rfl, fun i hi => by
    have : i = 0 ∨ i = 1 ∨ i = 2 ∨ i = 3 ∨ i = 4 := by simp [len] at hi; omega
    rcases this with rfl | rfl | rfl | rfl | rfl
    · exact s0.2
    · exact s1.2
    · exact s2.2
    · exact s3.2
    · exact s4.2⟩
  have HBW : Hid (Below w.heap.size w w' ∧ B ≤ w'.heap.size) := Lib.hid ⟨of_drew hE, s0.1⟩
  clear s0 s1 s2 s3 s4 hE
  unfold FVal.val
  go_wp2
  go_ret
  refine ⟨w'.heap.size, 5, [x0, x1, x2, x3, x4], rfl, ⟨Flds.block (l := [x0, x1, x2, x3, x4]) (heap_alloc_new w' _), _, heap_alloc_new w' _⟩, ?_, bnext HBW.out.1 (balloc (Below.refl _ _) _)⟩
  rw [HSP.out]
  exact HSS.out.later (Keep8.of_below (balloc (Below.refl _ _) _) HBW.out.2)
end Go.Proofs.YtihiaopilnjonaaGreatDoor
namespace Go.Proofs.YtihiaopilnjonaaGreatDoor
open Go.RowKit
set_option linter.unusedSimpArgs false
set_option linter.unusedVariables false
set_option maxRecDepth 100000 in
theorem wslot2_any (B : Nat) (L : Int) (q : Bool) (idx : Int) (a1 a2 : Option Addr) (k1 k2 : Nat) (wots path : List ByteArray) (w : World) (ht : PTab B w) (hs1 : Strs B w a1 wots) (hs2 : Strs B w a2 path) (h0 : 0 ≤ idx) (h1 : idx ≤ 18446744073709551615) (hL0 : 0 ≤ L) (hL1 : L ≤ 18446744073709551615) (hw : len wots ≤ 100000) (hp : len path ≤ 100000)
    (hsz : allMay (slotSpecs L q idx wots path) = true → (layP (slotSpecs L q idx wots path)).size ≤ 60000000000000) :
    Calls Tryz.prog 24 #[.agg #[.int .u64 L, .bool q, .int .u64 idx, .slice a1 (len wots) k1, .slice a2 (len path) k2]] w (LaidIs (slotSpecs L q idx wots path) w) := by
  have HT := Lib.hid ht
  have HS1 := Lib.hid hs1
  have HS2 := Lib.hid hs2
  clear ht hs1 hs2
  go_enter Tryz.func24, Tryz.ntmps24
  go_wp2_with fail
  obtain ⟨V, hV⟩ : ∃ V, w.alloc (.cells #[.int .u64 L, .bool q, .int .u64 idx, .slice a1 (len wots) k1, .slice a2 (len path) k2] 44) = V := ⟨_, rfl⟩
  have HB : Hid (Below w.heap.size w V) := Lib.hid (by rw [← hV]; (repeat (first | exact Below.refl _ _ | assumption | (refine bdrew ?_) | (refine bdrewN ?_ _) | (refine balloc ?_ _) | (refine bset ?_ (by first | omega | (simp; done) | (simp; omega)) _) | (refine bnext ?_ (by assumption)))))
  have hblk : V.heap[w.heap.size]? = some (.cells #[.int .u64 L, .bool q, .int .u64 idx, .slice a1 (len wots) k1, .slice a2 (len path) k2] 44 (0, 0)) := by rw [← hV]; exact heap_alloc_new _ _
  have HSL : Hid (SlotAt B V w.heap.size 0 L q idx wots path) := Lib.hid ⟨cellAt_new hblk (by decide) rfl, cellAt_new hblk (by decide) rfl, ⟨cellAt_new hblk (by decide) rfl, ⟨a1, k1, cellAt_new hblk (by decide) rfl, HS1.out.below HB.out⟩, ⟨a2, k2, cellAt_new hblk (by decide) rfl, HS2.out.below HB.out⟩⟩⟩
  have HTV := Lib.hid (HT.out.keep HB.out HT.out.size)
  try rw [hV]
  clear hV hblk HT
  refine (ofslot_any B w.heap.size 0 L q idx wots path V HTV.out.size HSL.out h0 h1 hL0 hL1 hw hp).mono ?_
  rintro e w1 ⟨g, c, l, rfl, hF, hS, hb⟩
  have HF := Lib.hid hF
  have HS := Lib.hid hS
  have HB1 : Hid (Below w.heap.size w w1) := Lib.hid (bnext HB.out hb)
  have HT1 := Lib.hid (HTV.out.keep hb HTV.out.size)
  have hl : len l = 3 := hS.1.symm
  have HL := Lib.hid hl
  clear hF hS hb hl HTV HSL
  go_wp2_with fail
  refine (wlaid2_any B g 0 c w1 l (slotSpecs L q idx wots path) w1 HF.out.flds (by rw [HL.out]; decide) (by rw [HL.out]; decide) HS.out (Keep8.refl HT1.out.size) HT1.out hsz).mono ?_
  rintro e w2 ⟨rfl, hb2⟩
  have HB2 : Hid (Below w.heap.size w w2) := Lib.hid (bnext HB1.out hb2)
  clear hb2
  cases hm : allMay (slotSpecs L q idx wots path) with
  | true =>
    have HM := Lib.hid hm
    clear hm
    rw [if_pos rfl]
    go_wp2
    go_ret2
    exact ⟨by rw [HM.out]; rfl, HB2.out⟩
  | false =>
    have HM := Lib.hid hm
    clear hm
    rw [if_neg (by decide)]
    go_wp2
    go_ret2
    exact ⟨by rw [HM.out]; rfl, HB2.out⟩
theorem wslot_any (B : Nat) (L : Int) (q : Bool) (idx : Int) (a1 a2 : Option Addr) (k1 k2 : Nat) (wots path : List ByteArray) (w : World) (ht : PTab B w) (hs1 : Strs B w a1 wots) (hs2 : Strs B w a2 path) (h0 : 0 ≤ idx) (h1 : idx ≤ 18446744073709551615) (hL0 : 0 ≤ L) (hL1 : L ≤ 18446744073709551615) (hw : len wots ≤ 100000) (hp : len path ≤ 100000)
    (hsz : (layP (slotSpecs L q idx wots path)).size ≤ 60000000000000) :
    Calls Tryz.prog 24 #[.agg #[.int .u64 L, .bool q, .int .u64 idx, .slice a1 (len wots) k1, .slice a2 (len path) k2]] w (LaidIs (slotSpecs L q idx wots path) w) :=
  wslot2_any B L q idx a1 a2 k1 k2 wots path w ht hs1 hs2 h0 h1 hL0 hL1 hw hp (fun _ => hsz)
set_option maxRecDepth 100000 in
theorem wpart2_any (B : Nat) (root : ByteArray) (weight first life keys : Int) (w : World) (ht : PTab B w) (hr : root.size ≤ 9223372036854775807) (hw : U64i weight) (hf : U64i first) (hl : U64i life) (hk : U64i keys)
    (hsz : allMay (partSpecs root weight first life keys) = true → (layP (partSpecs root weight first life keys)).size ≤ 60000000000000) :
    Calls Tryz.prog 25 #[.agg #[.string root, .int .u64 weight, .int .u64 first, .int .u64 life, .int .u64 keys]] w (LaidIs (partSpecs root weight first life keys) w) := by
  have HT := Lib.hid ht
  clear ht
  go_enter Tryz.func25, Tryz.ntmps25
  go_wp2_with fail
  obtain ⟨V, hV⟩ : ∃ V, w.alloc (.cells #[.string root, .int .u64 weight, .int .u64 first, .int .u64 life, .int .u64 keys] 46) = V := ⟨_, rfl⟩
  have HB : Hid (Below w.heap.size w V) := Lib.hid (by rw [← hV]; (repeat (first | exact Below.refl _ _ | assumption | (refine bdrew ?_) | (refine bdrewN ?_ _) | (refine balloc ?_ _) | (refine bset ?_ (by first | omega | (simp; done) | (simp; omega)) _) | (refine bnext ?_ (by assumption)))))
  have hblk : V.heap[w.heap.size]? = some (.cells #[.string root, .int .u64 weight, .int .u64 first, .int .u64 life, .int .u64 keys] 46 (0, 0)) := by rw [← hV]; exact heap_alloc_new _ _
  have HSL : Hid (PartAt B V w.heap.size 0 root weight first life keys) := Lib.hid ⟨cellAt_new hblk (by decide) rfl, cellAt_new hblk (by decide) rfl, cellAt_new hblk (by decide) rfl, cellAt_new hblk (by decide) rfl, cellAt_new hblk (by decide) rfl⟩
  have HTV := Lib.hid (HT.out.keep HB.out HT.out.size)
  try rw [hV]
  clear hV hblk HT
  refine (ofpart_any B w.heap.size 0 root weight first life keys V HTV.out.size HSL.out hr hw hf hl hk).mono ?_
  rintro e w1 ⟨g, c, l, rfl, hF, hS, hb⟩
  have HF := Lib.hid hF
  have HS := Lib.hid hS
  have HB1 : Hid (Below w.heap.size w w1) := Lib.hid (bnext HB.out hb)
  have HT1 := Lib.hid (HTV.out.keep hb HTV.out.size)
  have hl : len l = 5 := hS.1.symm
  have HL := Lib.hid hl
  clear hF hS hb hl HTV HSL
  go_wp2_with fail
  refine (wlaid2_any B g 0 c w1 l (partSpecs root weight first life keys) w1 HF.out.flds (by rw [HL.out]; decide) (by rw [HL.out]; decide) HS.out (Keep8.refl HT1.out.size) HT1.out hsz).mono ?_
  rintro e w2 ⟨rfl, hb2⟩
  have HB2 : Hid (Below w.heap.size w w2) := Lib.hid (bnext HB1.out hb2)
  clear hb2
  cases hm : allMay (partSpecs root weight first life keys) with
  | true =>
    have HM := Lib.hid hm
    clear hm
    rw [if_pos rfl]
    go_wp2
    go_ret2
    exact ⟨by rw [HM.out]; rfl, HB2.out⟩
  | false =>
    have HM := Lib.hid hm
    clear hm
    rw [if_neg (by decide)]
    go_wp2
    go_ret2
    exact ⟨by rw [HM.out]; rfl, HB2.out⟩
theorem wpart_any (B : Nat) (root : ByteArray) (weight first life keys : Int) (w : World) (ht : PTab B w) (hr : root.size ≤ 9223372036854775807) (hw : U64i weight) (hf : U64i first) (hl : U64i life) (hk : U64i keys)
    (hsz : (layP (partSpecs root weight first life keys)).size ≤ 60000000000000) :
    Calls Tryz.prog 25 #[.agg #[.string root, .int .u64 weight, .int .u64 first, .int .u64 life, .int .u64 keys]] w (LaidIs (partSpecs root weight first life keys) w) :=
  wpart2_any B root weight first life keys w ht hr hw hf hl hk (fun _ => hsz)
end Go.Proofs.YtihiaopilnjonaaGreatDoor
namespace Go.Proofs.YtihiaopilnjonaaGreatDoor
open Go.RowKit
set_option linter.unusedSimpArgs false
set_option linter.unusedVariables false
theorem fin_lasts (B : Nat) (S : FSpec) : Lasts (fun w v => FIn B w v S) := fun w w' v hb h => h.below hb
structure MsgAt (B : Nat) (w : World) (b o : Nat) (hd : ByteArray) (pt : ByteArray) (cnt : Int) (prv : Int) (fst : Int) (lst : Int) : Prop where
  c0 : CellAt B w b (o) (.string hd)
  c1 : CellAt B w b (o + 1) (.string pt)
  c2 : CellAt B w b (o + 2) (.int .u64 cnt)
  c3 : CellAt B w b (o + 3) (.int .u64 prv)
  c4 : CellAt B w b (o + 4) (.int .u64 fst)
  c5 : CellAt B w b (o + 5) (.int .u64 lst)
theorem MsgAt.below {B : Nat} {w w' : World} {b o : Nat} {hd : ByteArray} {pt : ByteArray} {cnt : Int} {prv : Int} {fst : Int} {lst : Int} (h : MsgAt B w b o hd pt cnt prv fst lst) (hb : Below w.heap.size w w') : MsgAt B w' b o hd pt cnt prv fst lst := ⟨h.c0.below hb, h.c1.below hb, h.c2.below hb, h.c3.below hb, h.c4.below hb, h.c5.below hb⟩
def msgSpecs (hd : ByteArray) (pt : ByteArray) (cnt : Int) (prv : Int) (fst : Int) (lst : Int) : List FSpec :=
  [⟨⟨#[102]⟩, false, fst == 0, true, numP fst⟩, ⟨⟨#[104]⟩, true, false, decide (hd.size = 32), binP hd⟩, ⟨⟨#[108]⟩, false, lst == 0, true, numP lst⟩, ⟨⟨#[110]⟩, false, cnt == 0, true, numP cnt⟩, ⟨⟨#[118]⟩, true, false, decide (pt.size = 32), binP pt⟩, ⟨⟨#[119]⟩, false, prv == 0, true, numP prv⟩]
set_option maxRecDepth 100000 in
set_option maxHeartbeats 4000000 in
theorem ofmsg_any (B sb so : Nat) (hd : ByteArray) (pt : ByteArray) (cnt : Int) (prv : Int) (fst : Int) (lst : Int) (w : World) (hB : B ≤ w.heap.size) (h : MsgAt B w sb so hd pt cnt prv fst lst) (h0 : hd.size ≤ 9223372036854775807) (h1 : pt.size ≤ 9223372036854775807) (h2 : U64i cnt) (h3 : U64i prv) (h4 : U64i fst) (h5 : U64i lst) :
    Calls Tryz.prog 80 #[.pointer (some ⟨sb, so, none⟩)] w (RowOf B (msgSpecs hd pt cnt prv fst lst) w) := by
  obtain ⟨S0, hS0⟩ : ∃ S : FSpec, (⟨⟨#[102]⟩, false, fst == 0, true, numP fst⟩ : FSpec) = S := ⟨_, rfl⟩
  obtain ⟨S1, hS1⟩ : ∃ S : FSpec, (⟨⟨#[104]⟩, true, false, decide (hd.size = 32), binP hd⟩ : FSpec) = S := ⟨_, rfl⟩
  obtain ⟨S2, hS2⟩ : ∃ S : FSpec, (⟨⟨#[108]⟩, false, lst == 0, true, numP lst⟩ : FSpec) = S := ⟨_, rfl⟩
  obtain ⟨S3, hS3⟩ : ∃ S : FSpec, (⟨⟨#[110]⟩, false, cnt == 0, true, numP cnt⟩ : FSpec) = S := ⟨_, rfl⟩
  obtain ⟨S4, hS4⟩ : ∃ S : FSpec, (⟨⟨#[118]⟩, true, false, decide (pt.size = 32), binP pt⟩ : FSpec) = S := ⟨_, rfl⟩
  obtain ⟨S5, hS5⟩ : ∃ S : FSpec, (⟨⟨#[119]⟩, false, prv == 0, true, numP prv⟩ : FSpec) = S := ⟨_, rfl⟩
  refine (gofMsg_any sb so w (fun w v => FIn B w v S0) (fun w v => FIn B w v S1) (fun w v => FIn B w v S2) (fun w v => FIn B w v S3) (fun w v => FIn B w v S4) (fun w v => FIn B w v S5) (fun w' hb => ?p0) (fin_lasts B S0) (fun w' hb => ?p1) (fin_lasts B S1) (fun w' hb => ?p2) (fin_lasts B S2) (fun w' hb => ?p3) (fin_lasts B S3) (fun w' hb => ?p4) (fin_lasts B S4) (fun w' hb => ?p5) (fin_lasts B S5)).mono ?_
  case p0 =>
    rw [← hS0]
    exact (fnum_any B ⟨#[102]⟩ sb (so + 4) fst w' (by decide) (Nat.le_trans hB hb.size) (h.c4.below hb) h4.1 h4.2).mono (fun e w'' hh => madeF (Nat.le_trans hB hb.size) hh)
  case p1 =>
    rw [← hS1]
    exact (fdigest_any B ⟨#[104]⟩ sb (so) hd w' (by decide) (Nat.le_trans hB hb.size) (h.c0.below hb) h0).mono (fun e w'' hh => madeF (Nat.le_trans hB hb.size) hh)
  case p2 =>
    rw [← hS2]
    exact (fnum_any B ⟨#[108]⟩ sb (so + 5) lst w' (by decide) (Nat.le_trans hB hb.size) (h.c5.below hb) h5.1 h5.2).mono (fun e w'' hh => madeF (Nat.le_trans hB hb.size) hh)
  case p3 =>
    rw [← hS3]
    exact (fnum_any B ⟨#[110]⟩ sb (so + 2) cnt w' (by decide) (Nat.le_trans hB hb.size) (h.c2.below hb) h2.1 h2.2).mono (fun e w'' hh => madeF (Nat.le_trans hB hb.size) hh)
  case p4 =>
    rw [← hS4]
    exact (fdigest_any B ⟨#[118]⟩ sb (so + 1) pt w' (by decide) (Nat.le_trans hB hb.size) (h.c1.below hb) h1).mono (fun e w'' hh => madeF (Nat.le_trans hB hb.size) hh)
  case p5 =>
    rw [← hS5]
    exact (fnum_any B ⟨#[119]⟩ sb (so + 3) prv w' (by decide) (Nat.le_trans hB hb.size) (h.c3.below hb) h3.1 h3.2).mono (fun e w'' hh => madeF (Nat.le_trans hB hb.size) hh)
  rintro e w' ⟨u, rfl, ⟨g, c, l, rfl, hc, hF, ⟨x0, x1, x2, x3, x4, x5, rfl, p0, p1, p2, p3, p4, p5⟩⟩, hb⟩
  refine ⟨g, c, [x0, x1, x2, x3, x4, x5], rfl, hF, ⟨rfl, fun i hi => ?_⟩, hb⟩
  have hi : i < 6 := by simpa [len] using hi
  match i, hi with
  | 0, _ => show FSem B w' x0 (⟨⟨#[102]⟩, false, fst == 0, true, numP fst⟩); rw [hS0]; exact p0.2
  | 1, _ => show FSem B w' x1 (⟨⟨#[104]⟩, true, false, decide (hd.size = 32), binP hd⟩); rw [hS1]; exact p1.2
  | 2, _ => show FSem B w' x2 (⟨⟨#[108]⟩, false, lst == 0, true, numP lst⟩); rw [hS2]; exact p2.2
  | 3, _ => show FSem B w' x3 (⟨⟨#[110]⟩, false, cnt == 0, true, numP cnt⟩); rw [hS3]; exact p3.2
  | 4, _ => show FSem B w' x4 (⟨⟨#[118]⟩, true, false, decide (pt.size = 32), binP pt⟩); rw [hS4]; exact p4.2
  | 5, _ => show FSem B w' x5 (⟨⟨#[119]⟩, false, prv == 0, true, numP prv⟩); rw [hS5]; exact p5.2
set_option maxRecDepth 100000 in
theorem wmsg2_any (B : Nat) (hd : ByteArray) (pt : ByteArray) (cnt : Int) (prv : Int) (fst : Int) (lst : Int) (w : World) (ht : PTab B w) (h0 : hd.size ≤ 9223372036854775807) (h1 : pt.size ≤ 9223372036854775807) (h2 : U64i cnt) (h3 : U64i prv) (h4 : U64i fst) (h5 : U64i lst)
    (hsz : allMay (msgSpecs hd pt cnt prv fst lst) = true → (layP (msgSpecs hd pt cnt prv fst lst)).size ≤ 60000000000000) :
    Calls Tryz.prog 38 #[.agg #[.string hd, .string pt, .int .u64 cnt, .int .u64 prv, .int .u64 fst, .int .u64 lst]] w (LaidIs (msgSpecs hd pt cnt prv fst lst) w) := by
  have HT := Lib.hid ht
  clear ht
  go_enter Tryz.func38, Tryz.ntmps38
  go_wp2_with fail
  obtain ⟨V, hV⟩ : ∃ V, w.alloc (.cells #[.string hd, .string pt, .int .u64 cnt, .int .u64 prv, .int .u64 fst, .int .u64 lst] 76) = V := ⟨_, rfl⟩
  have HB : Hid (Below w.heap.size w V) := Lib.hid (by rw [← hV]; (repeat (first | exact Below.refl _ _ | assumption | (refine bdrew ?_) | (refine bdrewN ?_ _) | (refine balloc ?_ _) | (refine bset ?_ (by first | omega | (simp; done) | (simp; omega)) _) | (refine bnext ?_ (by assumption)))))
  have hblk : V.heap[w.heap.size]? = some (.cells #[.string hd, .string pt, .int .u64 cnt, .int .u64 prv, .int .u64 fst, .int .u64 lst] 76 (0, 0)) := by rw [← hV]; exact heap_alloc_new _ _
  have HSL : Hid (MsgAt B V w.heap.size 0 hd pt cnt prv fst lst) := Lib.hid ⟨cellAt_new hblk (by decide) rfl, cellAt_new hblk (by decide) rfl, cellAt_new hblk (by decide) rfl, cellAt_new hblk (by decide) rfl, cellAt_new hblk (by decide) rfl, cellAt_new hblk (by decide) rfl⟩
  have HTV := Lib.hid (HT.out.keep HB.out HT.out.size)
  try rw [hV]
  clear hV hblk HT
  refine (ofmsg_any B w.heap.size 0 hd pt cnt prv fst lst V HTV.out.size HSL.out h0 h1 h2 h3 h4 h5).mono ?_
  rintro e w1 ⟨g, c, l, rfl, hF, hS, hb⟩
  have HF := Lib.hid hF
  have HS := Lib.hid hS
  have HB1 : Hid (Below w.heap.size w w1) := Lib.hid (bnext HB.out hb)
  have HT1 := Lib.hid (HTV.out.keep hb HTV.out.size)
  have hl : len l = 6 := hS.1.symm
  have HL := Lib.hid hl
  clear hF hS hb hl HTV HSL
  go_wp2_with fail
  refine (wlaid2_any B g 0 c w1 l (msgSpecs hd pt cnt prv fst lst) w1 HF.out.flds (by rw [HL.out]; decide) (by rw [HL.out]; decide) HS.out (Keep8.refl HT1.out.size) HT1.out hsz).mono ?_
  rintro e w2 ⟨rfl, hb2⟩
  have HB2 : Hid (Below w.heap.size w w2) := Lib.hid (bnext HB1.out hb2)
  clear hb2
  cases hm : allMay (msgSpecs hd pt cnt prv fst lst) with
  | true =>
    have HM := Lib.hid hm
    clear hm
    rw [if_pos rfl]
    go_wp2
    go_ret2
    exact ⟨by rw [HM.out]; rfl, HB2.out⟩
  | false =>
    have HM := Lib.hid hm
    clear hm
    rw [if_neg (by decide)]
    go_wp2
    go_ret2
    exact ⟨by rw [HM.out]; rfl, HB2.out⟩
structure HeaderAt (B : Nat) (w : World) (b o : Nat) (rnd : Int) (prev : ByteArray) (txns : ByteArray) (seed : ByteArray) : Prop where
  c0 : CellAt B w b (o) (.int .u64 rnd)
  c1 : CellAt B w b (o + 1) (.string prev)
  c2 : CellAt B w b (o + 2) (.string txns)
  c3 : CellAt B w b (o + 3) (.string seed)
theorem HeaderAt.below {B : Nat} {w w' : World} {b o : Nat} {rnd : Int} {prev : ByteArray} {txns : ByteArray} {seed : ByteArray} (h : HeaderAt B w b o rnd prev txns seed) (hb : Below w.heap.size w w') : HeaderAt B w' b o rnd prev txns seed := ⟨h.c0.below hb, h.c1.below hb, h.c2.below hb, h.c3.below hb⟩
end Go.Proofs.YtihiaopilnjonaaGreatDoor
namespace Go.Proofs.YtihiaopilnjonaaGreatDoor
open Go.RowKit
set_option linter.unusedSimpArgs false
set_option linter.unusedVariables false
def Nms (B : Nat) (w : World) (a : Option Addr) (l : List Int) : Prop := ∀ i, i < len l → ∃ b off, a = some ⟨b, off, none⟩ ∧ CellAt B w b (off + i) (.int .u64 (nth l i))
theorem Nms.keep {B : Nat} {w w' : World} {a : Option Addr} {l : List Int} (h : Nms B w a l) (hk : Keep8 B w w') : Nms B w' a l := fun i hi => by
  obtain ⟨b, off, e, hc⟩ := h i hi; exact ⟨b, off, e, hc.keep hk⟩
theorem Nms.below {B : Nat} {w w' : World} {a : Option Addr} {l : List Int} (h : Nms B w a l) (hk : Below w.heap.size w w') : Nms B w' a l := fun i hi => by
  obtain ⟨b, off, e, hc⟩ := h i hi; exact ⟨b, off, e, hc.below hk⟩
end Go.Proofs.YtihiaopilnjonaaGreatDoor
namespace Go.Proofs.YtihiaopilnjonaaGreatDoor
open Go.RowKit
set_option linter.unusedSimpArgs false
set_option linter.unusedVariables false
theorem toB_inj {a b : Int} (a0 : 0 ≤ a) (a1 : a < 256) (b0 : 0 ≤ b) (b1 : b < 256) (h : toB a = toB b) : a = b := by
  unfold toB at h
  have := congrArg UInt8.toNat h
  rw [UInt8.toNat_ofNat', UInt8.toNat_ofNat'] at this
  omega
theorem byte_get {s : ByteArray} {i : Nat} (h : i < s.size) : ∃ x, s.data.toList[i]? = some x ∧ byte s i = x.toNat := by
  have : i < s.data.toList.length := by rw [ba_len]; exact h
  exact ⟨_, List.getElem?_eq_getElem this, by unfold byte; rw [List.getD_eq_getElem?_getD, List.getElem?_eq_getElem this]; rfl⟩
theorem bytes0 {s : ByteArray} (h : 0 < s.size) : s.data.toList = toB (byte s 0) :: s.data.toList.drop 1 := by
  obtain ⟨x, hx, hb⟩ := byte_get h
  rw [hb, toB_nat]
  cases hl : s.data.toList with
  | nil => rw [hl] at hx; cases hx
  | cons y r => rw [hl] at hx; cases hx; rfl
theorem be_hi {s : ByteArray} : ∀ k, 1 + k ≤ s.size → (s.data.toList.drop 1).take k = (hiL (be s k) k).map toB
  | 0, _ => by simp [hiL]
  | k + 1, h => by
    obtain ⟨x, hx, hb⟩ := byte_get (s := s) (i := 1 + k) (by omega)
    have hlt := UInt8.toNat_lt x
    rw [List.take_add_one, be_hi k (by omega), hiL_snoc, be, hb, List.getElem?_drop, hx]
    have e1 : (be s k * 256 + (x.toNat : Int)) / 256 = be s k := by omega
    have e2 : (be s k * 256 + (x.toNat : Int)) % 256 = x.toNat := by omega
    rw [e1, e2, List.map_append, List.map_cons, toB_nat]
    rfl
theorem hi_inj : ∀ (k : Nat) {a b : Int}, 0 ≤ a → a < 256 ^ k → 0 ≤ b → b < 256 ^ k → (hiL a k).map toB = (hiL b k).map toB → a = b
  | 0, a, b, a0, a1, b0, b1, _ => by simp at a1 b1; omega
  | k + 1, a, b, a0, a1, b0, b1, h => by
    rw [hiL_snoc, hiL_snoc, List.map_append, List.map_append] at h
    obtain ⟨h1, h2⟩ := List.append_inj' h rfl
    rw [Int.pow_succ] at a1 b1
    have e1 := hi_inj k (by omega) (by omega) (by omega) (by omega) h1
    simp only [List.map_cons, List.map_nil, List.cons.injEq, and_true] at h2
    have e2 := toB_inj (by omega) (by omega) (by omega) (by omega) h2
    omega
theorem be_of_hi {s : ByteArray} {k : Nat} {n : Int} {R : List UInt8} {c : UInt8} (n0 : 0 ≤ n) (n1 : n < 256 ^ k) (h : s.data.toList = c :: ((hiL n k).map toB ++ R)) : be s k = n := by
  have hs : 1 + k ≤ s.size := by rw [← ba_len, h, List.length_cons, List.length_append, List.length_map, hiL_len]; omega
  have hb := be_hi k hs
  rw [h, List.drop_one, List.tail_cons, List.take_left' (by rw [List.length_map, hiL_len])] at hb
  have := be_bd s k
  exact (hi_inj k n0 n1 this.1 this.2 hb).symm
def rowFor (sort : Nat) (n : Int) : URow :=
  match sort with
  | 1 => if n < 256 then ⟨196, 196, 1, 0⟩ else ⟨197, 197, 2, 256⟩
  | 2 => if n < 32 then ⟨160, 191, 0, 0⟩ else if n < 256 then ⟨217, 217, 1, 32⟩ else ⟨218, 218, 2, 256⟩
  | 3 => if n < 16 then ⟨144, 159, 0, 0⟩ else ⟨220, 220, 2, 16⟩
  | 4 => if n < 16 then ⟨128, 143, 0, 0⟩ else ⟨222, 222, 2, 16⟩
  | _ => if n < 128 then ⟨0, 127, 0, 0⟩ else if n < 256 then ⟨204, 204, 1, 128⟩ else if n < 65536 then ⟨205, 205, 2, 256⟩ else if n < 4294967296 then ⟨206, 206, 4, 65536⟩ else ⟨207, 207, 8, 4294967296⟩
def headB (r : URow) (n : Int) : List UInt8 := if r.size = 0 then [toB (r.lo + n)] else toB r.lo :: (hiL n r.size.toNat).map toB
theorem head_split {s : ByteArray} {l : List URow} {n : Int} {rest : ByteArray} (hok : ∀ r ∈ l, 0 ≤ r.size) (h : headOf s l = .ok (n, rest)) :
    ∃ r ∈ l, r.least ≤ n ∧ r.lo ≤ byte s 0 ∧ byte s 0 ≤ r.hi ∧ 1 + r.size.toNat ≤ s.size ∧ n = (if r.size = 0 then byte s 0 - r.lo else be s r.size.toNat) ∧ rest = s.extract (1 + r.size.toNat) s.size := by
  unfold headOf at h
  split at h
  · cases h
  · split at h
    · cases h
    · next r hf =>
      have hm := List.mem_of_find?_eq_some hf
      have hp := List.find?_some hf
      simp only [Bool.and_eq_true, decide_eq_true_eq] at hp
      have := hok r hm
      by_cases h1 : (s.size : Int) < 1 + r.size
      · rw [if_pos h1] at h; cases h
      · rw [if_neg h1] at h
        obtain ⟨v, hv⟩ : ∃ v, (if r.size = 0 then byte s 0 - r.lo else be s r.size.toNat) = v := ⟨_, rfl⟩
        rw [hv] at h
        by_cases h2 : v < r.least
        · rw [if_pos h2] at h; cases h
        · rw [if_neg h2] at h
          cases h
          exact ⟨r, hm, by omega, hp.1, hp.2, by omega, hv.symm, rfl⟩
theorem head_bytes {s : ByteArray} {r : URow} {n : Int} {rest : ByteArray} (h1 : r.lo ≤ byte s 0) (h2 : byte s 0 ≤ r.hi) (h3 : 1 + r.size.toNat ≤ s.size) (hn : n = (if r.size = 0 then byte s 0 - r.lo else be s r.size.toNat)) (hr : rest = s.extract (1 + r.size.toNat) s.size) (hx : r.size = 0 ∨ r.lo = r.hi) :
    s.data.toList = headB r n ++ rest.data.toList := by
  rw [hr, Lib.extract_data, List.take_of_length_le (by rw [List.length_drop, ba_len]; omega)]
  refine (bytes0 (s := s) (by omega)).trans ?_
  unfold headB
  by_cases hz : r.size = 0
  · rw [if_pos hz, hz]
    rw [if_pos hz] at hn
    rw [hn, show r.lo + (byte s 0 - r.lo) = byte s 0 by omega]
    simp
  · rw [if_neg hz]
    rw [if_neg hz] at hn
    have e : byte s 0 = r.lo := by rcases hx with h | h <;> omega
    rw [hn, ← be_hi _ h3, e, List.cons_append]
    congr 1
    rw [show (s.data.toList.drop (1 + r.size.toNat)) = (s.data.toList.drop 1).drop r.size.toNat by rw [List.drop_drop]]
    exact (List.take_append_drop _ _).symm
end Go.Proofs.YtihiaopilnjonaaGreatDoor
namespace Go.Proofs.YtihiaopilnjonaaGreatDoor
open Go.RowKit
set_option linter.unusedSimpArgs false
set_option linter.unusedVariables false
def laidOf (sort : Nat) (n : Int) (t : ByteArray) : ByteArray := ⟨(headB (rowFor sort n) n ++ (if sort = 1 ∨ sort = 2 then t.data.toList else [])).toArray⟩
theorem rowFor_eq {sort : Nat} (h5 : sort < 5) {r : URow} {n : Int} {s : ByteArray} (hr : r ∈ rowsOf sort) (h1 : r.least ≤ n) (h2 : r.lo ≤ byte s 0) (h3 : byte s 0 ≤ r.hi) (hn : n = (if r.size = 0 then byte s 0 - r.lo else be s r.size.toNat)) :
    r = rowFor sort n ∧ (r.size = 0 ∨ r.lo = r.hi) := by
  have b1 := be_bd s 1
  have b2 := be_bd s 2
  have b4 := be_bd s 4
  have b8 := be_bd s 8
  simp only [Int.reducePow] at b1 b2 b4 b8
  match sort, h5 with
  | 0, _ =>
    simp only [rowsOf, numsL, List.mem_cons, List.not_mem_nil, or_false] at hr
    rcases hr with rfl | rfl | rfl | rfl | rfl <;> simp at h1 h2 h3 hn ⊢ <;> unfold rowFor <;> simp only [] <;> (repeat (first | rw [if_pos (by omega)] | rw [if_neg (by omega)]))
  | 1, _ =>
    simp only [rowsOf, binsL, List.mem_cons, List.not_mem_nil, or_false] at hr
    rcases hr with rfl | rfl <;> simp at h1 h2 h3 hn ⊢ <;> unfold rowFor <;> simp only [] <;> (repeat (first | rw [if_pos (by omega)] | rw [if_neg (by omega)]))
  | 2, _ =>
    simp only [rowsOf, strsL, List.mem_cons, List.not_mem_nil, or_false] at hr
    rcases hr with rfl | rfl | rfl <;> simp at h1 h2 h3 hn ⊢ <;> unfold rowFor <;> simp only [] <;> (repeat (first | rw [if_pos (by omega)] | rw [if_neg (by omega)]))
  | 3, _ =>
    simp only [rowsOf, listsL, List.mem_cons, List.not_mem_nil, or_false] at hr
    rcases hr with rfl | rfl <;> simp at h1 h2 h3 hn ⊢ <;> unfold rowFor <;> simp only [] <;> (repeat (first | rw [if_pos (by omega)] | rw [if_neg (by omega)]))
  | 4, _ =>
    simp only [rowsOf, pairsL, List.mem_cons, List.not_mem_nil, or_false] at hr
    rcases hr with rfl | rfl <;> simp at h1 h2 h3 hn ⊢ <;> unfold rowFor <;> simp only [] <;> (repeat (first | rw [if_pos (by omega)] | rw [if_neg (by omega)]))
theorem rows_size {sort : Nat} : ∀ r ∈ rowsOf sort, 0 ≤ r.size := by
  unfold rowsOf
  split <;> decide
theorem drop_tail {α : Type} {l p q : List α} (h : l = p ++ q) {k : Nat} (hk : k = l.length - q.length) : l.drop k = q := by
  subst hk h
  rw [List.length_append, Nat.add_sub_cancel, List.drop_left]
theorem head_laid {sort : Nat} {s rest : ByteArray} {n : Int} (h5 : sort < 5) (h : headOf s (rowsOf sort) = .ok (n, rest)) : s.data.toList = headB (rowFor sort n) n ++ rest.data.toList ∧ 0 ≤ n ∧ n ≤ 18446744073709551615 := by
  have hok : ∀ i, (unth (rowsOf sort) i).Ok := by
    match sort, h5 with
    | 0, _ => exact numsL_ok
    | 1, _ => exact binsL_ok
    | 2, _ => exact strsL_ok
    | 3, _ => exact listsL_ok
    | 4, _ => exact pairsL_ok
  have hb := head_bd hok h
  obtain ⟨r, hm, hl, h2, h3, h4, hn, hr⟩ := head_split rows_size h
  obtain ⟨e, hx⟩ := rowFor_eq h5 hm hl h2 h3 hn
  rw [← e]
  exact ⟨head_bytes h2 h3 h4 hn hr hx, hb.1, hb.2.1⟩
theorem take_laid {sort : Nat} {s t : ByteArray} {a a' : Nat} {most n : Int} (h5 : sort < 5) (ha : a ≤ s.size) (h : takeOf sort s a most = .ok (n, t, a')) :
    s.data.toList.drop a = (laidOf sort n t).data.toList ++ s.data.toList.drop a' ∧ a' = a + (laidOf sort n t).size ∧ a' ≤ s.size ∧ 0 ≤ n ∧ n ≤ 18446744073709551615 ∧ t.size ≤ s.size := by
  unfold takeOf at h
  cases hh : headOf (s.extract a s.size) (rowsOf sort) with
  | error k => rw [hh] at h; cases h
  | ok x =>
    obtain ⟨m, rest⟩ := x
    rw [hh] at h
    simp only at h
    obtain ⟨hb, n0, n1⟩ := head_laid h5 hh
    rw [Lib.extract_data, List.take_of_length_le (by rw [List.length_drop, ba_len]; omega)] at hb
    have hs : s.data.toList = s.data.toList.take a ++ headB (rowFor sort m) m ++ rest.data.toList := by
      rw [List.append_assoc, ← hb, List.take_append_drop]
    split at h
    · cases h
    · split at h
      · next h12 =>
        split at h
        · cases h
        · cases h
          have hrs : rest.data.toList = (rest.extract 0 n.toNat).data.toList ++ rest.data.toList.drop n.toNat := by
            rw [Lib.extract_data, List.drop_zero, Nat.sub_zero, List.take_append_drop]
          have hs2 : s.data.toList = (s.data.toList.take a ++ headB (rowFor sort n) n ++ (rest.extract 0 n.toNat).data.toList) ++ rest.data.toList.drop n.toNat := by
            rw [List.append_assoc, ← hrs]; exact hs
          have hd := drop_tail hs2 (k := s.size - (rest.size - n.toNat)) (by rw [ba_len, List.length_drop, ba_len])
          have hl := congrArg List.length hs2
          rw [List.length_append, List.length_append, List.length_append, List.length_take, List.length_drop, ba_len, ba_len, ba_len] at hl
          have hz : (laidOf sort n (rest.extract 0 n.toNat)).size = (headB (rowFor sort n) n).length + (rest.extract 0 n.toNat).size := by
            rw [← ba_len]; unfold laidOf; rw [if_pos h12]; simp only [List.toList_toArray, List.length_append, ba_len]
          have he : (rest.extract 0 n.toNat).size = n.toNat := by rw [ByteArray.size_extract]; omega
          refine ⟨?_, by omega, by omega, n0, n1, by omega⟩
          rw [hb, hd, hrs]
          unfold laidOf; rw [if_pos h12]
          simp
      · next h12 =>
        cases h
        have hd := drop_tail hs (k := s.size - rest.size) (by rw [ba_len, ba_len])
        have hl := congrArg List.length hs
        rw [List.length_append, List.length_append, List.length_take, ba_len, ba_len] at hl
        have hz : (laidOf sort n ⟨#[]⟩).size = (headB (rowFor sort n) n).length := by
          rw [← ba_len]; unfold laidOf; rw [if_neg h12]; simp
        refine ⟨?_, by omega, by omega, n0, n1, Nat.zero_le _⟩
        rw [hb, hd]
        unfold laidOf; rw [if_neg h12]
        simp
end Go.Proofs.YtihiaopilnjonaaGreatDoor
namespace Go.Proofs.YtihiaopilnjonaaGreatDoor
open Go.RowKit
set_option linter.unusedSimpArgs false
set_option linter.unusedVariables false
theorem byte_of {s : ByteArray} {x : Int} {R : List UInt8} (x0 : 0 ≤ x) (x1 : x ≤ 255) (h : s.data.toList = toB x :: R) : byte s 0 = x := by
  unfold byte toB at *
  rw [h]
  simp
  omega
theorem find_row {sort : Nat} (h5 : sort < 5) {n : Int} {s : ByteArray} {R : List UInt8} (n0 : 0 ≤ n) (h : s.data.toList = headB (rowFor sort n) n ++ R) :
    (rowsOf sort).find? (fun r => decide (r.lo ≤ byte s 0) && decide (byte s 0 ≤ r.hi)) = some (rowFor sort n) := by
  obtain ⟨r, hr⟩ : ∃ r, rowFor sort n = r := ⟨_, rfl⟩
  rw [hr] at h ⊢
  have hb : ∀ {x : Int}, (if r.size = 0 then r.lo + n else r.lo) = x → 0 ≤ x → x ≤ 255 → byte s 0 = x := fun {x} hx x0 x1 => by
    unfold headB at h
    by_cases hz : r.size = 0
    · rw [if_pos hz] at h hx; subst hx; exact byte_of x0 x1 h
    · rw [if_neg hz] at h hx; subst hx; exact byte_of x0 x1 (by rw [h, List.cons_append])
  unfold rowFor at hr
  match sort, h5 with
  | 0, _ | 1, _ | 2, _ | 3, _ | 4, _ =>
    simp only [] at hr
    (repeat' split at hr) <;> subst hr <;> simp only [Int.reduceEq, ↓reduceIte] at hb <;> have hb := hb rfl (by omega) (by omega) <;> simp only [rowsOf, numsL, binsL, strsL, listsL, pairsL, hb] <;>
      first | rfl | exact List.find?_cons_of_pos (by simp; omega)
theorem row_fits {sort : Nat} (h5 : sort < 5) {n : Int} (n0 : 0 ≤ n) (n1 : n ≤ 18446744073709551615) (n2 : sort ≠ 0 → n ≤ 65535) :
    (rowFor sort n).least ≤ n ∧ 0 ≤ (rowFor sort n).size ∧ ((rowFor sort n).size ≠ 0 → n < 256 ^ (rowFor sort n).size.toNat) := by
  unfold rowFor
  match sort, h5 with
  | 0, _ | 1, _ | 2, _ | 3, _ | 4, _ =>
    simp only []
    have n2 := n2
    (repeat' split) <;> simp <;> omega
theorem rowFor_lo {sort : Nat} (h5 : sort < 5) {n : Int} (n0 : 0 ≤ n) (h : (rowFor sort n).size = 0) : 0 ≤ (rowFor sort n).lo + n ∧ (rowFor sort n).lo + n ≤ 255 := by
  revert h
  unfold rowFor
  match sort, h5 with
  | 0, _ | 1, _ | 2, _ | 3, _ | 4, _ =>
    simp only []
    (repeat' split) <;> simp <;> omega
theorem headB_len (r : URow) (n : Int) : (headB r n).length = 1 + r.size.toNat := by
  unfold headB
  split
  · next h => rw [h]; rfl
  · rw [List.length_cons, List.length_map, hiL_len]; omega
theorem head_of_laid {sort : Nat} (h5 : sort < 5) {n : Int} {s : ByteArray} {R : List UInt8} (n0 : 0 ≤ n) (n1 : n ≤ 18446744073709551615) (n2 : sort ≠ 0 → n ≤ 65535) (h : s.data.toList = headB (rowFor sort n) n ++ R) :
    headOf s (rowsOf sort) = .ok (n, ⟨R.toArray⟩) := by
  have hl := congrArg List.length h
  rw [ba_len, List.length_append, headB_len] at hl
  have hf := find_row h5 n0 h
  obtain ⟨f1, f2, f3⟩ := row_fits h5 n0 n1 n2
  rw [head_row (by omega) hf, if_neg (by omega)]
  have hp := List.find?_some hf
  simp only [Bool.and_eq_true, decide_eq_true_eq] at hp
  have hv : (if (rowFor sort n).size = 0 then byte s 0 - (rowFor sort n).lo else be s (rowFor sort n).size.toNat) = n := by
    by_cases hz : (rowFor sort n).size = 0
    · rw [if_pos hz]
      have hd := rowFor_lo h5 n0 hz
      have := byte_of (s := s) (x := (rowFor sort n).lo + n) hd.1 hd.2 (by rw [h]; unfold headB; rw [if_pos hz]; rfl)
      omega
    · rw [if_neg hz]
      refine be_of_hi n0 (f3 hz) ?_ (R := R) (c := toB (rowFor sort n).lo)
      rw [h]; unfold headB; rw [if_neg hz, List.cons_append]
  rw [hv, if_neg (by omega)]
  congr 2
  refine ba_ext ?_
  rw [Lib.extract_data, List.take_of_length_le (by rw [List.length_drop, ba_len]; omega), h, ← headB_len (rowFor sort n) n, List.drop_left]
theorem laid_take {sort : Nat} {most : Int} (h5 : sort < 5) {n : Int} {s t : ByteArray} {a : Nat} {R : List UInt8} (ha : a ≤ s.size) (n0 : 0 ≤ n) (n1 : n ≤ 18446744073709551615) (n2 : sort ≠ 0 → n ≤ 65535) (nm : sort ≠ 0 → n ≤ most)
    (ht : if sort = 1 ∨ sort = 2 then (t.size : Int) = n else t = ⟨#[]⟩) (h : s.data.toList.drop a = (laidOf sort n t).data.toList ++ R) :
    takeOf sort s a most = .ok (n, t, a + (laidOf sort n t).size) := by
  have hd : (s.extract a s.size).data.toList = headB (rowFor sort n) n ++ ((if sort = 1 ∨ sort = 2 then t.data.toList else []) ++ R) := by
    rw [Lib.extract_data, List.take_of_length_le (by rw [List.length_drop, ba_len]; omega), h]
    unfold laidOf
    simp
  have hh := head_of_laid h5 n0 n1 n2 hd
  have hl := congrArg List.length h
  rw [List.length_drop, List.length_append, ba_len, ba_len] at hl
  have hz : (laidOf sort n t).size = (headB (rowFor sort n) n).length + (if sort = 1 ∨ sort = 2 then t.data.toList else []).length := by
    rw [← ba_len]; unfold laidOf; simp
  unfold takeOf
  rw [hh]
  simp only
  rw [if_neg (by intro e; have := nm e.1; omega)]
  by_cases h12 : sort = 1 ∨ sort = 2
  · rw [if_pos h12] at ht hz ⊢
    have e1 : (⟨(t.data.toList ++ R).toArray⟩ : ByteArray).size = t.size + R.length := by rw [← ba_len, List.toList_toArray, List.length_append, ba_len]
    have e2 : (⟨(t.data.toList ++ R).toArray⟩ : ByteArray).extract 0 n.toNat = t := ba_ext (by
      rw [Lib.extract_data, List.drop_zero, Nat.sub_zero, List.take_left' (by rw [ba_len]; omega)])
    simp only [if_pos h12] at *
    rw [if_neg (by rw [e1]; omega), e1, e2]
    rw [ba_len] at hz
    congr 3
    omega
  · rw [if_neg h12] at ht hz ⊢
    subst ht
    have e1 : (⟨R.toArray⟩ : ByteArray).size = R.length := by rw [← ba_len]
    simp only [if_neg h12, List.nil_append, List.length_nil] at *
    rw [e1]
    congr 3
    omega
theorem laidOf_eq {sort : Nat} (h5 : sort < 5) {n : Int} (n0 : 0 ≤ n) (n2 : sort ≠ 0 → n ≤ 65535) (t : ByteArray) : laidOf sort n t = laidP sort n t := by
  have hh : headB (rowFor sort n) n = headP sort n := by
    match sort, h5 with
    | 0, _ =>
      rw [headP0]; unfold rowFor; simp only []
      by_cases c1 : n < 128
      · rw [if_pos c1, if_pos c1]; unfold headB; rw [if_pos rfl, Int.zero_add]
      · rw [if_neg c1, if_neg c1]
        by_cases c2 : n < 256
        · rw [if_pos c2, if_pos c2]; rfl
        · rw [if_neg c2, if_neg c2]
          by_cases c3 : n < 65536
          · rw [if_pos c3, if_pos c3]; rfl
          · rw [if_neg c3, if_neg c3]
            by_cases c4 : n < 4294967296
            · rw [if_pos c4, if_pos c4]; rfl
            · rw [if_neg c4, if_neg c4]; rfl
    | 1, _ =>
      have n2 := n2 (by decide)
      rw [headP1 (by omega)]; unfold rowFor; simp only []
      by_cases c1 : n < 256
      · rw [if_pos c1, if_pos c1]; rfl
      · rw [if_neg c1, if_neg c1]; rfl
    | 2, _ =>
      have n2 := n2 (by decide)
      rw [headP2 (by omega)]; unfold rowFor; simp only []
      by_cases c1 : n < 32
      · rw [if_pos c1, if_pos c1]; rfl
      · rw [if_neg c1, if_neg c1]
        by_cases c2 : n < 256
        · rw [if_pos c2, if_pos c2]; rfl
        · rw [if_neg c2, if_neg c2]; rfl
    | 3, _ =>
      have n2 := n2 (by decide)
      rw [headP3 (by omega)]; unfold rowFor; simp only []
      by_cases c1 : n < 16
      · rw [if_pos c1, if_pos c1]; rfl
      · rw [if_neg c1, if_neg c1]; rfl
    | 4, _ =>
      have n2 := n2 (by decide)
      rw [headP4 (by omega)]; unfold rowFor; simp only []
      by_cases c1 : n < 16
      · rw [if_pos c1, if_pos c1]; rfl
      · rw [if_neg c1, if_neg c1]; rfl
  refine ba_ext ?_
  unfold laidOf laidP
  rw [hh, ByteArray.data_append, Array.toList_append, baL_list]
  by_cases h12 : sort = 1 ∨ sort = 2
  · rw [if_pos h12, if_pos h12]
  · rw [if_neg h12, if_neg h12]; rfl
end Go.Proofs.YtihiaopilnjonaaGreatDoor
