/- The statements of layer 20: split; appending what any slice reads as. -/
import Derived.Test.YtbeppkokkbgddaaRfC
namespace Go.Proofs.Ytbeppkokkbgddaa
open Go.RowKit
set_option linter.unusedSimpArgs false
set_option linter.unusedVariables false

def rth (l : List (Int × Bool)) (i : Nat) : Int × Bool := l.getD i (0, false)
theorem rth_eq (l : List (Int × Bool)) (i : Nat) (h : i < l.length) : rth l i = l[i] := by
  unfold rth; rw [List.getD_eq_getElem?_getD, List.getElem?_eq_getElem h]; rfl
/-- A slice that reads as these rows. -/
def RowsB (w : World) (a : Option Addr) (l : List (Int × Bool)) : Prop := ∀ i, i < len l → ∃ b off, a = some ⟨b, off, none⟩ ∧ w.cell? ⟨b, off + i * 2, none⟩ = some (.int .u64 (rth l i).1) ∧ w.cell? ⟨b, off + i * 2 + 1, none⟩ = some (.bool (rth l i).2)
theorem RowsB.below {w w' : World} {a : Option Addr} {l : List (Int × Bool)} (h : RowsB w a l) (hb : Below w.heap.size w w') : RowsB w' a l := fun i hi => by
  obtain ⟨b, off, rfl, hc, hd⟩ := h i hi
  exact ⟨b, off, rfl, by rw [hb.cell (p := ⟨b, off + i * 2, none⟩) (lt_of_cell hc)]; exact hc, by rw [hb.cell (p := ⟨b, off + i * 2 + 1, none⟩) (lt_of_cell hd)]; exact hd⟩
/-- The weights and the signed ones of rows. -/
def wOf (l : List (Int × Bool)) : List Int := l.map fun r => max 1 r.1
def sOf (l : List (Int × Bool)) : List Bool := l.map (·.2)
theorem own_bls {w : World} {base e n : Nat} {v : Value} {l : List Bool} (h : w.ownsRow base e 1 v n (l.map Value.bool)) : ∃ a cap, v = .slice a n cap ∧ Bls w a l ∧ l.length = n := by
  have hn : l.length = n := by have := h.1; simpa using this
  obtain ⟨h1, h2⟩ := h
  rcases h2 with ⟨rfl, h2⟩ | ⟨g, cap, cur, rfl, hg, hh, hc1, hc2, hc3, hc4⟩
  · obtain rfl : l = [] := List.eq_nil_of_length_eq_zero (by omega)
    exact ⟨none, 0, by simp at hn; subst hn; rfl, fun i hi => by simp at hi, hn⟩
  · refine ⟨some ⟨g, 0, none⟩, cap, rfl, fun i hi => ⟨g, 0, rfl, ?_⟩, hn⟩
    have hown : w.ownsRow base e 1 (.slice (some ⟨g, 0, none⟩) n cap) n (l.map Value.bool) := ⟨h1, .inr ⟨g, cap, cur, rfl, hg, hh, hc1, hc2, hc3, hc4⟩⟩
    have := hown.cellAt i (by omega)
    rw [Nat.zero_add, this, List.getElem?_map, List.getElem?_eq_getElem hi, List.getD_eq_getElem?_getD, List.getElem?_eq_getElem hi]; rfl

def SplitIs (l : List (Int × Bool)) (w : World) (e : Ending) (w' : World) : Prop :=
  ∃ v1 v2 : Value, e = .returned (.tuple #[v1, v2]) ∧ w'.ownsRow w.heap.size 22 1 v1 (len l) ((wOf l).map (Value.int .u64)) ∧ w'.ownsRow w.heap.size 4 1 v2 (len l) ((sOf l).map Value.bool) ∧ Below w.heap.size w w'

theorem take_snoc_of {l : List (Int × Bool)} {n : Nat} (h : n < len l) : l.take (n + 1) = l.take n ++ [rth l n] := by
  rw [List.take_succ_eq_append_getElem h, rth_eq l n h]

set_option maxRecDepth 100000 in
set_option maxHeartbeats 4000000 in
theorem split_any (a : Option Addr) (c : Nat) (l : List (Int × Bool)) (w : World) (hl : RowsB w a l) (hlen : len l ≤ 9223372036854775807) (hr : ∀ i, 0 ≤ (rth l i).1 ∧ (rth l i).1 < 18446744073709551616) :
    Calls Try.prog 26 #[.slice a (len l) c] w (SplitIs (l.take 300) w) := by
  have HL := Lib.hid hl
  have HR := Lib.hid hr
  clear hl hr
  obtain ⟨i0, hi, hz0, hz1, hz2⟩ := info_parts info_u64
  obtain ⟨j0, hj, hy0, hy1, hy2⟩ := info_parts info_bool
  have HZ := Lib.hid hz0
  have HY := Lib.hid hy0
  obtain ⟨m, hm⟩ : ∃ m, m = min (len l) 300 := ⟨_, rfl⟩
  go_enter Try.func26, Try.ntmps26
  go_wp2
  go_loopg [4, 5, 6] m (fun g v u i wr => ∃ n : Nat, g + n = m ∧ i = .int .i64 n ∧ Below w.heap.size w wr ∧ Hid (wr.ownsRow w.heap.size 22 1 v n ((wOf (l.take n)).map (Value.int .u64))) ∧ Hid (wr.ownsRow w.heap.size 4 1 u n ((sOf (l.take n)).map Value.bool)))
  case atStart => exact ⟨0, rfl, rfl, Below.refl _ _, World.ownsRow_nil _ _ _ _, World.ownsRow_nil _ _ _ _⟩
  case round =>
    obtain ⟨n, hn, rfl, hd, hV, hU⟩ := hrel
    by_cases hlt : n < m
    · obtain ⟨b, off, rfl, cx, cb⟩ := HL.out.below hd n (by omega)
      have hx := HR.out n
      have hsn : l.take (n + 1) = l.take n ++ [rth l n] := take_snoc_of (by omega)
      have HSN := Lib.hid hsn
      obtain ⟨x, hx0⟩ : ∃ x, (rth l n).1 = x := ⟨_, rfl⟩
      obtain ⟨y, hy0⟩ : ∃ y, (rth l n).2 = y := ⟨_, rfl⟩
      have HX := Lib.hid hx0
      have HYY := Lib.hid hy0
      rw [hx0] at cx hx
      rw [hy0] at cb
      have b0 : (n : Int) < len l := by omega
      have b1 : (n : Int) < 300 := by omega
      clear hsn hx0 hy0
      go_wp2_with (at_builtin; refine wpList_append_own _ rfl _ _ 28 rfl w.heap.size 22 i0 (.int .u64 0) 1 8 Try.underlying28 hi HZ.out hz1 hz2 rfl (by decide) _ _ _ rfl (hV.out.alloc _) ⟨wr.heap.size, 0, none⟩ 1 1 [.int .u64 (max 1 x)] rfl rfl (cell_one_new _ _ _) (by simp [Value.oneCell']) (by unfold maxLen; omega) (by omega) (by have := hd.size; simp; omega) ?_)
      intro v' w2 hown' hgrow _
      have HD2 : Hid (Below w.heap.size w w2) := Lib.hid (grownBy_below (balloc hd _) hgrow (fun k hk => (hV.out.lt k hk).1))
      have HV2 : Hid (w2.ownsRow w.heap.size 22 1 v' (n + 1) ((wOf (l.take (n + 1))).map (Value.int .u64))) := Lib.hid (by
        rw [HSN.out]; unfold wOf; rw [List.map_append, List.map_append, List.map_cons, List.map_nil, HX.out]; exact hown')
      have HU2 := Lib.hid ((hU.out.alloc _).kept hgrow (own_apart hU.out hV.out (by decide)))
      have cb2 : w2.cell? ⟨b, off + n * 2 + 1, none⟩ = some (.bool y) := by
        obtain ⟨b', off', hbo, _, cb'⟩ := HL.out.below HD2.out n (by omega)
        cases hbo
        rw [HYY.out] at cb'; exact cb'
      clear hown' hgrow cx cb hV hU
      go_wp2_with (at_builtin; refine wpList_append_own _ rfl _ _ 41 rfl w.heap.size 4 j0 (.bool false) 1 1 Try.underlying41 hj HY.out hy1 hy2 rfl (by decide) _ _ _ rfl (HU2.out.alloc _) ⟨w2.heap.size, 0, none⟩ 1 1 [.bool y] rfl rfl (cell_one_new _ _ _) (by simp [Value.oneCell']) (by unfold maxLen; omega) (by omega) (by have := HD2.out.size; simp; omega) ?_)
      intro u' w3 hown' hgrow _
      have HD3 : Hid (Below w.heap.size w w3) := Lib.hid (grownBy_below (balloc HD2.out _) hgrow (fun k hk => (HU2.out.lt k hk).1))
      have HU3 : Hid (w3.ownsRow w.heap.size 4 1 u' (n + 1) ((sOf (l.take (n + 1))).map Value.bool)) := Lib.hid (by
        rw [HSN.out]; unfold sOf; rw [List.map_append, List.map_append, List.map_cons, List.map_nil, HYY.out]; exact hown')
      have HV3 := Lib.hid ((HV2.out.alloc _).kept hgrow (own_apart HV2.out HU2.out (by decide)))
      clear hown' hgrow cb2 HV2 HU2 HD2
      go_wp2
      go_roundg (m - (n + 1))
      case rel => exact ⟨n + 1, by omega, by go_num, HD3.out, HV3.out, HU3.out⟩
      case measure => omega
    · obtain rfl : n = m := by omega
      have hln : len (l.take 300) = n := by rw [len_eq, List.length_take]; have : l.length = len l := rfl; omega
      have htk : l.take n = l.take 300 := by
        by_cases h : len l ≤ 300
        · rw [List.take_of_length_le (i := 300) h, List.take_of_length_le (i := n) (by rw [len_eq] at *; omega)]
        · rw [show n = 300 by omega]
      have HLN := Lib.hid hln
      have HTK := Lib.hid htk
      clear hln htk
      by_cases h0 : n < len l
      · have q1 : (n : Int) < len l := by omega
        have q2 : ¬ (n : Int) < 300 := by omega
        go_wp2
        go_ret2
        exact ⟨_, _, rfl, by rw [HLN.out, ← HTK.out]; exact hV.out, by rw [HLN.out, ← HTK.out]; exact hU.out, hd⟩
      · have q1 : ¬ (n : Int) < len l := by omega
        go_wp2
        go_ret2
        exact ⟨_, _, rfl, by rw [HLN.out, ← HTK.out]; exact hV.out, by rw [HLN.out, ← HTK.out]; exact hU.out, hd⟩

/-- What any slice reads as is appended. -/
theorem u64s_news {w : World} {ad : Addr} {l : List Int} (h : U64s w (some ad) l) : ∀ j u, (l.map (Value.int .u64))[j]? = some u → w.cell? (ad.add j) = some u := by
  intro j u hu
  have hj : j < l.length := by have := (List.getElem?_eq_some_iff.1 hu).1; simpa using this
  rw [List.getElem?_map, List.getElem?_eq_getElem hj] at hu
  cases hu
  obtain ⟨b, off, e, hc⟩ := h j hj
  cases e
  rw [nth_eq l j hj] at hc
  by_cases hj0 : j = 0
  · subst hj0; simpa [Addr.add] using hc
  · simpa [Addr.add, hj0] using hc
theorem wpList_append_u64s {w : World} {ops : Array Oper} {rest : List Oper} {o : Oper} {a : Act} {Q : Exit → Act → World → Prop} (hgd : o.guard = none) (s x : Operand)
    (ho : o.op = .call { callee := .builtin .append, args := #[s, x], argTypes := #[28, 28] })
    (base : Nat) (v : Value) (xs l : List Int) (ad : Option Addr) (c : Nat) (hs : a.eval s = v) (hown : w.ownsRow base 22 1 v (len xs) (xs.map (Value.int .u64)))
    (hx : a.eval x = .slice ad (len l) c) (hl : U64s w ad l) (hc : ad = none → c = 0) (hlen : len xs + len l ≤ 100000) (hbase : base ≤ w.heap.size)
    (h : ∀ v' w', w'.ownsRow base 22 1 v' (len (xs ++ l)) ((xs ++ l).map (Value.int .u64)) → w.grownBy w' v.ownBlock → wpList Try.prog ops Q rest (a.put o.dst v') w') : wpList Try.prog ops Q (o :: rest) a w := by
  obtain ⟨i0, hi, hz0, hz1, hz2⟩ := info_parts info_u64
  cases ad with
  | none =>
    obtain rfl : l = [] := by
      cases l with
      | nil => rfl
      | cons y l => obtain ⟨b, off, e, _⟩ := hl 0 (by simp [len]); cases e
    rw [hc rfl] at hx
    refine wpList_append_own_none hgd s x 28 ho base 22 i0 1 Try.underlying28 hi v _ _ hs hown hx ?_
    exact h v w (by rw [List.append_nil]; exact hown) ⟨rfl, rfl, rfl, Nat.le_refl _, fun _ _ _ => rfl⟩
  | some ad =>
    refine wpList_append_own _ hgd s x 28 ho base 22 i0 (.int .u64 0) 1 8 Try.underlying28 hi hz0 hz1 hz2 rfl (by decide) v _ _ hs hown ad (len l) c (l.map (Value.int .u64)) hx (by simp [len]) (u64s_news hl) (part_one l) (by unfold maxLen; omega) (by omega) hbase ?_
    intro v' w' h1 h2 _
    refine h v' w' ?_ h2
    have e : len (xs ++ l) = len xs + len l := by simp [len]
    rw [e, List.map_append]; exact h1
theorem u64s_take {w : World} {a : Option Addr} {l : List Int} (h : U64s w a l) (k : Nat) : U64s w a (l.take k) := fun i hi => by
  have hi2 : i < k ∧ i < l.length := by rw [len_eq, List.length_take] at hi; omega
  obtain ⟨b, off, e, hc⟩ := h i hi2.2
  refine ⟨b, off, e, ?_⟩
  have hi3 : i < (l.take k).length := hi
  rw [hc, nth_eq l i hi2.2, nth_eq (l.take k) i hi3, List.getElem_take]

set_option maxRecDepth 100000 in
theorem slice_to {n c k : Nat} (b0 : Option Addr) (hk : k ≤ c) (W : World) : (Instr.slice 28 (.slice b0 n c) none (some (.int .i64 (k : Int))) none).run Try.prog W = .ok (.slice b0 k c) W := by
  have hsz : (sizeOf (Try.prog.elem 28)).run Try.prog W = .ok 1 W := by kernel_rfl
  rw [run_slice_h (P := Try.prog) W 28 b0 n c Try.underlying28 .i64 (k : Int) (by omega) (by omega), hsz]
  simp only [Result.andThen, sliced, Int.toNat_natCast, Nat.sub_zero, Nat.zero_mul]
  have e : (b0.map (·.add 0)) = b0 := by cases b0 <;> simp [Addr.add]
  rw [e]
  split <;> rfl
/-- What Choose hands back, both ways. -/
def ChO (ps rs : List Int) (err : Int) (w : World) (e : Ending) (w' : World) : Prop :=
  ∃ a1 c1 a2 c2, e = .returned (.tuple #[.slice a1 (len ps) c1, .slice a2 (len rs) c2, .int .i64 err]) ∧ U64s w' a1 ps ∧ U64s w' a2 rs ∧ (a1 = none → c1 = 0) ∧ (a2 = none → c2 = 0) ∧ Below w.heap.size w w'
theorem chO_none {err : Int} {w w' : World} {e : Ending} (h : NoneIs err w e w') : ChO [] [] err w e w' := by
  obtain ⟨rfl, hb⟩ := h
  exact ⟨none, 0, none, 0, rfl, U64s.nil _ _, U64s.nil _ _, fun _ => rfl, fun _ => rfl, hb⟩
theorem own_u64n {w : World} {base e n : Nat} {v : Value} {l : List Int} (h : w.ownsRow base e 1 v n (l.map (Value.int .u64))) : ∃ a c, v = .slice a (len l) c ∧ U64s w a l ∧ (a = none → c = 0) := by
  obtain ⟨a, c, h1, h2⟩ := own_u64s h
  refine ⟨a, c, h1, h2, fun e => ?_⟩
  subst e
  rcases h.2 with ⟨h3, _⟩ | ⟨g, cap, cur, h3, _⟩
  · rw [h1] at h3; simp at h3; exact h3.2
  · rw [h1] at h3; simp at h3
theorem chO_chosen {ps rs : List Int} {w w' : World} {e : Ending} (h : ChosenIs ps rs w e w') : ChO ps rs 0 w e w' := by
  obtain ⟨v1, v2, rfl, o1, o2, hb⟩ := h
  obtain ⟨a1, c1, h1, u1, n1⟩ := own_u64n o1
  obtain ⟨a2, c2, h2, u2, n2⟩ := own_u64n o2
  exact ⟨a1, c1, a2, c2, by rw [h1, h2], u1, u2, n1, n2, hb⟩
theorem chO_any (E W coins : List Int) : ∃ ps rs err, len ps ≤ len coins ∧ len rs ≤ len coins ∧ ∀ w e w', ChooseIs E W coins w e w' → ChO ps rs err w e w' := by
  by_cases h : ∀ c ∈ coins, cutN E c < len E
  · refine ⟨coins.map (fallN E W), srt (insAll (coins.map (fallN E W))), 0, by simp [len], ?_, fun w e w' hc => ?_⟩
    · have h1 := (insAll_all (coins.map (fallN E W))).2.2
      have h2 : len (srt (insAll (coins.map (fallN E W)))) = (insAll (coins.map (fallN E W))).length := by rw [len_eq, srt_len]
      rw [h2]
      refine Nat.le_trans h1 ?_
      simp [len]
    · rcases hc with ⟨_, hc⟩ | ⟨⟨c, h1, h2⟩, _⟩
      · exact chO_chosen hc
      · exact absurd (h c h1) h2
  · refine ⟨[], [], 9, Nat.zero_le _, Nat.zero_le _, fun w e w' hc => ?_⟩
    rcases hc with ⟨h1, _⟩ | ⟨_, hc⟩
    · exact absurd h1 h
    · exact chO_none hc
theorem nums_same (a b : Option Addr) (ca cb : Nat) (l : List Int) (w : World) (ha : U64s w a l) (hb : U64s w b l) (hl : len l ≤ 100000) :
    Calls Try.prog 33 #[.slice a (len l) ca, .slice b (len l) cb] w fun e w' => e = .returned (.bool true) ∧ Below w.heap.size w w' := by
  refine (numbers_any a b ca cb l l w ha hb (by omega) (by omega)).mono ?_
  rintro e w' ⟨rfl, hd⟩
  exact ⟨by simp [numbersB], hd.below _⟩
end Go.Proofs.Ytbeppkokkbgddaa
