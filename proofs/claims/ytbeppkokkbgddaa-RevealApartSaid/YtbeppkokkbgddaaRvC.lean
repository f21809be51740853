/- Package reveal: a coin falls (Choose's inner function). -/
import Derived.Test.YtbeppkokkbgddaaRvB
import Derived.Test.YtbeppkokkbgddaaRvK
namespace Go.Proofs.Ytbeppkokkbgddaa
open Go.RowKit Go.ChangeMaps
set_option linter.unusedSimpArgs false
set_option linter.unusedVariables false

/-- What Choose holds while coins fall. -/
structure ChSt (w0 : World) (B : Nat) (w : World) (ps ks : List Int) : Prop where
  lay : Boxed w w0.heap.size 44 (.pointer (some ⟨B, 0, none⟩))
  pos : ∃ v, Boxed w (w0.heap.size + 1) 28 v ∧ w.ownsRow w0.heap.size 22 1 v (len ps) (ps.map (Value.int .u64))
  rev : Boxed w (w0.heap.size + 2) 28 (.slice none 0 0)
  map : w.heap[w0.heap.size + 3]? = some (mObj .u64 0 (kv ks))
  name : Boxed w (w0.heap.size + 4) 71 (.map (some (w0.heap.size + 3)))
  bel : Below w0.heap.size w0 w
theorem box_below {w w' : World} {b : Nat} {t : TypeId} {v : Value} (h : Boxed w b t v) (hb : Below w.heap.size w w') : Boxed w' b t v := (hb.block _ h.lt).trans h
theorem ChSt.below {w0 w w' : World} {B : Nat} {ps ks : List Int} (h : ChSt w0 B w ps ks) (hb : Below w.heap.size w w') : ChSt w0 B w' ps ks where
  lay := box_below h.lay hb
  pos := by obtain ⟨v, h1, h2⟩ := h.pos; exact ⟨v, box_below h1 hb, own_below h2 hb⟩
  rev := box_below h.rev hb
  map := (hb.block _ (lt_of_block h.map)).trans h.map
  name := box_below h.name hb
  bel := bnext h.bel hb

theorem own_not_map {w : World} {base e n b m : Nat} {v : Value} {xs : List Value} {l : List (Int × Value)} (h : w.ownsRow base e 1 v n xs) (hm : w.heap[b]? = some (mObj .u64 m l)) : v.ownBlock = none ∨ v.ownBlock ≠ some b := by
  rcases h.2 with ⟨rfl, _⟩ | ⟨g, cap, cur, rfl, _, hgb, _⟩
  · exact .inl rfl
  · right
    intro e
    obtain rfl : g = b := by simpa [Value.ownBlock] using e
    rw [hgb] at hm; unfold mObj at hm; cases hm
theorem ChSt.fell {w0 w1 w2 : World} {B : Nat} {ps ks : List Int} {v v' : Value} {tmp : Obj} {y : Int} (h : ChSt w0 B w1 ps ks) (bx : Boxed w1 (w0.heap.size + 1) 28 v) (own : w1.ownsRow w0.heap.size 22 1 v (len ps) (ps.map (Value.int .u64)))
    (hown' : w2.ownsRow w0.heap.size 22 1 v' (len ps + 1) (ps.map (Value.int .u64) ++ [.int .u64 y])) (hgrow : (w1.alloc tmp).grownBy w2 v.ownBlock) :
    ChSt w0 B (w2.setCell ⟨w0.heap.size + 1, 0, none⟩ v') (ps ++ [y]) ks := by
  obtain ⟨hv1, hv2, hr2, hk2, hb2⟩ := bx.appended (by decide) own h.bel.size (Nat.le_succ _) hown' hgrow
  have other : ∀ {b : Nat} {t : TypeId} {u : Value}, Boxed w1 b t u → t ≠ 22 → b ≠ w0.heap.size + 1 → Boxed (w2.setCell ⟨w0.heap.size + 1, 0, none⟩ v') b t u := fun hb ht hne => Boxed.other ((hb.alloc tmp).kept hgrow (hb.not_row ht own)) hne v'
  refine ⟨other h.lay (by decide) (by omega), ⟨v', hv2, ?_⟩, other h.rev (by decide) (by omega), ?_, other h.name (by decide) (by omega), h.bel.trans hb2⟩
  · have e1 : len (ps ++ [y]) = len ps + 1 := by rw [len_eq, len_eq]; simp
    rw [e1, List.map_append]
    exact hr2
  · exact hk2.same _ _ h.map rfl
theorem ChSt.put {w0 w : World} {B : Nat} {ps ks : List Int} (h : ChSt w0 B w ps ks) (y : Int) : ChSt w0 B (setBlock w (w0.heap.size + 3) (mObj .u64 0 (mPut (kv ks) y (.bool true)))) ps (insK ks y) := by
  have hg := setBlock_grown w (w0.heap.size + 3) (mObj .u64 0 (mPut (kv ks) y (.bool true)))
  have other : ∀ {b : Nat} {t : TypeId} {u : Value}, Boxed w b t u → b ≠ w0.heap.size + 3 → Boxed (setBlock w (w0.heap.size + 3) (mObj .u64 0 (mPut (kv ks) y (.bool true)))) b t u := fun hb hne => hb.kept hg (fun e => hne (by cases e; rfl))
  obtain ⟨v, h1, h2⟩ := h.pos
  exact ⟨other h.lay (by omega), ⟨v, other h1 (by omega), h2.kept hg (own_not_map h2 h.map)⟩, other h.rev (by omega), by rw [← kv_put]; exact setBlock_same h.map, other h.name (by omega), setBlock_below h.bel (by omega)⟩

def FellIs (w0 : World) (B : Nat) (E W : List Int) (x : Int) (ps ks : List Int) (e : Ending) (w' : World) : Prop :=
  ∃ k : Nat, CutAt E x k ∧ e = .returned (.bool (decide (k < len E))) ∧ ChSt w0 B w' (if k < len E then ps ++ [nth W k] else ps) (if k < len E then insK ks (nth W k) else ks)

set_option maxRecDepth 100000 in
set_option maxHeartbeats 4000000 in
theorem fell_any (w0 : World) (B : Nat) (E W S ps ks : List Int) (x : Int) (w : World) (hst : ChSt w0 B w ps ks) (hl : LayB w0 B E W S) (hew : len W = len E) (hn : len E ≤ 1000000) (hs : Ups E) (hps : len ps ≤ 1000) :
    Calls Try.prog 53 #[.int .u64 x, .pointer (some ⟨w0.heap.size, 0, none⟩), .pointer (some ⟨w0.heap.size + 1, 0, none⟩), .pointer (some ⟨w0.heap.size + 4, 0, none⟩)] w (FellIs w0 B E W x ps ks) := by
  have HST := Lib.hid hst
  have HLB := Lib.hid (hl.below hst.bel)
  have HEW := Lib.hid hew
  have HS := Lib.hid hs
  have hc := hst.lay.cell
  obtain ⟨i0, hi, hz0, hz1, hz2⟩ := info_parts info_u64
  have HZ := Lib.hid hz0
  clear hst hl hew hs
  go_enter Try.func53, Try.ntmps53
  go_wp2_with fail
  refine (find_any B E W S x w HLB.out HEW.out hn HS.out).mono ?_
  rintro e w1 ⟨k, hk, rfl, hb⟩
  have K := Lib.hid hk
  have ST1 := Lib.hid (HST.out.below hb)
  clear hk hb hc HST HLB
  by_cases hlt : k < len E
  · have hv : findV E W k = .tuple #[.int .u64 (nth W k), .bool true] := by unfold findV; rw [if_pos hlt]
    rw [hv]
    obtain ⟨y, hy⟩ : ∃ y, nth W k = y := ⟨_, rfl⟩
    have HY := Lib.hid hy
    rw [hy]
    clear hv hy
    obtain ⟨v, bx, own⟩ := ST1.out.pos
    have cx := bx.cell
    have BX := Lib.hid bx
    have OW := Lib.hid own
    clear bx own
    go_wp2_with (at_builtin; refine wpList_append_own _ rfl _ _ 28 rfl w0.heap.size 22 i0 (.int .u64 0) 1 8 Try.underlying28 hi HZ.out hz1 hz2 rfl (by decide) _ _ _ rfl (OW.out.alloc _) ⟨w1.heap.size, 0, none⟩ 1 1 [.int .u64 y] rfl rfl (cell_one_new _ _ _) (by simp [Value.oneCell']) (by unfold maxLen; omega) (by omega) (by have := ST1.out.bel.size; simp; omega) ?_)
    intro v' w2 hown' hgrow _
    obtain ⟨g', cap', rfl⟩ := ownsRow_succ hown'
    have hv1 := (BX.out.appended (by decide) OW.out ST1.out.bel.size (by omega) hown' hgrow).1
    have ST2 := Lib.hid (ST1.out.fell BX.out OW.out hown' hgrow)
    have hc1 := hv1.cell
    have hf1 := hv1.frozen
    have cn : (w2.setCell ⟨w0.heap.size + 1, 0, none⟩ (.slice (some ⟨g', 0, none⟩) (len ps + 1) cap')).cell? ⟨w0.heap.size + 4, 0, none⟩ = some (.map (some (w0.heap.size + 3))) := ST2.out.name.cell
    clear hv1 hown' hgrow cx
    go_wp2_with (at_mapUpdate; refine wpList_mapUpdate_m rfl _ _ _ 71 22 4 .u64 rfl Try.underlying71 Try.underlying22 (w0.heap.size + 3) 0 _ rfl ST2.out.map _ _ rfl rfl ?_)
    go_ret
    exact ⟨k, K.out, by rw [decide_eq_true hlt]; rfl, by rw [if_pos hlt, if_pos hlt, HY.out]; exact ST2.out.put y⟩
  · have hv : findV E W k = .tuple #[.int .u64 0, .bool false] := by unfold findV; rw [if_neg hlt]
    rw [hv]
    clear hv
    go_wp2
    go_ret
    exact ⟨k, K.out, by rw [decide_eq_false hlt]; rfl, by rw [if_neg hlt, if_neg hlt]; exact ST1.out⟩
end Go.Proofs.Ytbeppkokkbgddaa
