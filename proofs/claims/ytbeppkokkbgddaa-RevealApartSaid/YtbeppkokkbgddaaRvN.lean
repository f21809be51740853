/- Package slots: New. -/
import Derived.Test.YtbeppkokkbgddaaRvB
import Derived.Test.YtbeppkokkbgddaaRegionV
import Derived.Test.YtbeppkokkbgddaaRefN
import Derived.Laws.Externs
import Derived.Laws.EntriesVeiled
import Derived.Deep.LoopGhost
namespace Go.Proofs.Ytbeppkokkbgddaa
open Go.RowKit
set_option linter.unusedSimpArgs false
set_option linter.unusedVariables false

/-- A slice that reads as these booleans. -/
def Bls (w : World) (a : Option Addr) (l : List Bool) : Prop := ∀ i, i < l.length → ∃ b off, a = some ⟨b, off, none⟩ ∧ w.cell? ⟨b, off + i, none⟩ = some (.bool (l.getD i false))
theorem Bls.below {w w' : World} {a : Option Addr} {l : List Bool} (h : Bls w a l) (hb : Below w.heap.size w w') : Bls w' a l := fun i hi => by
  obtain ⟨b, off, rfl, hc⟩ := h i hi
  exact ⟨b, off, rfl, by rw [hb.cell (p := ⟨b, off + i, none⟩) (lt_of_cell hc)]; exact hc⟩
def sg (Ss : List Bool) (i : Nat) : Bool := Ss.getD i false
/-- The signed weight ahead of a position. -/
def smK (Ws : List Int) (Ss : List Bool) : Nat → Int
  | 0 => 0
  | k + 1 => smK Ws Ss k + if sg Ss k then nth Ws k else 0
def endK (Ws : List Int) (Ss : List Bool) : Nat → List Int
  | 0 => []
  | k + 1 => if sg Ss k then endK Ws Ss k ++ [smK Ws Ss (k + 1)] else endK Ws Ss k
def whoK (Ss : List Bool) : Nat → List Int
  | 0 => []
  | k + 1 => if sg Ss k then whoK Ss k ++ [(k : Int)] else whoK Ss k
def allK (Ws : List Int) (Ss : List Bool) : Nat → List Int
  | 0 => [0]
  | k + 1 => allK Ws Ss k ++ [smK Ws Ss (k + 1)]
theorem allK_len (Ws : List Int) (Ss : List Bool) : ∀ k, len (allK Ws Ss k) = k + 1
  | 0 => rfl
  | k + 1 => by
    have := allK_len Ws Ss k
    rw [len_eq] at this
    simp only [allK]
    rw [len_eq, List.length_append, this]; rfl
theorem who_end (Ws : List Int) (Ss : List Bool) : ∀ k, len (whoK Ss k) = len (endK Ws Ss k)
  | 0 => rfl
  | k + 1 => by
    have := who_end Ws Ss k
    simp only [whoK, endK]
    rw [len_eq, len_eq] at this
    split
    · rw [len_eq, len_eq, List.length_append, List.length_append, this]; rfl
    · rw [len_eq, len_eq]; exact this
theorem end_len (Ws : List Int) (Ss : List Bool) : ∀ k, len (endK Ws Ss k) ≤ k
  | 0 => Nat.le_refl _
  | k + 1 => by
    have := end_len Ws Ss k
    simp only [endK]
    rw [len_eq] at this
    split
    · rw [len_eq, List.length_append]; simp; exact this
    · rw [len_eq]; omega
theorem allK_nth (Ws : List Int) (Ss : List Bool) : ∀ k i, i ≤ k → nth (allK Ws Ss k) i = smK Ws Ss i
  | 0, i, h => by
    obtain rfl : i = 0 := by omega
    rfl
  | k + 1, i, h => by
    have hl := allK_len Ws Ss k
    rw [len_eq] at hl
    simp only [allK]
    unfold nth
    rw [List.getD_eq_getElem?_getD]
    by_cases e : i = k + 1
    · subst e; rw [List.getElem?_append_right (by omega)]; simp [hl]
    · rw [List.getElem?_append_left (by omega), ← List.getD_eq_getElem?_getD]
      exact allK_nth Ws Ss k i (by omega)

theorem add64_any (x y : Nat) (w : World) (hx : x < 18446744073709551616) (hy : y < 18446744073709551616) :
    (callFunc 50 #[.int .u64 x, .int .u64 y, .int .u64 0]).run Try.prog w =
      .ok (.value (.tuple #[.int .u64 (((x + y) % 18446744073709551616 : Nat) : Int), .int .u64 (((x + y) / 18446744073709551616 : Nat) : Int)])) w := by
  rw [run_callFunc_extern Try.func50 (by kernel_rfl) (by kernel_rfl) (by kernel_rfl) (e := add64Entry) (by kernel_rfl), run_add64 x y 0 (by omega) (by omega) (by omega) (by omega)]
  simp only [Result.andThen]
  congr 5 <;> omega

set_option maxRecDepth 100000 in
theorem idx0_any (a : Option Addr) (c : Nat) (l : List Int) (w : World) (hl : U64s w a l) (hn : len l ≤ 1000000) (h0 : ∀ i, i < len l → 1 ≤ nth l i) :
    Calls Try.prog 66 #[.slice a (len l) c, .int .u64 0] w fun e w' => e = .returned (.int .i64 (-1)) ∧ w = w' := by
  have HL := Lib.hid hl
  have H0 := Lib.hid h0
  clear hl h0
  go_enter Try.func66, Try.ntmps66
  go_wp2
  go_loopg [5, 8] (len l) (fun g _ i wr => ∃ m : Nat, g + m = len l ∧ i = .int .i64 m ∧ w = wr)
  case atStart => exact ⟨0, rfl, rfl, rfl⟩
  case round =>
    obtain ⟨m, hm, rfl, rfl⟩ := hrel
    by_cases hlt : m < len l
    · obtain ⟨b, off, rfl, hc⟩ := HL.out m hlt
      have h1 := H0.out m hlt
      have h2 : ((0 : Int) == nth l m) = false := by simp; omega
      have i1 : (m : Int) < len l := by omega
      go_wp2
      go_roundg (len l - (m + 1))
      case rel => exact ⟨m + 1, by omega, by go_num, rfl⟩
      case measure => omega
    · have i1 : ¬ (m : Int) < len l := by omega
      go_wp2
      go_ret
      exact ⟨rfl, rfl⟩
theorem contains0_any (a : Option Addr) (c : Nat) (l : List Int) (w : World) (hl : U64s w a l) (hn : len l ≤ 1000000) (h0 : ∀ i, i < len l → 1 ≤ nth l i) :
    Calls Try.prog 49 #[.slice a (len l) c, .int .u64 0] w fun e w' => e = .returned (.bool false) ∧ w = w' := by
  have H := Lib.hid (idx0_any a c l w hl hn h0)
  clear hl h0
  go_enter Try.func49, Try.ntmps49
  go_wp2_with fail
  refine H.out.mono ?_
  rintro e w' ⟨rfl, rfl⟩
  go_wp2
  go_ret
  exact ⟨rfl, rfl⟩

/-- Two rows lie apart. -/
def Ap (u v : Value) : Prop := ∀ g, u.ownBlock = some g → v.ownBlock ≠ some g
/-- What New holds behind so many positions. -/
structure NewSt (w : World) (Ws : List Int) (Ss : List Bool) (wr : World) (m : Nat) (ev wv sv : Value) : Prop where
  blk : wr.heap[w.heap.size + 1]? = some (.cells #[ev, wv, sv, .nilFunc] 84 (0, 0))
  oe : wr.ownsRow w.heap.size 22 1 ev (len (endK Ws Ss m)) ((endK Ws Ss m).map (Value.int .u64))
  ow : wr.ownsRow w.heap.size 22 1 wv (len (endK Ws Ss m)) ((whoK Ss m).map (Value.int .u64))
  os : wr.ownsRow w.heap.size 22 1 sv (m + 1) ((allK Ws Ss m).map (Value.int .u64))
  ap : Ap ev wv ∧ Ap ev sv ∧ Ap wv sv
  bel : Below w.heap.size w wr

theorem smK_nonneg {Ws : List Int} (h : ∀ i, i < len Ws → 1 ≤ nth Ws i ∧ nth Ws i < 18446744073709551616) (Ss : List Bool) : ∀ k, k ≤ len Ws → 0 ≤ smK Ws Ss k
  | 0, _ => Int.le_refl _
  | k + 1, hk => by
    have h1 := smK_nonneg h Ss k (by omega)
    have h2 := (h k (by omega)).1
    simp only [smK]; split <;> omega
theorem ap_new {X : World} {base n g H : Nat} {u v : Value} {xs : List Value} {e : TypeId} {c k : Nat} (hu : X.ownsRow base e 1 u n xs) (hap : Ap u v) (hat : v.ownBlock = some g ∨ g = H) (hH : X.heap.size ≤ H) : Ap u (.slice (some ⟨g, 0, none⟩) k c) := by
  intro q hq e
  have e2 : g = q := by simpa [Value.ownBlock] using e
  subst e2
  rcases hat with h | h
  · exact hap _ hq h
  · have := (hu.lt _ hq).2; omega
theorem Ap.symm {u v : Value} (h : Ap u v) : Ap v u := fun g hv hu => h g hu hv
theorem ap_kept {u v : Value} (h : Ap u v) : u.ownBlock = none ∨ u.ownBlock ≠ v.ownBlock := by
  cases hu : u.ownBlock with
  | none => exact .inl rfl
  | some g => exact .inr (fun e => h g hu e.symm)
/-- The same, where the sum has been appended. -/
structure MidSt (w : World) (Ws : List Int) (Ss : List Bool) (wr : World) (m : Nat) (ev wv sv : Value) : Prop where
  blk : wr.heap[w.heap.size + 1]? = some (.cells #[ev, wv, sv, .nilFunc] 84 (0, 0))
  oe : wr.ownsRow w.heap.size 22 1 ev (len (endK Ws Ss m)) ((endK Ws Ss m).map (Value.int .u64))
  ow : wr.ownsRow w.heap.size 22 1 wv (len (endK Ws Ss m)) ((whoK Ss m).map (Value.int .u64))
  os : wr.ownsRow w.heap.size 22 1 sv (m + 1 + 1) ((allK Ws Ss (m + 1)).map (Value.int .u64))
  ap : Ap ev wv ∧ Ap ev sv ∧ Ap wv sv
  bel : Below w.heap.size w wr
theorem MidSt.skip {w wr : World} {Ws : List Int} {Ss : List Bool} {m : Nat} {ev wv sv : Value} (h : MidSt w Ws Ss wr m ev wv sv) (hs : ¬ sg Ss m = true) : NewSt w Ws Ss wr (m + 1) ev wv sv := by
  have e1 : endK Ws Ss (m + 1) = endK Ws Ss m := by simp only [endK]; rw [if_neg hs]
  have e2 : whoK Ss (m + 1) = whoK Ss m := by simp only [whoK]; rw [if_neg hs]
  exact ⟨h.blk, by rw [e1]; exact h.oe, by rw [e1, e2]; exact h.ow, h.os, h.ap, h.bel⟩
theorem MidSt.below {w wr w' : World} {Ws : List Int} {Ss : List Bool} {m : Nat} {ev wv sv : Value} (h : MidSt w Ws Ss wr m ev wv sv) (hb : Below wr.heap.size wr w') : MidSt w Ws Ss w' m ev wv sv :=
  ⟨(hb.block _ (lt_of_block h.blk)).trans h.blk, own_below h.oe hb, own_below h.ow hb, own_below h.os hb, h.ap, bnext h.bel hb⟩
/-- A sum is appended. -/
theorem NewSt.sums {w wr w2 : World} {Ws : List Int} {Ss : List Bool} {m g c : Nat} {ev wv sv : Value} {tmp : Obj} {t : Int} (h : NewSt w Ws Ss wr m ev wv sv)
    (hown : w2.ownsRow w.heap.size 22 1 (.slice (some ⟨g, 0, none⟩) (m + 1 + 1) c) (m + 1 + 1) ((allK Ws Ss m).map (Value.int .u64) ++ [.int .u64 t])) (hg : (wr.alloc tmp).grownBy w2 sv.ownBlock) (hat : sv.ownBlock = some g ∨ g = wr.heap.size + 1) (ht : smK Ws Ss (m + 1) = t) :
    w2.heap[w.heap.size + 1]? = some (.cells #[ev, wv, sv, .nilFunc] 84 (0, 0)) ∧
    MidSt w Ws Ss (w2.setCell ⟨w.heap.size + 1, 2, none⟩ (.slice (some ⟨g, 0, none⟩) (m + 1 + 1) c)) m ev wv (.slice (some ⟨g, 0, none⟩) (m + 1 + 1) c) := by
  have notrow : ∀ {v : Value} {n : Nat} {xs : List Value} {X : World}, X.ownsRow w.heap.size 22 1 v n xs → ∀ {cs : Array Value}, X.heap[w.heap.size + 1]? = some (.cells cs 84 (0, 0)) → v.ownBlock = none ∨ v.ownBlock ≠ some (w.heap.size + 1) := by
    intro v n xs X hv cs hc
    rcases hv.2 with ⟨rfl, _⟩ | ⟨q, cap, cur, rfl, _, hq, _⟩
    · exact .inl rfl
    · right
      intro e
      have e2 : q = w.heap.size + 1 := by simpa [Value.ownBlock] using e
      subst e2
      rw [hc] at hq; cases hq
  have hb2 : w2.heap[w.heap.size + 1]? = some (.cells #[ev, wv, sv, .nilFunc] 84 (0, 0)) := by
    have hx := block_alloc h.blk tmp
    refine (hg.block _ (lt_of_block hx) (fun e => ?_)).trans hx
    rcases notrow h.os h.blk with h2 | h2
    · rw [h2] at e; cases e
    · exact h2 e.symm
  refine ⟨hb2, ?_⟩
  have he2 := (h.oe.alloc tmp).kept hg (ap_kept h.ap.2.1)
  have hw2 := (h.ow.alloc tmp).kept hg (ap_kept h.ap.2.2)
  have hset := grownBy_setCell' w2 (w.heap.size + 1) (.slice (some ⟨g, 0, none⟩) (m + 1 + 1) c)
  have hs3 : w2.grownBy (w2.setCell ⟨w.heap.size + 1, 2, none⟩ (.slice (some ⟨g, 0, none⟩) (m + 1 + 1) c)) (some (w.heap.size + 1)) :=
    ⟨rfl, rfl, rfl, by simp [World.setCell], fun k hk hn => Below.heap_setCell _ _ _ _ (fun e => hn (by rw [e]))⟩
  have hsz : (wr.alloc tmp).heap.size = wr.heap.size + 1 := by simp
  refine ⟨?_, he2.kept hs3 (notrow he2 hb2), hw2.kept hs3 (notrow hw2 hb2), ?_, ⟨h.ap.1, ap_new h.oe h.ap.2.1 hat (by omega), ap_new h.ow h.ap.2.2 hat (by omega)⟩, ?_⟩
  · exact block_setCell hb2 _
  · have e1 : allK Ws Ss (m + 1) = allK Ws Ss m ++ [t] := by rw [← ht]; rfl
    rw [e1, List.map_append]
    exact hown.kept hs3 (notrow hown hb2)
  · refine bset (grownBy_below (balloc h.bel tmp) hg (fun k hk => (h.os.lt k hk).1)) ?_ _
    show w.heap.size ≤ w.heap.size + 1; omega

theorem vor_of {VO : Nat → Option Nat} {ev wv : Value} {B : Nat} (h9 : VO 9 = ev.ownBlock) (h18 : VO 18 = wv.ownBlock) (h22 : VO 22 = some B) (hn : ∀ j, j ≠ 9 → j ≠ 18 → j ≠ 22 → VO j = none) (j : Nat) : VO j = none ∨ VO j = ev.ownBlock ∨ VO j = wv.ownBlock ∨ VO j = some B := by
  by_cases h1 : j = 9
  · subst h1; exact .inr (.inl h9)
  · by_cases h2 : j = 18
    · subst h2; exact .inr (.inr (.inl h18))
    · by_cases h3 : j = 22
      · subst h3; exact .inr (.inr (.inr h22))
      · exact .inl (hn j h1 h2 h3)
theorem vob_of {VO : Nat → Option Nat} {ev wv : Value} {B : Nat} (h9 : VO 9 = ev.ownBlock) (h18 : VO 18 = wv.ownBlock) (hn : ∀ j, j ≠ 9 → j ≠ 18 → j ≠ 22 → VO j = none) (n1 : ev.ownBlock ≠ some B) (n2 : wv.ownBlock ≠ some B) (j : Nat) (hj : j ≠ 22) : VO j ≠ some B := by
  by_cases h1 : j = 9
  · subst h1; rw [h9]; exact n1
  · by_cases h2 : j = 18
    · subst h2; rw [h18]; exact n2
    · rw [hn j h1 h2 hj]; simp
theorem voi_of {VO : Nat → Option Nat} {ev wv : Value} {B : Nat} (h9 : VO 9 = ev.ownBlock) (h18 : VO 18 = wv.ownBlock) (h22 : VO 22 = some B) (hn : ∀ j, j ≠ 9 → j ≠ 18 → j ≠ 22 → VO j = none) (hap : Ap ev wv) (n1 : ev.ownBlock ≠ some B) (n2 : wv.ownBlock ≠ some B) : ∀ i j b, VO i = some b → VO j = some b → i = j := by
  have key : ∀ i b, VO i = some b → i = 9 ∨ i = 18 ∨ i = 22 := fun i b h => by
    by_cases h1 : i = 9
    · exact .inl h1
    · by_cases h2 : i = 18
      · exact .inr (.inl h2)
      · by_cases h3 : i = 22
        · exact .inr (.inr h3)
        · rw [hn i h1 h2 h3] at h; cases h
  intro i j b hi hj
  rcases key i b hi with rfl | rfl | rfl <;> rcases key j b hj with rfl | rfl | rfl
  · rfl
  · exact absurd (h18.symm.trans hj) (hap b (h9.symm.trans hi))
  · rw [h22] at hj; cases hj; exact absurd (h9.symm.trans hi) n1
  · exact absurd (h18.symm.trans hi) (hap b (h9.symm.trans hj))
  · rfl
  · rw [h22] at hj; cases hj; exact absurd (h18.symm.trans hi) n2
  · rw [h22] at hi; cases hi; exact absurd (h9.symm.trans hj) n1
  · rw [h22] at hi; cases hi; exact absurd (h18.symm.trans hj) n2
  · rfl
/-- The layout's cells, but the first one, while the region runs. -/
def I19 (w : World) (wv sv : Value) (u : World) : Prop := ∃ x, u.heap[w.heap.size + 1]? = some (.cells #[x, wv, sv, .nilFunc] 84 (0, 0))
def X19 (w : World) (wv sv : Value) (j : Nat) (u u' : World) : Prop := j = 22 → I19 w wv sv u → I19 w wv sv u'
def PR19 (w : World) (wv sv : Value) (i j : Nat) (vi vj : Value) (u : World) : Prop := (i = 9 → j = 18 → Ap vi vj) ∧ (i = 9 → j = 22 → u.heap[w.heap.size + 1]? = some (.cells #[vi, wv, sv, .nilFunc] 84 (0, 0)))
theorem x19_refl (w : World) (wv sv : Value) : ∀ j u, X19 w wv sv j u u := fun _ _ _ h => h
theorem pr19_none {w : World} {wv sv : Value} {i : Nat} (h9 : i ≠ 9) (h18 : i ≠ 18) (h22 : i ≠ 22) : ∀ j vi vj u, PR19 w wv sv i j vi vj u ∧ PR19 w wv sv j i vi vj u := fun j vi vj u =>
  ⟨⟨fun h => absurd h h9, fun h => absurd h h9⟩, ⟨fun _ h => absurd h h18, fun _ h => absurd h h22⟩⟩
theorem i19_step {w : World} {wv sv : Value} {VO : Nat → Option Nat} (hB : ∀ j, j ≠ 22 → VO j ≠ some (w.heap.size + 1)) : ∀ j u u', EsV VO (X19 w wv sv) j u u' → I19 w wv sv u → I19 w wv sv u' := fun j u u' he hi => by
  by_cases h : j = 22
  · exact he.2 h hi
  · obtain ⟨x, hx⟩ := hi
    exact ⟨x, (he.1.block _ (lt_of_block hx) (fun e => hB j h e.symm)).trans hx⟩
theorem pr19_step {w : World} {wv sv : Value} {VO : Nat → Option Nat} (hB : ∀ j, j ≠ 22 → VO j ≠ some (w.heap.size + 1)) : ∀ i j k vi vj u u', k ≠ i → k ≠ j → EsV VO (X19 w wv sv) k u u' → PR19 w wv sv i j vi vj u → PR19 w wv sv i j vi vj u' := fun i j k vi vj u u' h1 h2 he hp =>
  ⟨hp.1, fun hi hj => by
    have hx := hp.2 hi hj
    exact (he.1.block _ (lt_of_block hx) (fun e => hB k (by rw [← hj]; exact h2) e.symm)).trans hx⟩
section
variable {P : Program} {o : Oper} {Q : Exit → Act → World → Prop}
theorem wp_of_skip {a : Act} {w w' : World} {K : Act → World → Prop} (h : (execOp a.eval o).run P w = .ok .skip w') (hK : K (a.put o.dst undef) w') : o.wp P a w K Q := by
  unfold Oper.wp; rw [h]; exact hK
end
theorem row_not_blk {X : World} {base n b : Nat} {v : Value} {xs : List Value} {cs : Array Value} (hv : X.ownsRow base 22 1 v n xs) (hc : X.heap[b]? = some (.cells cs 84 (0, 0))) : v.ownBlock ≠ some b := by
  rcases hv.2 with ⟨rfl, _⟩ | ⟨q, cap, cur, rfl, _, hq, _⟩
  · intro e; cases e
  · intro e
    have e2 : q = b := by simpa [Value.ownBlock] using e
    subst e2
    rw [hc] at hq; cases hq
theorem extS_cell {VO : Nat → Option Nat} {W w1 : World} (h : ExtS VO W.drew w1) {b o : Nat} (hn : ∀ j, VO j ≠ some b) {v : Value} (hc : W.cell? ⟨b, o, none⟩ = some v) : w1.cell? ⟨b, o, none⟩ = some v := by
  rw [World.cell?_of_block (w := W) (h.block b (lt_of_cell hc) hn)]; exact hc
theorem own_same {X Y : World} {base n : Nat} {e : TypeId} {v : Value} {xs : List Value} (h : X.ownsRow base e 1 v n xs) (hq : ∀ q, v.ownBlock = some q → Y.heap[q]? = X.heap[q]?) : Y.ownsRow base e 1 v n xs := by
  refine ⟨h.1, ?_⟩
  rcases h.2 with h1 | ⟨g, cap, cur, rfl, h2, h3, h4⟩
  · exact .inl h1
  · exact .inr ⟨g, cap, cur, rfl, h2, (hq g rfl).trans h3, h4⟩
theorem row_mono9 {VO : Nat → Option Nat} {ev wv : Value} {W3 : World} {g n c base k : Nat} {e : TypeId} {xs : List Value} {j : Nat} (h9 : VO 9 = ev.ownBlock) (h18 : VO 18 = wv.ownBlock) {B : Nat} (h22 : VO 22 = some B) (hn : ∀ j, j ≠ 9 → j ≠ 18 → j ≠ 22 → VO j = none) (hj : j ≠ 9) (hg : ev.ownBlock = some g ∨ W3.heap.size ≤ g) (hap : Ap ev wv) (hw : W3.ownsRow base e 1 wv k xs) (nb : ev.ownBlock ≠ some B) (hBl : B < W3.heap.size) :
    (Value.slice (some ⟨g, 0, none⟩) n c).ownBlock = none ∨ (Value.slice (some ⟨g, 0, none⟩) n c).ownBlock ≠ VO j := by
  right
  show some g ≠ VO j
  by_cases h2 : j = 18
  · subst h2
    rw [h18]
    rcases hg with h | h
    · exact fun e => hap g h e.symm
    · intro e; have := (hw.lt g e.symm).2; omega
  · by_cases h3 : j = 22
    · subst h3
      rw [h22]
      intro e
      cases e
      rcases hg with h | h
      · exact nb h
      · omega
    · rw [hn j hj h2 h3]; simp
theorem row_mono18 {VO : Nat → Option Nat} {ev wv : Value} {W3 : World} {g n c base k : Nat} {e : TypeId} {xs : List Value} {j : Nat} (h9 : VO 9 = ev.ownBlock) (h18 : VO 18 = wv.ownBlock) {B : Nat} (h22 : VO 22 = some B) (hn : ∀ j, j ≠ 9 → j ≠ 18 → j ≠ 22 → VO j = none) (hj : j ≠ 18) (hg : wv.ownBlock = some g ∨ W3.heap.size ≤ g) (hap : Ap wv ev) (hw : W3.ownsRow base e 1 ev k xs) (nb : wv.ownBlock ≠ some B) (hBl : B < W3.heap.size) :
    (Value.slice (some ⟨g, 0, none⟩) n c).ownBlock = none ∨ (Value.slice (some ⟨g, 0, none⟩) n c).ownBlock ≠ VO j := by
  right
  show some g ≠ VO j
  by_cases h2 : j = 9
  · subst h2
    rw [h9]
    rcases hg with h | h
    · exact fun e => hap g h e.symm
    · intro e; have := (hw.lt g e.symm).2; omega
  · by_cases h3 : j = 22
    · subst h3
      rw [h22]
      intro e
      cases e
      rcases hg with h | h
      · exact nb h
      · omega
    · rw [hn j h2 hj h3]; simp
/-- Rows that have grown, one behind the other, lie apart. -/
theorem ap_pair {u v x : Value} {g g2 H S n n2 c c2 : Nat} (h1 : x = .slice (some ⟨g2, 0, none⟩) n2 c2) (h : u.ownBlock = some g ∨ g = H) (h2 : v.ownBlock = some g2 ∨ S ≤ g2) (hlt : g2 < H) (hap : Ap u v) (hu : ∀ q, u.ownBlock = some q → q < S) : Ap (.slice (some ⟨g, 0, none⟩) n c) x := by
  subst h1
  intro q hq e
  have e1 : g = q := by simpa [Value.ownBlock] using hq
  have e2 : g2 = q := by simpa [Value.ownBlock] using e
  subst e1
  rcases h with h | h
  · rcases h2 with h2 | h2
    · exact hap _ h (by rw [h2, e2])
    · have := hu _ h; omega
  · omega

theorem new_fin {w W3 w5 : World} {Ws : List Int} {Ss : List Bool} {m g9 c9 g18 c18 : Nat} {ev wv sv : Value} {VO : Nat → Option Nat} {t : Int} (st : MidSt w Ws Ss W3 m ev wv sv) (hE : ExtS VO W3.drew w5)
    (vor : ∀ j, VO j = none ∨ VO j = ev.ownBlock ∨ VO j = wv.ownBlock ∨ VO j = some (w.heap.size + 1))
    (own9 : w5.ownsRow w.heap.size 22 1 (.slice (some ⟨g9, 0, none⟩) (len (endK Ws Ss m) + 1) c9) (len (endK Ws Ss m) + 1) ((endK Ws Ss m).map (Value.int .u64) ++ [.int .u64 t]))
    (own18 : w5.ownsRow w.heap.size 22 1 (.slice (some ⟨g18, 0, none⟩) (len (endK Ws Ss m) + 1) c18) (len (endK Ws Ss m) + 1) ((whoK Ss m).map (Value.int .u64) ++ [.int .u64 (m : Int)]))
    (lie9 : ev.ownBlock = some g9 ∨ W3.heap.size ≤ g9) (lie18 : wv.ownBlock = some g18 ∨ W3.heap.size ≤ g18)
    (hap : Ap (.slice (some ⟨g9, 0, none⟩) (len (endK Ws Ss m) + 1) c9) (.slice (some ⟨g18, 0, none⟩) (len (endK Ws Ss m) + 1) c18))
    (hb : w5.heap[w.heap.size + 1]? = some (.cells #[.slice (some ⟨g9, 0, none⟩) (len (endK Ws Ss m) + 1) c9, wv, sv, .nilFunc] 84 (0, 0))) (hsg : sg Ss m = true) (ht : smK Ws Ss (m + 1) = t) :
    NewSt w Ws Ss (w5.setCell ⟨w.heap.size + 1, 1, none⟩ (.slice (some ⟨g18, 0, none⟩) (len (endK Ws Ss m) + 1) c18)) (m + 1) (.slice (some ⟨g9, 0, none⟩) (len (endK Ws Ss m) + 1) c9) (.slice (some ⟨g18, 0, none⟩) (len (endK Ws Ss m) + 1) c18) sv := by
  have e1 : endK Ws Ss (m + 1) = endK Ws Ss m ++ [t] := by simp only [endK]; rw [if_pos hsg, ht]
  have e2 : whoK Ss (m + 1) = whoK Ss m ++ [(m : Int)] := by simp only [whoK]; rw [if_pos hsg]
  have e3 : len (endK Ws Ss m ++ [t]) = len (endK Ws Ss m) + 1 := by rw [len_eq, len_eq, List.length_append]; rfl
  have hs3 : w5.grownBy (w5.setCell ⟨w.heap.size + 1, 1, none⟩ (.slice (some ⟨g18, 0, none⟩) (len (endK Ws Ss m) + 1) c18)) (some (w.heap.size + 1)) :=
    ⟨rfl, rfl, rfl, by simp [World.setCell], fun k hk hn => Below.heap_setCell _ _ _ _ (fun e => hn (by rw [e]))⟩
  have ns := row_not_blk st.os st.blk
  have os5 : w5.ownsRow w.heap.size 22 1 sv (m + 1 + 1) ((allK Ws Ss (m + 1)).map (Value.int .u64)) := own_same st.os (fun q hq => hE.block q (st.os.lt q hq).2 (fun j hj => by
    rcases vor j with h | h | h | h
    · rw [h] at hj; cases hj
    · exact st.ap.2.1 q (h.symm.trans hj) hq
    · exact st.ap.2.2 q (h.symm.trans hj) hq
    · rw [h] at hj; cases hj; exact ns hq))
  have apx : ∀ {u : Value} {g n c : Nat}, Ap u sv → (u.ownBlock = some g ∨ W3.heap.size ≤ g) → Ap (.slice (some ⟨g, 0, none⟩) n c) sv := by
    intro u g n c hu hl q hq e
    have e4 : g = q := by simpa [Value.ownBlock] using hq
    subst e4
    rcases hl with h | h
    · exact hu _ h e
    · have := (st.os.lt _ e).2; omega
  refine ⟨block_setCell hb _, ?_, ?_, os5.kept hs3 (.inr (row_not_blk os5 hb)), ⟨hap, apx st.ap.2.1 lie9, apx st.ap.2.2 lie18⟩, ?_⟩
  · rw [e1, e3, List.map_append]; exact own9.kept hs3 (.inr (row_not_blk own9 hb))
  · rw [e1, e2, e3, List.map_append]; exact own18.kept hs3 (.inr (row_not_blk own18 hb))
  · refine bset ?_ (by show w.heap.size ≤ w.heap.size + 1; omega) _
    refine ⟨hE.os.trans st.bel.os, hE.tape.trans st.bel.tape, hE.output.trans st.bel.output, Nat.le_trans st.bel.size hE.size, fun k hk => ?_⟩
    refine (hE.block k (Nat.lt_of_lt_of_le hk st.bel.size) (fun j hj => ?_)).trans (st.bel.block k hk)
    rcases vor j with h | h | h | h
    · rw [h] at hj; cases hj
    · have := (st.oe.lt k (h.symm.trans hj)).1; omega
    · have := (st.ow.lt k (h.symm.trans hj)).1; omega
    · rw [h] at hj; cases hj; omega

def NewIs (Ws : List Int) (Ss : List Bool) (w : World) (e : Ending) (w' : World) : Prop :=
  ((∃ k, k ≤ len Ws ∧ 18446744073709551616 ≤ smK Ws Ss k) ∧ e = .returned (.tuple #[.pointer none, .int .i64 21]) ∧ Below w.heap.size w w') ∨
  ((∀ k, k ≤ len Ws → smK Ws Ss k < 18446744073709551616) ∧ ∃ B, e = .returned (.tuple #[.pointer (some ⟨B, 0, none⟩), .int .i64 0]) ∧ w.heap.size ≤ B ∧ LayB w' B (endK Ws Ss (len Ws)) (whoK Ss (len Ws)) (allK Ws Ss (len Ws)) ∧ Below w.heap.size w w')

set_option maxRecDepth 100000 in
set_option maxHeartbeats 4000000 in
theorem new_any (a b : Option Addr) (ca cb : Nat) (Ws : List Int) (Ss : List Bool) (w : World) (ha : U64s w a Ws) (hb : Bls w b Ss) (hl : Ss.length = len Ws) (hn : len Ws ≤ 1000) (h1 : ∀ i, i < len Ws → 1 ≤ nth Ws i ∧ nth Ws i < 18446744073709551616) :
    Calls Try.prog 27 #[.slice a (len Ws) ca, .slice b Ss.length cb] w (NewIs Ws Ss w) := by
  have HA := Lib.hid ha
  have HBB := Lib.hid hb
  have H1 := Lib.hid h1
  rw [hl]
  have HL := Lib.hid hl
  clear ha hb h1 hl
  have hn2 : decide ((65536 : Int) < (len Ws : Int)) = false := decide_eq_false (by omega)
  go_enter Try.func27, Try.ntmps27
  go_wp2_with fail
  refine (contains0_any a ca Ws w HA.out (by omega) (fun i hi => (H1.out i hi).1)).mono ?_
  rintro e w' ⟨rfl, rfl⟩
  go_wp2
  obtain ⟨i0, hi, hz0, hz1, hz2⟩ := info_parts info_u64
  have HZ := Lib.hid hz0
  clear hz0
  obtain ⟨V, hV⟩ : ∃ V, (w.alloc (.cells #[.int .u64 0] 22)).alloc (.cells #[.slice none 0 0, .slice none 0 0, .slice (some ⟨w.heap.size, 0, none⟩) 1 1, .nilFunc] 84) = V := ⟨_, rfl⟩
  have ST0 : Hid (NewSt w Ws Ss V 0 (.slice none 0 0) (.slice none 0 0) (.slice (some ⟨w.heap.size, 0, none⟩) 1 1)) := Lib.hid (by
    rw [← hV]
    refine ⟨alloc_new_at _ (by simp), World.ownsRow_nil _ _ _ _, World.ownsRow_nil _ _ _ _, ?_, ⟨fun g h => by simp [Value.ownBlock] at h, fun g h => by simp [Value.ownBlock] at h, fun g h => by simp [Value.ownBlock] at h⟩, by (repeat (first | exact Below.refl _ _ | assumption | (refine bdrew ?_) | (refine bdrewN ?_ _) | (refine balloc ?_ _) | (refine bset ?_ (by first | omega | (simp; done) | (simp; omega)) _) | (refine bnext ?_ (by assumption))))⟩
    exact ⟨rfl, .inr ⟨w.heap.size, 1, #[.int .u64 0], rfl, Nat.le_refl _, block_alloc (heap_alloc_new _ _) _, Nat.le_refl _, by unfold maxLen; omega, rfl, rfl⟩⟩)
  rw [hV]
  clear hV
  go_loopg [7, 8, 9, 10, 30] (len Ws) (fun g _ _ _ _ i wr => ∃ m : Nat, g + m = len Ws ∧ i = .int .i64 m ∧ Hid (∀ k, k ≤ m → smK Ws Ss k < 18446744073709551616) ∧ Hid (∃ ev wv sv, NewSt w Ws Ss wr m ev wv sv))
  case atStart => exact ⟨0, rfl, rfl, fun k hk => by
    obtain rfl : k = 0 := (by omega)
    show (0 : Int) < 18446744073709551616
    decide, ⟨_, _, _, ST0.out⟩⟩
  case round =>
    clear ST0
    obtain ⟨m, hm, rfl, hU, hst⟩ := hrel
    obtain ⟨ev, wv, sv, st⟩ := hst.out
    by_cases hlt : m < len Ws
    · obtain ⟨sg0, scap, rfl, _, _⟩ := st.os.form (Nat.succ_pos _)
      have i1 : (m : Int) < len Ws := by omega
      have i2 : (m : Int) < ((m + 1 : Nat) : Int) := by omega
      have c2 := block_cell st.blk 2
      have hsm0 := smK_nonneg H1.out Ss m (by omega)
      have hsm1 := hU.out m (Nat.le_refl _)
      obtain ⟨sN, hsN⟩ := Int.eq_ofNat_of_zero_le hsm0
      have cs : wr.cell? ⟨sg0, m, none⟩ = some (.int .u64 (sN : Int)) := by
        have := st.os.cellAt m (by omega)
        rw [this, List.getElem?_map, ← hsN, ← allK_nth Ws Ss m m (Nat.le_refl _)]
        have hl2 : m < (allK Ws Ss m).length := by have := allK_len Ws Ss m; rw [len_eq] at this; omega
        rw [List.getElem?_eq_getElem hl2, nth_eq _ m hl2]; rfl
      obtain ⟨bb, bo, rfl, cb1⟩ := (HBB.out.below st.bel) m (by rw [HL.out]; exact hlt)
      obtain ⟨ab, ao, rfl, ca1⟩ := (HA.out.below st.bel) m hlt
      have hs64 : sN < 18446744073709551616 := by omega
      have ST := Lib.hid st
      have OS := Lib.hid st.os
      clear st hst
      by_cases hsg : sg Ss m = true
      · have hsf : Ss.getD m false = true := hsg
        rw [hsf] at cb1
        have hw1 := H1.out m hlt
        obtain ⟨xN, hxN⟩ := Int.eq_ofNat_of_zero_le (a := nth Ws m) (by omega)
        rw [hxN] at ca1
        have hx64 : xN < 18446744073709551616 := by omega
        by_cases hov : 18446744073709551616 ≤ sN + xN
        · obtain ⟨rN, hrN⟩ : ∃ rN, (sN + xN) % 18446744073709551616 = rN := ⟨_, rfl⟩
          have hadd : (callFunc 50 #[.int .u64 (sN : Int), .int .u64 (xN : Int), .int .u64 0]).run Try.prog wr = .ok (.value (.tuple #[.int .u64 (rN : Int), .int .u64 1])) wr := by
            have := add64_any sN xN wr hs64 hx64
            rw [hrN, show (sN + xN) / 18446744073709551616 = 1 by omega] at this
            exact this
          have HT : Hid (∃ k, k ≤ len Ws ∧ 18446744073709551616 ≤ smK Ws Ss k) := Lib.hid ⟨m + 1, by omega, by simp only [smK]; rw [if_pos hsg]; omega⟩
          clear hsN hsm0 hsm1 hs64 hxN hx64 hov hrN hw1
          go_wp2
          go_ret2
          exact .inl ⟨HT.out, rfl, ST.out.bel⟩
        · obtain ⟨tN, htN⟩ : ∃ tN, sN + xN = tN := ⟨_, rfl⟩
          have hadd : (callFunc 50 #[.int .u64 (sN : Int), .int .u64 (xN : Int), .int .u64 0]).run Try.prog wr = .ok (.value (.tuple #[.int .u64 (tN : Int), .int .u64 0])) wr := by
            have := add64_any sN xN wr hs64 hx64
            rw [show (sN + xN) % 18446744073709551616 = tN by omega, show (sN + xN) / 18446744073709551616 = 0 by omega] at this
            exact this
          have HT : Hid (smK Ws Ss (m + 1) = (tN : Int)) := Lib.hid (by simp only [smK]; rw [if_pos hsg]; omega)
          have ht64 : tN < 18446744073709551616 := by omega
          clear hsN htN hsm0 hsm1 hs64 hxN hx64 hov hw1
          go_upto_region 17 with fail
          go_wp2_with (at_builtin; refine wpList_append_lies _ rfl _ _ 28 rfl w.heap.size 22 i0 (.int .u64 0) 1 8 Try.underlying28 hi HZ.out hz1 hz2 rfl (by decide) _ _ _ rfl (OS.out.alloc _) ⟨wr.heap.size, 0, none⟩ 1 1 [.int .u64 (tN : Int)] rfl rfl (cell_one_new _ _ _) (by simp [Value.oneCell']) (by decide) (by unfold maxLen; omega) (by omega) (by have := ST.out.bel.size; simp; omega) _ rfl ?_)
          intro g2 cap2 w2 hown2 hgrow2 hat2 hlt2
          have S2 := Lib.hid (ST.out.sums hown2 hgrow2 hat2 HT.out)
          have hB2 := S2.out.1
          have fB2 := block_free hB2 2
          have cB2 := block_cell hB2 2
          have ST2 := Lib.hid S2.out.2
          clear S2 hB2 hown2 hgrow2 hat2 hlt2
          go_upto_region 18 with fail
          obtain ⟨W3, hW3⟩ : ∃ W3, w2.setCell ⟨w.heap.size + 1, 2, none⟩ (.slice (some ⟨g2, 0, none⟩) (m + 1 + 1) cap2) = W3 := ⟨_, rfl⟩
          rw [hW3] at ST2
          try rw [hW3]
          clear hW3 cB2 fB2 cb1 ca1
          obtain ⟨bb', bo', e3, cb1⟩ := (HBB.out.below ST2.out.bel) m (by rw [HL.out]; exact hlt)
          cases e3
          rw [hsf] at cb1
          go_upto_region 19 with fail
          clear cb1
          have mw : IntKind.u64.wrap (m : Int) = m := IntWalk.u64_in _ (by omega)
          have hel : len (endK Ws Ss m) ≤ m := end_len Ws Ss m
          obtain ⟨VO, hVO⟩ : ∃ VO : Nat → Option Nat, VO = fun j => if j = 9 then ev.ownBlock else if j = 18 then wv.ownBlock else if j = 22 then some (w.heap.size + 1) else none := ⟨_, rfl⟩
          have vo9 : VO 9 = ev.ownBlock := by rw [hVO]; rfl
          have vo18 : VO 18 = wv.ownBlock := by rw [hVO]; rfl
          have vo22 : VO 22 = some (w.heap.size + 1) := by rw [hVO]; rfl
          have von : ∀ j, j ≠ 9 → j ≠ 18 → j ≠ 22 → VO j = none := fun j h1 h2 h3 => by rw [hVO]; simp [h1, h2, h3]
          clear hVO
          have hBk := ST2.out.blk
          have n1 := row_not_blk ST2.out.oe hBk
          have n2 := row_not_blk ST2.out.ow hBk
          have hBl : w.heap.size + 1 < W3.heap.size := lt_of_block hBk
          have voi := voi_of vo9 vo18 vo22 von ST2.out.ap.1 n1 n2
          have voB : ∀ j, j ≠ 22 → VO j ≠ some (w.heap.size + 1) := vob_of vo9 vo18 von n1 n2
          have vor : ∀ j, VO j = none ∨ VO j = ev.ownBlock ∨ VO j = wv.ownBlock ∨ VO j = some (w.heap.size + 1) := vor_of vo9 vo18 vo22 von
          refine wp_region_tailV 23 VO voi (X19 w wv (.slice (some ⟨g2, 0, none⟩) (m + 1 + 1) cap2)) (I19 w wv (.slice (some ⟨g2, 0, none⟩) (m + 1 + 1) cap2)) (PR19 w wv (.slice (some ⟨g2, 0, none⟩) (m + 1 + 1) cap2)) (x19_refl w wv (.slice (some ⟨g2, 0, none⟩) (m + 1 + 1) cap2)) ⟨ev, hBk⟩ (phis [fun u _ => u = (.pointer (some ⟨w.heap.size + 1, 0, none⟩)), fun u _ => u = (.pointer (some ⟨w.heap.size + 1, 0, none⟩)), fun u _ => u = (.pointer (some ⟨w.heap.size + 1, 0, none⟩)), fun u _ => u = (.pointer (some ⟨w.heap.size + 1, 0, none⟩)), fun u _ => u = (.pointer (some ⟨w.heap.size + 1, 0, none⟩)), fun u _ => u = (.pointer (some ⟨w.heap.size + 1, 0, none⟩)), fun u _ => u = (ev), fun u _ => u = (.int .u64 (tN : Int)), fun u w' => ∃ b, u = .slice (some ⟨b, 0, none⟩) 1 1 ∧ some b ≠ ev.ownBlock ∧ some b ≠ wv.ownBlock ∧ b ≠ w.heap.size + 1 ∧ w'.heap[b]? = some (.cells #[.int .u64 (tN : Int)] 22 (0, 0)), fun u w' => ∃ g c, u = .slice (some ⟨g, 0, none⟩) (len (endK Ws Ss m) + 1) c ∧ w'.ownsRow w.heap.size 22 1 u (len (endK Ws Ss m) + 1) ((endK Ws Ss m).map (Value.int .u64) ++ [.int .u64 (tN : Int)]) ∧ (ev.ownBlock = some g ∨ W3.heap.size ≤ g), fun u _ => u = (.pointer (some ⟨w.heap.size + 1, 0, none⟩)), fun u _ => u = (.pointer (some ⟨w.heap.size + 1, 0, none⟩)), fun u _ => u = (.pointer (some ⟨w.heap.size + 1, 0, none⟩)), fun u _ => u = (.pointer (some ⟨w.heap.size + 1, 1, none⟩)), fun u _ => u = (wv), fun u _ => u = (.int .i64 (m : Int)), fun u _ => u = (.int .u64 (m : Int)), fun u w' => ∃ b, u = .slice (some ⟨b, 0, none⟩) 1 1 ∧ some b ≠ ev.ownBlock ∧ some b ≠ wv.ownBlock ∧ b ≠ w.heap.size + 1 ∧ w'.heap[b]? = some (.cells #[.int .u64 (m : Int)] 22 (0, 0)), fun u w' => ∃ g c, u = .slice (some ⟨g, 0, none⟩) (len (endK Ws Ss m) + 1) c ∧ w'.ownsRow w.heap.size 22 1 u (len (endK Ws Ss m) + 1) ((whoK Ss m).map (Value.int .u64) ++ [.int .u64 (m : Int)]) ∧ (wv.ownBlock = some g ∨ W3.heap.size ≤ g), fun u _ => u = (.pointer (some ⟨w.heap.size + 1, 0, none⟩)), fun u _ => u = (.pointer (some ⟨w.heap.size + 1, 0, none⟩)), fun u _ => u = (.pointer (some ⟨w.heap.size + 1, 0, none⟩)), fun _ _ => True]) rfl (by kernel_rfl) (by kernel_rfl) (monoV_of ⟨monoV_eq, monoV_eq, monoV_eq, monoV_eq, monoV_eq, monoV_eq, monoV_eq, monoV_eq, ?m8, ?m9, monoV_eq, monoV_eq, monoV_eq, monoV_eq, monoV_eq, monoV_eq, monoV_eq, ?m17, ?m18, monoV_eq, monoV_eq, monoV_eq, ?m22, trivial⟩) (i19_step voB) (pr19_step voB) (stepsV_of 23 ⟨?s0, ?s1, ?s2, ?s3, ?s4, ?s5, ?s6, ?s7, ?s8, ?s9, ?s10, ?s11, ?s12, ?s13, ?s14, ?s15, ?s16, ?s17, ?s18, ?s19, ?s20, ?s21, ?s22, trivial⟩) ?_
          case m22 => exact fun _ _ _ _ _ _ _ => trivial
          case m8 =>
            exact fun j hj u w1 w' he ⟨b, h1, h2, h3, h5, h4⟩ => ⟨b, h1, h2, h3, h5, (he.1.block b (lt_of_block h4) (by rcases vor j with h | h | h | h <;> rw [h] <;> first | exact h2 | exact h3 | (simp; done) | (intro e; cases e; exact h5 rfl))).trans h4⟩
          case m17 =>
            exact fun j hj u w1 w' he ⟨b, h1, h2, h3, h5, h4⟩ => ⟨b, h1, h2, h3, h5, (he.1.block b (lt_of_block h4) (by rcases vor j with h | h | h | h <;> rw [h] <;> first | exact h2 | exact h3 | (simp; done) | (intro e; cases e; exact h5 rfl))).trans h4⟩
          case m9 =>
            exact fun j hj u w1 w' he ⟨g, c, h1, h2, h3⟩ => ⟨g, c, h1, h2.kept he.1 (by rw [h1]; exact row_mono9 vo9 vo18 vo22 von hj h3 ST2.out.ap.1 ST2.out.ow n1 hBl), h3⟩
          case m18 =>
            exact fun j hj u w1 w' he ⟨g, c, h1, h2, h3⟩ => ⟨g, c, h1, h2.kept he.1 (by rw [h1]; exact row_mono18 vo9 vo18 vo22 von hj h3 ST2.out.ap.1.symm ST2.out.oe n2 hBl), h3⟩
          case s0 =>
            refine stepV_val (v := (.pointer (some ⟨w.heap.size + 1, 0, none⟩))) (x19_refl w wv _) (pr19_none (by decide) (by decide) (by decide)) (fun D av wv1 hE hO hD => ?_) (fun _ => rfl)
            have h6 : av.eval (.tmp 6) = (.pointer (some ⟨w.heap.size + 1, 0, none⟩)) := hO.2.2 6 rfl
            have f6 := (ev_form av 6).symm.trans h6
            refine ⟨rfl, ?_⟩
            simp [go_sem, f6, mw]
          case s1 =>
            refine stepV_val (v := (.pointer (some ⟨w.heap.size + 1, 0, none⟩))) (x19_refl w wv _) (pr19_none (by decide) (by decide) (by decide)) (fun D av wv1 hE hO hD => ?_) (fun _ => rfl)
            have h6 : av.eval (.tmp 6) = (.pointer (some ⟨w.heap.size + 1, 0, none⟩)) := hO.2.2 6 rfl
            have f6 := (ev_form av 6).symm.trans h6
            refine ⟨rfl, ?_⟩
            simp [go_sem, f6, mw]
          case s2 =>
            refine stepV_val (v := (.pointer (some ⟨w.heap.size + 1, 0, none⟩))) (x19_refl w wv _) (pr19_none (by decide) (by decide) (by decide)) (fun D av wv1 hE hO hD => ?_) (fun _ => rfl)
            have h6 : av.eval (.tmp 6) = (.pointer (some ⟨w.heap.size + 1, 0, none⟩)) := hO.2.2 6 rfl
            have f6 := (ev_form av 6).symm.trans h6
            refine ⟨rfl, ?_⟩
            simp [go_sem, f6, mw]
          case s3 =>
            refine stepV_val (v := (.pointer (some ⟨w.heap.size + 1, 0, none⟩))) (x19_refl w wv _) (pr19_none (by decide) (by decide) (by decide)) (fun D av wv1 hE hO hD => ?_) (fun _ => rfl)
            have d72 : av.eval (.tmp 72) = (.pointer (some ⟨w.heap.size + 1, 0, none⟩)) := hD.1 rfl _ rfl
            have f72 := (ev_form av 72).symm.trans d72
            refine ⟨rfl, ?_⟩
            simp [go_sem, f72, mw]
          case s4 =>
            refine stepV_val (v := (.pointer (some ⟨w.heap.size + 1, 0, none⟩))) (x19_refl w wv _) (pr19_none (by decide) (by decide) (by decide)) (fun D av wv1 hE hO hD => ?_) (fun _ => rfl)
            have d73 : av.eval (.tmp 73) = (.pointer (some ⟨w.heap.size + 1, 0, none⟩)) := hD.1 rfl _ rfl
            have f73 := (ev_form av 73).symm.trans d73
            refine ⟨rfl, ?_⟩
            simp [go_sem, f73, mw]
          case s5 =>
            refine stepV_val (v := (.pointer (some ⟨w.heap.size + 1, 0, none⟩))) (x19_refl w wv _) (pr19_none (by decide) (by decide) (by decide)) (fun D av wv1 hE hO hD => ?_) (fun _ => rfl)
            have d74 : av.eval (.tmp 74) = (.pointer (some ⟨w.heap.size + 1, 0, none⟩)) := hD.1 rfl _ rfl
            have f74 := (ev_form av 74).symm.trans d74
            refine ⟨rfl, ?_⟩
            simp [go_sem, f74, mw]
          case s6 =>
            refine stepV_val (v := (ev)) (x19_refl w wv _) (pr19_none (by decide) (by decide) (by decide)) (fun D av wv1 hE hO hD => ?_) (fun _ => rfl)
            have d75 : av.eval (.tmp 75) = (.pointer (some ⟨w.heap.size + 1, 0, none⟩)) := hD.1 rfl _ rfl
            have f75 := (ev_form av 75).symm.trans d75
            have h9 : ¬ D 9 := hE.notyet 9 _ rfl { on := 6, ground := .data } (by simp) rfl hE.me
            have h22 : ¬ D 22 := hE.notyet 22 _ rfl { on := 9, ground := .data } (by simp) rfl h9
            have hb0 : wv1.heap[w.heap.size + 1]? = some (.cells #[ev, wv, .slice (some ⟨g2, 0, none⟩) (m + 1 + 1) cap2, .nilFunc] 84 (0, 0)) := (hE.late 22 h22 _ vo22 hBl).trans hBk
            have k0 := block_cell hb0 0
            refine ⟨rfl, ?_⟩
            simp [go_sem, f75, k0, mw]
          case s7 =>
            refine stepV_val (v := (.int .u64 (tN : Int))) (x19_refl w wv _) (pr19_none (by decide) (by decide) (by decide)) (fun D av wv1 hE hO hD => ?_) (fun _ => rfl)
            have h8 : av.eval (.tmp 8) = (.int .u64 (tN : Int)) := hO.2.2 8 rfl
            have f8 := (ev_form av 8).symm.trans h8
            refine ⟨rfl, ?_⟩
            simp [go_sem, f8, mw]
          case s8 =>
            refine stepV_wp (fun D av wv1 hPP hE hO hD => ?_)
            have d77 : av.eval (.tmp 77) = (.int .u64 (tN : Int)) := hD.1 rfl _ rfl
            have f77 := (ev_form av 77).symm.trans d77
            have hsz := hE.ext.size
            refine ⟨rfl, wp_of_run (v := .slice (some ⟨wv1.heap.size, 0, none⟩) 1 1) (w' := wv1.alloc (.cells #[.int .u64 (tN : Int)] 22)) (by first | (simp [go_sem, f77]; done) | (simp [go_sem, f77]; rfl)) ⟨_, rfl, esV_of_ext (balloc (Ext_refl _) _) (fun h => absurd h (by decide)), ⟨wv1.heap.size, rfl, ?_, ?_, by simp at hsz; omega, heap_alloc_new _ _⟩, fun j oj _ _ _ => ⟨(pr19_none (i := 8) (by decide) (by decide) (by decide) j _ _ _).1, (pr19_none (i := 8) (by decide) (by decide) (by decide) j _ _ _).2⟩⟩⟩
            · exact fun e => absurd (ST2.out.oe.lt _ e.symm).2 (by simp at hsz; omega)
            · exact fun e => absurd (ST2.out.ow.lt _ e.symm).2 (by simp at hsz; omega)
          case s9 =>
            refine stepV_wp (fun D av wv1 hPP hE hO hD => ?_)
            have da : av.eval (.tmp 76) = (ev) := hD.1 rfl _ rfl
            obtain ⟨b, db1, _, _, _, db2⟩ : ∃ b, av.eval (.tmp 78) = .slice (some ⟨b, 0, none⟩) 1 1 ∧ some b ≠ ev.ownBlock ∧ some b ≠ wv.ownBlock ∧ b ≠ w.heap.size + 1 ∧ wv1.heap[b]? = some (.cells #[.int .u64 (tN : Int)] 22 (0, 0)) := hD.2.1 rfl _ rfl
            have hsz : W3.heap.size ≤ wv1.heap.size := by have := hE.ext.size; simpa using this
            have hown : wv1.ownsRow w.heap.size 22 1 ev (len (endK Ws Ss m)) ((endK Ws Ss m).map (Value.int .u64)) := own_same ST2.out.oe (fun q hq => hE.own q (by rw [vo9]; exact hq) (by have := (ST2.out.oe.lt q hq).2; simpa using this))
            have hbw : w.heap.size ≤ wv1.heap.size := Nat.le_trans ST2.out.bel.size hsz
            refine ⟨rfl, wp_append_lies wv1 _ _ _ rfl w.heap.size 22 i0 (.int .u64 0) 1 8 Try.underlying28 hi HZ.out hz1 hz2 rfl (by decide) _ _ _ da hown ⟨b, 0, none⟩ 1 1 [.int .u64 (tN : Int)] db1 rfl (World.news_of_block db2) (by simp [Value.oneCell']) (by decide) (by unfold maxLen; omega) (by omega) hbw _ rfl ?_⟩
            intro g c w4 hown4 hgrow4 hat4 hlt4
            refine ⟨_, rfl, ⟨by rw [vo9]; exact hgrow4, fun h => absurd h (by decide)⟩, ⟨g, c, rfl, hown4, hat4.imp id (fun h => by omega)⟩, fun j oj hoj hd hne => ?_⟩
            refine ⟨⟨fun _ h18 => ?_, fun _ h22 => ?_⟩, ⟨fun h => absurd (h.trans rfl) hne, fun h => absurd (h.trans rfl) hne⟩⟩
            · subst h18
              obtain ⟨g3, c3, h1, h2, h3⟩ := hPP 18 oj hoj hd
              exact ap_pair h1 hat4 h3 (h2.lt g3 (by rw [h1]; rfl)).2 ST2.out.ap.1 (fun q hq => (ST2.out.oe.lt q hq).2)
            · subst h22
              exact absurd hd (hE.notyet 22 _ rfl { on := 9, ground := .data } (by simp) rfl hE.me)
          case s10 =>
            refine stepV_val (v := (.pointer (some ⟨w.heap.size + 1, 0, none⟩))) (x19_refl w wv _) (pr19_none (by decide) (by decide) (by decide)) (fun D av wv1 hE hO hD => ?_) (fun _ => rfl)
            have h6 : av.eval (.tmp 6) = (.pointer (some ⟨w.heap.size + 1, 0, none⟩)) := hO.2.2 6 rfl
            have f6 := (ev_form av 6).symm.trans h6
            refine ⟨rfl, ?_⟩
            simp [go_sem, f6, mw]
          case s11 =>
            refine stepV_val (v := (.pointer (some ⟨w.heap.size + 1, 0, none⟩))) (x19_refl w wv _) (pr19_none (by decide) (by decide) (by decide)) (fun D av wv1 hE hO hD => ?_) (fun _ => rfl)
            have d80 : av.eval (.tmp 80) = (.pointer (some ⟨w.heap.size + 1, 0, none⟩)) := hD.1 rfl _ rfl
            have f80 := (ev_form av 80).symm.trans d80
            refine ⟨rfl, ?_⟩
            simp [go_sem, f80, mw]
          case s12 =>
            refine stepV_val (v := (.pointer (some ⟨w.heap.size + 1, 0, none⟩))) (x19_refl w wv _) (pr19_none (by decide) (by decide) (by decide)) (fun D av wv1 hE hO hD => ?_) (fun _ => rfl)
            have d81 : av.eval (.tmp 81) = (.pointer (some ⟨w.heap.size + 1, 0, none⟩)) := hD.1 rfl _ rfl
            have f81 := (ev_form av 81).symm.trans d81
            refine ⟨rfl, ?_⟩
            simp [go_sem, f81, mw]
          case s13 =>
            refine stepV_val (v := (.pointer (some ⟨w.heap.size + 1, 1, none⟩))) (x19_refl w wv _) (pr19_none (by decide) (by decide) (by decide)) (fun D av wv1 hE hO hD => ?_) (fun _ => rfl)
            have d82 : av.eval (.tmp 82) = (.pointer (some ⟨w.heap.size + 1, 0, none⟩)) := hD.1 rfl _ rfl
            have f82 := (ev_form av 82).symm.trans d82
            refine ⟨rfl, ?_⟩
            simp [go_sem, f82, mw]
          case s14 =>
            refine stepV_val (v := (wv)) (x19_refl w wv _) (pr19_none (by decide) (by decide) (by decide)) (fun D av wv1 hE hO hD => ?_) (fun _ => rfl)
            have d83 : av.eval (.tmp 83) = (.pointer (some ⟨w.heap.size + 1, 1, none⟩)) := hD.1 rfl _ rfl
            have f83 := (ev_form av 83).symm.trans d83
            obtain ⟨x0, hx0⟩ := hE.inv
            have k1 := block_cell hx0 1
            refine ⟨rfl, ?_⟩
            simp [go_sem, f83, k1, mw]
          case s15 =>
            refine stepV_val (v := (.int .i64 (m : Int))) (x19_refl w wv _) (pr19_none (by decide) (by decide) (by decide)) (fun D av wv1 hE hO hD => ?_) (fun _ => rfl)
            have h7 : av.eval (.tmp 7) = (.int .i64 (m : Int)) := hO.2.2 7 rfl
            have f7 := (ev_form av 7).symm.trans h7
            refine ⟨rfl, ?_⟩
            simp [go_sem, f7, mw]
          case s16 =>
            refine stepV_val (v := (.int .u64 (m : Int))) (x19_refl w wv _) (pr19_none (by decide) (by decide) (by decide)) (fun D av wv1 hE hO hD => ?_) (fun _ => rfl)
            have d85 : av.eval (.tmp 85) = (.int .i64 (m : Int)) := hD.1 rfl _ rfl
            have f85 := (ev_form av 85).symm.trans d85
            refine ⟨rfl, ?_⟩
            simp [go_sem, f85, mw]
          case s17 =>
            refine stepV_wp (fun D av wv1 hPP hE hO hD => ?_)
            have d86 : av.eval (.tmp 86) = (.int .u64 (m : Int)) := hD.1 rfl _ rfl
            have f86 := (ev_form av 86).symm.trans d86
            have hsz := hE.ext.size
            refine ⟨rfl, wp_of_run (v := .slice (some ⟨wv1.heap.size, 0, none⟩) 1 1) (w' := wv1.alloc (.cells #[.int .u64 (m : Int)] 22)) (by first | (simp [go_sem, f86]; done) | (simp [go_sem, f86]; rfl)) ⟨_, rfl, esV_of_ext (balloc (Ext_refl _) _) (fun h => absurd h (by decide)), ⟨wv1.heap.size, rfl, ?_, ?_, by simp at hsz; omega, heap_alloc_new _ _⟩, fun j oj _ _ _ => ⟨(pr19_none (i := 17) (by decide) (by decide) (by decide) j _ _ _).1, (pr19_none (i := 17) (by decide) (by decide) (by decide) j _ _ _).2⟩⟩⟩
            · exact fun e => absurd (ST2.out.oe.lt _ e.symm).2 (by simp at hsz; omega)
            · exact fun e => absurd (ST2.out.ow.lt _ e.symm).2 (by simp at hsz; omega)
          case s18 =>
            refine stepV_wp (fun D av wv1 hPP hE hO hD => ?_)
            have da : av.eval (.tmp 84) = (wv) := hD.1 rfl _ rfl
            obtain ⟨b, db1, _, _, _, db2⟩ : ∃ b, av.eval (.tmp 87) = .slice (some ⟨b, 0, none⟩) 1 1 ∧ some b ≠ ev.ownBlock ∧ some b ≠ wv.ownBlock ∧ b ≠ w.heap.size + 1 ∧ wv1.heap[b]? = some (.cells #[.int .u64 (m : Int)] 22 (0, 0)) := hD.2.1 rfl _ rfl
            have hsz : W3.heap.size ≤ wv1.heap.size := by have := hE.ext.size; simpa using this
            have hown : wv1.ownsRow w.heap.size 22 1 wv (len (endK Ws Ss m)) ((whoK Ss m).map (Value.int .u64)) := own_same ST2.out.ow (fun q hq => hE.own q (by rw [vo18]; exact hq) (by have := (ST2.out.ow.lt q hq).2; simpa using this))
            have hbw : w.heap.size ≤ wv1.heap.size := Nat.le_trans ST2.out.bel.size hsz
            refine ⟨rfl, wp_append_lies wv1 _ _ _ rfl w.heap.size 22 i0 (.int .u64 0) 1 8 Try.underlying28 hi HZ.out hz1 hz2 rfl (by decide) _ _ _ da hown ⟨b, 0, none⟩ 1 1 [.int .u64 (m : Int)] db1 rfl (World.news_of_block db2) (by simp [Value.oneCell']) (by decide) (by unfold maxLen; omega) (by omega) hbw _ rfl ?_⟩
            intro g c w4 hown4 hgrow4 hat4 hlt4
            refine ⟨_, rfl, ⟨by rw [vo18]; exact hgrow4, fun h => absurd h (by decide)⟩, ⟨g, c, rfl, hown4, hat4.imp id (fun h => by omega)⟩, fun j oj hoj hd hne => ?_⟩
            refine ⟨⟨fun h => absurd h (by decide), fun h => absurd h (by decide)⟩, ⟨fun h9 _ => ?_, fun _ h => absurd h (by decide)⟩⟩
            subst h9
            obtain ⟨g3, c3, h1, h2, h3⟩ := hPP 9 oj hoj hd
            exact (ap_pair h1 hat4 h3 (h2.lt g3 (by rw [h1]; rfl)).2 ST2.out.ap.1.symm (fun q hq => (ST2.out.ow.lt q hq).2)).symm
          case s19 =>
            refine stepV_val (v := (.pointer (some ⟨w.heap.size + 1, 0, none⟩))) (x19_refl w wv _) (pr19_none (by decide) (by decide) (by decide)) (fun D av wv1 hE hO hD => ?_) (fun _ => rfl)
            have d70 : av.eval (.tmp 70) = (.pointer (some ⟨w.heap.size + 1, 0, none⟩)) := hD.1 rfl _ rfl
            have f70 := (ev_form av 70).symm.trans d70
            refine ⟨rfl, ?_⟩
            simp [go_sem, f70, mw]
          case s20 =>
            refine stepV_val (v := (.pointer (some ⟨w.heap.size + 1, 0, none⟩))) (x19_refl w wv _) (pr19_none (by decide) (by decide) (by decide)) (fun D av wv1 hE hO hD => ?_) (fun _ => rfl)
            have d89 : av.eval (.tmp 89) = (.pointer (some ⟨w.heap.size + 1, 0, none⟩)) := hD.1 rfl _ rfl
            have f89 := (ev_form av 89).symm.trans d89
            refine ⟨rfl, ?_⟩
            simp [go_sem, f89, mw]
          case s21 =>
            refine stepV_val (v := (.pointer (some ⟨w.heap.size + 1, 0, none⟩))) (x19_refl w wv _) (pr19_none (by decide) (by decide) (by decide)) (fun D av wv1 hE hO hD => ?_) (fun _ => rfl)
            have d90 : av.eval (.tmp 90) = (.pointer (some ⟨w.heap.size + 1, 0, none⟩)) := hD.1 rfl _ rfl
            have f90 := (ev_form av 90).symm.trans d90
            refine ⟨rfl, ?_⟩
            simp [go_sem, f90, mw]
          case s22 =>
            refine stepV_wp (fun D av wv1 hPP hE hO hD => ?_)
            have d91 : av.eval (.tmp 91) = (.pointer (some ⟨w.heap.size + 1, 0, none⟩)) := hD.1 rfl _ rfl
            obtain ⟨g, c, d79, _, _⟩ : ∃ g c, av.eval (.tmp 79) = .slice (some ⟨g, 0, none⟩) (len (endK Ws Ss m) + 1) c ∧ _ ∧ _ := hD.2.1 rfl _ rfl
            have f91 := (ev_form av 91).symm.trans d91
            have f79 := (ev_form av 79).symm.trans d79
            obtain ⟨x0, hx0⟩ := hE.inv
            have k0 := block_cell hx0 0
            have ff := block_free hx0 0
            refine ⟨rfl, wp_of_skip (w' := wv1.setCell ⟨w.heap.size + 1, 0, none⟩ (.slice (some ⟨g, 0, none⟩) (len (endK Ws Ss m) + 1) c)) (by simp [go_sem, f91, f79, k0, ff]) ⟨undef, rfl, ⟨by rw [vo22]; exact grownBy_setCell' wv1 _ _, fun _ _ => ⟨_, block_setCell hx0 _⟩⟩, trivial, fun j oj hoj hd hne => ⟨⟨fun h => absurd h (by decide), fun h => absurd h (by decide)⟩, ⟨fun _ h => absurd h (by decide), fun h9 _ => ?_⟩⟩⟩⟩
            subst h9
            cases hoj
            show _ = some (Obj.cells #[av.eval (.tmp 79), _, _, _] _ _)
            rw [d79]
            exact block_setCell hx0 _
          intro a' w5 hE hI5 hO hall hpair
          have hA := act_of_outer (ds := [70, 71, 72, 73, 74, 75, 76, 77, 78, 79, 80, 81, 82, 83, 84, 85, 86, 87, 88, 89, 90, 91]) rfl hO (by kernel_rfl)
          have e70 : a'.eval (.tmp 70) = (.pointer (some ⟨w.heap.size + 1, 0, none⟩)) := hall.1 _ rfl
          have e71 : a'.eval (.tmp 71) = (.pointer (some ⟨w.heap.size + 1, 0, none⟩)) := hall.2.1 _ rfl
          have e72 : a'.eval (.tmp 72) = (.pointer (some ⟨w.heap.size + 1, 0, none⟩)) := hall.2.2.1 _ rfl
          have e73 : a'.eval (.tmp 73) = (.pointer (some ⟨w.heap.size + 1, 0, none⟩)) := hall.2.2.2.1 _ rfl
          have e74 : a'.eval (.tmp 74) = (.pointer (some ⟨w.heap.size + 1, 0, none⟩)) := hall.2.2.2.2.1 _ rfl
          have e75 : a'.eval (.tmp 75) = (.pointer (some ⟨w.heap.size + 1, 0, none⟩)) := hall.2.2.2.2.2.1 _ rfl
          have e76 : a'.eval (.tmp 76) = (ev) := hall.2.2.2.2.2.2.1 _ rfl
          have e77 : a'.eval (.tmp 77) = (.int .u64 (tN : Int)) := hall.2.2.2.2.2.2.2.1 _ rfl
          obtain ⟨v78, e78⟩ : ∃ v, a'.eval (.tmp 78) = v := ⟨_, rfl⟩
          obtain ⟨g9, c9, e79, own9, lie9⟩ : ∃ g c, a'.eval (.tmp 79) = .slice (some ⟨g, 0, none⟩) (len (endK Ws Ss m) + 1) c ∧ w5.ownsRow w.heap.size 22 1 (a'.eval (.tmp 79)) (len (endK Ws Ss m) + 1) ((endK Ws Ss m).map (Value.int .u64) ++ [Value.int .u64 (tN : Int)]) ∧ (ev.ownBlock = some g ∨ W3.heap.size ≤ g) := hall.2.2.2.2.2.2.2.2.2.1 _ rfl
          have e80 : a'.eval (.tmp 80) = (.pointer (some ⟨w.heap.size + 1, 0, none⟩)) := hall.2.2.2.2.2.2.2.2.2.2.1 _ rfl
          have e81 : a'.eval (.tmp 81) = (.pointer (some ⟨w.heap.size + 1, 0, none⟩)) := hall.2.2.2.2.2.2.2.2.2.2.2.1 _ rfl
          have e82 : a'.eval (.tmp 82) = (.pointer (some ⟨w.heap.size + 1, 0, none⟩)) := hall.2.2.2.2.2.2.2.2.2.2.2.2.1 _ rfl
          have e83 : a'.eval (.tmp 83) = (.pointer (some ⟨w.heap.size + 1, 1, none⟩)) := hall.2.2.2.2.2.2.2.2.2.2.2.2.2.1 _ rfl
          have e84 : a'.eval (.tmp 84) = (wv) := hall.2.2.2.2.2.2.2.2.2.2.2.2.2.2.1 _ rfl
          have e85 : a'.eval (.tmp 85) = (.int .i64 (m : Int)) := hall.2.2.2.2.2.2.2.2.2.2.2.2.2.2.2.1 _ rfl
          have e86 : a'.eval (.tmp 86) = (.int .u64 (m : Int)) := hall.2.2.2.2.2.2.2.2.2.2.2.2.2.2.2.2.1 _ rfl
          obtain ⟨v87, e87⟩ : ∃ v, a'.eval (.tmp 87) = v := ⟨_, rfl⟩
          obtain ⟨g18, c18, e88, own18, lie18⟩ : ∃ g c, a'.eval (.tmp 88) = .slice (some ⟨g, 0, none⟩) (len (endK Ws Ss m) + 1) c ∧ w5.ownsRow w.heap.size 22 1 (a'.eval (.tmp 88)) (len (endK Ws Ss m) + 1) ((whoK Ss m).map (Value.int .u64) ++ [Value.int .u64 (m : Int)]) ∧ (wv.ownBlock = some g ∨ W3.heap.size ≤ g) := hall.2.2.2.2.2.2.2.2.2.2.2.2.2.2.2.2.2.2.1 _ rfl
          have e89 : a'.eval (.tmp 89) = (.pointer (some ⟨w.heap.size + 1, 0, none⟩)) := hall.2.2.2.2.2.2.2.2.2.2.2.2.2.2.2.2.2.2.2.1 _ rfl
          have e90 : a'.eval (.tmp 90) = (.pointer (some ⟨w.heap.size + 1, 0, none⟩)) := hall.2.2.2.2.2.2.2.2.2.2.2.2.2.2.2.2.2.2.2.2.1 _ rfl
          have e91 : a'.eval (.tmp 91) = (.pointer (some ⟨w.heap.size + 1, 0, none⟩)) := hall.2.2.2.2.2.2.2.2.2.2.2.2.2.2.2.2.2.2.2.2.2.1 _ rfl
          have hap := (hpair 9 18 _ _ rfl rfl (by decide) (by decide) (by decide)).1 rfl rfl
          have hb5 := (hpair 9 22 _ _ rfl rfl (by decide) (by decide) (by decide)).2 rfl rfl
          have hap2 : Ap (a'.eval (.tmp 79)) (a'.eval (.tmp 88)) := hap
          have hb52 : w5.heap[w.heap.size + 1]? = some (Obj.cells #[a'.eval (.tmp 79), wv, .slice (some ⟨g2, 0, none⟩) (m + 1 + 1) cap2, .nilFunc] 84 (0, 0)) := hb5
          rw [e79] at own9 hap2 hb52
          rw [e88] at own18 hap2
          simp only [List.foldl_cons, List.foldl_nil, Act.put, List.setIfInBounds_toArray, List.set_cons_succ, List.set_cons_zero, e70, e71, e72, e73, e74, e75, e76, e77, e78, e79, e80, e81, e82, e83, e84, e85, e86, e87, e88, e89, e90, e91] at hA
          clear hO hall hpair hap hb5 e70 e71 e72 e73 e74 e75 e76 e77 e78 e79 e80 e81 e82 e83 e84 e85 e86 e87 e88 e89 e90 e91
          subst hA
          have hfin := Lib.hid (new_fin ST2.out hE vor own9 own18 lie9 lie18 hap2 hb52 hsg HT.out)
          have k1 := block_cell hb52 1
          have ff := block_free hb52 1
          clear hE hI5 own9 own18 lie9 lie18 hap2 hb52 hBk n1 n2 voi voB vor vo9 vo18 vo22 von
          try simp only [List.drop_succ_cons, List.drop_zero]
          go_wp2
          go_roundg (len Ws - (m + 1))
          case rel => exact ⟨m + 1, by omega, by go_num, fun k hk => by
            by_cases e : k = m + 1
            · subst e; rw [HT.out]; omega
            · exact hU.out k (by omega), ⟨_, _, _, hfin.out⟩⟩
          case measure => omega
      · have hsf : Ss.getD m false = false := by unfold sg at hsg; simpa using hsg
        rw [hsf] at cb1
        obtain ⟨tN, htN⟩ : ∃ tN, sN = tN := ⟨_, rfl⟩
        have hadd : (callFunc 50 #[.int .u64 (sN : Int), .int .u64 0, .int .u64 0]).run Try.prog wr = .ok (.value (.tuple #[.int .u64 (tN : Int), .int .u64 0])) wr := by
          have := add64_any sN 0 wr hs64 (by omega)
          rw [show (sN + 0) % 18446744073709551616 = tN by omega, show (sN + 0) / 18446744073709551616 = 0 by omega] at this
          exact this
        have HT : Hid (smK Ws Ss (m + 1) = (tN : Int)) := Lib.hid (by simp only [smK]; rw [if_neg hsg]; omega)
        have HSN := Lib.hid hsN
        have ht64 : tN < 18446744073709551616 := by omega
        clear hsN htN hsm0 hsm1 hs64
        go_upto_region 17 with fail
        go_wp2_with (at_builtin; refine wpList_append_lies _ rfl _ _ 28 rfl w.heap.size 22 i0 (.int .u64 0) 1 8 Try.underlying28 hi HZ.out hz1 hz2 rfl (by decide) _ _ _ rfl (OS.out.alloc _) ⟨wr.heap.size, 0, none⟩ 1 1 [.int .u64 (tN : Int)] rfl rfl (cell_one_new _ _ _) (by simp [Value.oneCell']) (by decide) (by unfold maxLen; omega) (by omega) (by have := ST.out.bel.size; simp; omega) _ rfl ?_)
        intro g2 cap2 w2 hown2 hgrow2 hat2 hlt2
        have S2 := Lib.hid (ST.out.sums hown2 hgrow2 hat2 HT.out)
        have hB2 := S2.out.1
        have fB2 := block_free hB2 2
        have cB2 := block_cell hB2 2
        have ST2 := Lib.hid S2.out.2
        clear S2 hB2 hown2 hgrow2 hat2 hlt2
        go_upto_region 18 with fail
        obtain ⟨W3, hW3⟩ : ∃ W3, w2.setCell ⟨w.heap.size + 1, 2, none⟩ (.slice (some ⟨g2, 0, none⟩) (m + 1 + 1) cap2) = W3 := ⟨_, rfl⟩
        rw [hW3] at ST2
        try rw [hW3]
        clear hW3 cB2 fB2 cb1 ca1
        obtain ⟨bb', bo', e3, cb1⟩ := (HBB.out.below ST2.out.bel) m (by rw [HL.out]; exact hlt)
        cases e3
        rw [hsf] at cb1
        go_wp2
        go_roundg (len Ws - (m + 1))
        case rel => exact ⟨m + 1, by omega, by go_num, fun k hk => by
          by_cases e : k = m + 1
          · subst e; rw [HT.out]; omega
          · exact hU.out k (by omega), ⟨_, _, _, ST2.out.skip hsg⟩⟩
        case measure => omega
    · obtain rfl : m = len Ws := by omega
      have i1 : ¬ ((len Ws : Nat) : Int) < len Ws := by omega
      obtain ⟨ea, ec, rfl, _, _, _⟩ := own_u64 st.oe
      have how : wr.ownsRow w.heap.size 22 1 wv (len (whoK Ss (len Ws))) ((whoK Ss (len Ws)).map (Value.int .u64)) := by rw [who_end Ws]; exact st.ow
      obtain ⟨wa, wc, rfl, _, _, _⟩ := own_u64 how
      have hos : wr.ownsRow w.heap.size 22 1 sv (len (allK Ws Ss (len Ws))) ((allK Ws Ss (len Ws)).map (Value.int .u64)) := by rw [allK_len]; exact st.os
      obtain ⟨sa, sc, hsv, _, hsc, hsm⟩ := own_u64 hos
      rw [allK_len] at hsv hsc
      subst hsv
      obtain ⟨sg0, scap, hsa, _, _⟩ := st.os.form (Nat.succ_pos _)
      obtain ⟨rfl, rfl⟩ : sa = some ⟨sg0, 0, none⟩ ∧ sc = scap := by cases hsa; exact ⟨rfl, rfl⟩
      clear hsa
      have c0 := block_cell st.blk 0
      have c1 := block_cell st.blk 1
      have c2 := block_cell st.blk 2
      have c3 := block_cell st.blk 3
      have ff := block_free st.blk 2
      have ST := Lib.hid st
      have HOW := Lib.hid how
      have HOS := Lib.hid hos
      have HU := hU
      clear st hst how hos hU
      unfold maxLen at hsm
      go_upto_region 23 with fail
      have hB1 : (wr.setCell ⟨w.heap.size + 1, 2, none⟩ (.slice (some ⟨sg0, 0, none⟩) (len Ws + 1) (len Ws + 1))).heap[w.heap.size + 1]? = some (.cells #[.slice ea (len (endK Ws Ss (len Ws))) ec, .slice wa (len (whoK Ss (len Ws))) wc, .slice (some ⟨sg0, 0, none⟩) (len Ws + 1) (len Ws + 1), .nilFunc] 84 (0, 0)) := block_setCell (o := 2) ST.out.blk (.slice (some ⟨sg0, 0, none⟩) (len Ws + 1) (len Ws + 1))
      obtain ⟨X, hX⟩ : ∃ X, wr.setCell ⟨w.heap.size + 1, 2, none⟩ (.slice (some ⟨sg0, 0, none⟩) (len Ws + 1) (len Ws + 1)) = X := ⟨_, rfl⟩
      have hg1 : wr.grownBy X (some (w.heap.size + 1)) := by
        rw [← hX]
        exact ⟨rfl, rfl, rfl, by simp [World.setCell], fun k hk hn => Below.heap_setCell _ _ _ _ (fun e => hn (by rw [e]))⟩
      have hb1 : Below w.heap.size w X := by rw [← hX]; exact bset ST.out.bel (by show w.heap.size ≤ w.heap.size + 1; omega) _
      rw [hX] at hB1
      try rw [hX]
      clear hX c0 c1 c2 c3 ff
      have d0 := block_cell hB1 0
      have d1 := block_cell hB1 1
      have d3 := block_cell hB1 3
      have f3 := block_free hB1 3
      have HB1 := Lib.hid hB1
      have HG1 := Lib.hid hg1
      have HBL := Lib.hid hb1
      clear hB1 hg1 hb1
      go_wp2
      go_ret2
      refine .inr ⟨HU.out, w.heap.size + 1, rfl, Nat.le_succ _, ?_, bset HBL.out (by show w.heap.size ≤ w.heap.size + 1; omega) _⟩
      have hB2 : (X.setCell ⟨w.heap.size + 1, 3, none⟩ (.func (.func 51) #[.agg #[.slice ea (len (endK Ws Ss (len Ws))) ec, .slice wa (len (whoK Ss (len Ws))) wc]] #[])).heap[w.heap.size + 1]? = some (.cells (layCells ea wa (some ⟨sg0, 0, none⟩) ec wc (len Ws + 1) (endK Ws Ss (len Ws)) (whoK Ss (len Ws)) (allK Ws Ss (len Ws))) 84 (0, 0)) := by
        have := block_setCell (o := 3) HB1.out (.func (.func 51) #[.agg #[.slice ea (len (endK Ws Ss (len Ws))) ec, .slice wa (len (whoK Ss (len Ws))) wc]] #[])
        unfold layCells
        rw [allK_len]
        exact this
      have hg2 : wr.grownBy (X.setCell ⟨w.heap.size + 1, 3, none⟩ (.func (.func 51) #[.agg #[.slice ea (len (endK Ws Ss (len Ws))) ec, .slice wa (len (whoK Ss (len Ws))) wc]] #[])) (some (w.heap.size + 1)) := by
        refine ⟨HG1.out.os, HG1.out.tape, HG1.out.output, by simp [World.setCell]; exact HG1.out.size, fun k hk hn => ?_⟩
        rw [Below.heap_setCell _ _ _ _ (fun e => hn (by rw [e]))]
        exact HG1.out.block k hk hn
      have key : ∀ {a : Option Addr} {l : List Int}, U64s wr a l → (∀ b off, a = some ⟨b, off, none⟩ → b ≠ w.heap.size + 1) → U64s (X.setCell ⟨w.heap.size + 1, 3, none⟩ (.func (.func 51) #[.agg #[.slice ea (len (endK Ws Ss (len Ws))) ec, .slice wa (len (whoK Ss (len Ws))) wc]] #[])) a l := fun {a l} hu hne i hi => by
        obtain ⟨b, off, e, hc⟩ := hu i hi
        exact ⟨b, off, e, by rw [World.cell?_of_block (w := wr) (hg2.block b (lt_of_cell hc) (fun e2 => hne b off e (by cases e2; rfl)))]; exact hc⟩
      have nr : ∀ {a : Option Addr} {c n : Nat} {xs : List Value}, wr.ownsRow w.heap.size 22 1 (.slice a n c) n xs → ∀ b off, a = some ⟨b, off, none⟩ → b ≠ w.heap.size + 1 := by
        intro a c n xs h b off e e2
        subst e2
        rcases h.2 with ⟨h1, _⟩ | ⟨g, cap, cur, h1, _, hq, _⟩
        · rw [e] at h1; cases h1
        · rw [e] at h1
          cases h1
          have := ST.out.blk
          rw [this] at hq; cases hq
      refine ⟨ea, wa, _, ec, wc, _, hB2, key ?_ (nr ST.out.oe), key ?_ (nr HOW.out), key ?_ (nr ST.out.os)⟩
      · obtain ⟨_, _, h1, h2, _⟩ := own_u64 ST.out.oe; cases h1; exact h2
      · obtain ⟨_, _, h1, h2, _⟩ := own_u64 HOW.out; cases h1; exact h2
      · obtain ⟨a9, c9, h1, h2, _⟩ := own_u64 HOS.out
        have e9 : a9 = some ⟨sg0, 0, none⟩ := by injection h1 with h3 h4 h5; exact h3.symm
        rw [e9] at h2; exact h2
end Go.Proofs.Ytbeppkokkbgddaa
