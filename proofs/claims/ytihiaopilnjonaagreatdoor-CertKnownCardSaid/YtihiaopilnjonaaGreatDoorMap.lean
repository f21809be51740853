/- Maps with integer keys into which entries are only put: what each operation on them does. -/
import Derived.Test.YtihiaopilnjonaaGreatDoorLib
import Derived.Maps.RangeRun
import Derived.Maps.RangeWalk
namespace Go.Proofs.YtihiaopilnjonaaGreatDoor
open Go.RowKit Go.ChangeMaps

/-- The entries: keys and values in the order of their coming. -/
def ents (q : IntKind) : Nat → List (Int × Value) → List MapEntry
  | _, [] => []
  | n, p :: r => ⟨.int q p.1, p.2, n⟩ :: ents q (n + 1) r
def mObj (q : IntKind) (l : List (Int × Value)) : Obj := .map (ents q 0 l).toArray l.length

/-- What stands at a key. -/
def mGet (l : List (Int × Value)) (k : Int) : Option Value := (l.find? (fun p => p.1 == k)).map (·.2)
/-- A key is given a value. -/
def mPut : List (Int × Value) → Int → Value → List (Int × Value)
  | [], k, v => [(k, v)]
  | p :: r, k, v => if p.1 = k then (k, v) :: r else p :: mPut r k v

theorem ents_length (q : IntKind) : ∀ (n : Nat) (l : List (Int × Value)), (ents q n l).length = l.length
  | _, [] => rfl
  | n, _ :: r => by simp [ents, ents_length q (n + 1) r]

theorem ents_get (q : IntKind) : ∀ (n : Nat) (l : List (Int × Value)) (i : Nat) (h : i < l.length), (ents q n l)[i]? = some ⟨.int q l[i].1, l[i].2, n + i⟩
  | n, p :: r, 0, _ => rfl
  | n, p :: r, i + 1, h => by
    simp only [ents, List.getElem?_cons_succ, List.getElem_cons_succ]
    rw [ents_get q (n + 1) r i (by simpa using h)]
    congr 2; omega

theorem ents_mem (q : IntKind) : ∀ (n : Nat) (l : List (Int × Value)) (e : MapEntry), e ∈ ents q n l → ∃ i, ∃ h : i < l.length, e = ⟨.int q l[i].1, l[i].2, n + i⟩
  | n, p :: r, e, h => by
    simp only [ents, List.mem_cons] at h
    rcases h with rfl | h
    · exact ⟨0, by simp, rfl⟩
    · obtain ⟨i, hi, rfl⟩ := ents_mem q (n + 1) r e h
      exact ⟨i + 1, by simpa using hi, by simp only [List.getElem_cons_succ]; congr 1; omega⟩

theorem ents_snoc (q : IntKind) (k : Int) (v : Value) : ∀ (n : Nat) (l : List (Int × Value)), ents q n (l ++ [(k, v)]) = ents q n l ++ [⟨.int q k, v, n + l.length⟩]
  | n, [] => rfl
  | n, p :: r => by
    simp only [List.cons_append, ents, ents_snoc q k v (n + 1) r, List.length_cons]
    congr 4; omega

theorem findNow_ents (q : IntKind) (k : Int) : ∀ (n m : Nat) (l : List (Int × Value)),
    Instr.findNow (.int q) (.int q k) (ents q n l) m = some (((l.zipIdx m).find? (fun p => p.1.1 == k)).map (fun p => (p.2, p.1.2)))
  | _, _, [] => rfl
  | n, m, p :: r => by
    simp only [ents, Instr.findNow, Instr.sameNow, if_true, List.zipIdx_cons, List.find?_cons]
    by_cases h : p.1 = k
    · subst h; simp
    · have h1 : (k == p.1) = false := by simpa using fun e => h e.symm
      have h2 : (p.1 == k) = false := by simpa using h
      simp only [h1, h2, findNow_ents q k (n + 1) (m + 1) r]

theorem zip_find_val (k : Int) : ∀ (m : Nat) (l : List (Int × Value)), (((l.zipIdx m).find? (fun p => p.1.1 == k)).map (fun p => p.1.2)) = mGet l k
  | _, [] => rfl
  | m, p :: r => by
    simp only [mGet, List.zipIdx_cons, List.find?_cons]
    by_cases h : (p.1 == k) = true
    · simp [h]
    · simp only [Bool.not_eq_true] at h
      simp only [h]
      exact zip_find_val k (m + 1) r

theorem zip_find_none (k : Int) (v : Value) : ∀ (m : Nat) (l : List (Int × Value)), (l.zipIdx m).find? (fun p => p.1.1 == k) = none → mPut l k v = l ++ [(k, v)]
  | _, [], _ => rfl
  | m, p :: r, h => by
    simp only [List.zipIdx_cons, List.find?_cons] at h
    by_cases h1 : (p.1 == k) = true
    · simp [h1] at h
    · simp only [Bool.not_eq_true] at h1
      simp only [h1] at h
      have h2 : ¬ p.1 = k := by simpa using h1
      simp only [mPut, h2, if_false, List.cons_append, zip_find_none k v (m + 1) r h]

theorem zip_find_some (q : IntKind) (k : Int) (v : Value) : ∀ (n m : Nat) (l : List (Int × Value)) (i : Nat) (x : Value),
    ((l.zipIdx m).find? (fun p => p.1.1 == k)).map (fun p => (p.2, p.1.2)) = some (i, x) →
    m ≤ i ∧ ∃ h : i - m < l.length, l[i - m].1 = k ∧ (ents q n l).modify (i - m) (fun e => { e with key := .int q k, val := v }) = ents q n (mPut l k v) ∧ (mPut l k v).length = l.length
  | n, m, p :: r, i, x, h => by
    simp only [List.zipIdx_cons, List.find?_cons] at h
    by_cases h1 : (p.1 == k) = true
    · simp only [h1] at h
      simp at h
      obtain ⟨rfl, rfl⟩ := h
      have h2 : p.1 = k := by simpa using h1
      refine ⟨Nat.le_refl _, by simp, by simpa using h2, ?_, ?_⟩
      · simp [ents, mPut, h2]
      · simp [mPut, h2]
    · simp only [Bool.not_eq_true] at h1
      simp only [h1] at h
      have h2 : ¬ p.1 = k := by simpa using h1
      obtain ⟨a, b, c, d, e⟩ := zip_find_some q k v (n + 1) (m + 1) r i x h
      have e1 : i - m = (i - (m + 1)) + 1 := by omega
      refine ⟨by omega, by simp; omega, ?_, ?_, ?_⟩
      · simp only [e1, List.getElem_cons_succ]; exact c
      · simp only [e1, ents, mPut, h2, if_false, List.modify_succ_cons, d]
      · simp only [mPut, h2, if_false, List.length_cons, e]

theorem ents_borns (q : IntKind) : ∀ (n : Nat) (l : List (Int × Value)), (ents q n l).map (·.born) = List.range' n l.length
  | _, [] => rfl
  | n, _ :: r => by simp [ents, ents_borns q (n + 1) r, List.range'_succ]
theorem ents_nodup (q : IntKind) (n : Nat) (l : List (Int × Value)) : ((ents q n l).map (·.born)).Nodup := by
  rw [ents_borns]; exact List.nodup_range'

section
open Go.MapKept
variable {P : Program} {q : IntKind} {K E t : TypeId} {w : World} {b : Nat} {l : List (Int × Value)}

theorem isKey_int (q : IntKind) (k : Int) : IsKey (.int q) (.int q k) := by simp [IsKey]

theorem run_lookup_m (ht : P.underlying t = some (.map K E)) (hK : P.underlying K = some (.int q)) {z : Value} (hz : (zeroValue E).run P w = .ok z w) (hb : w.heap[b]? = some (mObj q l)) (k : Int) :
    (Instr.lookup t (.map (some b)) (.int q k) false).run P w = .ok ((mGet l k).getD z) w := by
  unfold mObj at hb
  rw [← zip_find_val k 0 l]
  simp only [Instr.lookup, run_underlying ht, MapKept.run_getObj_map hb, MapKept.run_checkKey hK (isKey_int q k), MapKept.run_findKey hK (findNow_ents q k 0 0 l), Result.andThen, Sem.run_bind, Sem.run_pure]
  cases h : (l.zipIdx 0).find? (fun p => p.1.1 == k) <;> simp [hz, Result.andThen]

theorem run_mapUpdate_m (ht : P.underlying t = some (.map K E)) (hK : P.underlying K = some (.int q)) (hb : w.heap[b]? = some (mObj q l)) (k : Int) (v : Value) :
    (Instr.mapUpdate t (.map (some b)) (.int q k) v).run P w = .ok () (setBlock w b (mObj q (mPut l k v))) := by
  have hb0 := hb
  unfold mObj at hb
  cases h : (l.zipIdx 0).find? (fun p => p.1.1 == k) with
  | none =>
    simp only [Instr.mapUpdate, run_underlying ht, MapKept.run_getObj_map hb, MapKept.run_checkKey hK (isKey_int q k), MapKept.run_findKey hK (findNow_ents q k 0 0 l), h, Result.andThen, Sem.run_bind, Sem.run_pure, Option.map_none, MapKept.run_setObj_map _ hb]
    rw [zip_find_none k v 0 l h]
    unfold mObj setBlock
    rw [ents_snoc, Nat.zero_add]
    simp
  | some p =>
    obtain ⟨_, h1, h2, h3, h4⟩ := zip_find_some q k v 0 0 l p.2 p.1.2 (by rw [h]; rfl)
    have h5 : (((ents q 0 l).toArray[p.2]?).map (·.key)).getD (.int q k) = .int q k := by
      have := ents_get q 0 l p.2 (by simpa using h1)
      simp only [List.getElem?_toArray, this, Option.map_some, Option.getD_some]
      have h2' : l[p.2].1 = k := h2
      rw [h2']
    simp only [Instr.mapUpdate, run_underlying ht, MapKept.run_getObj_map hb, MapKept.run_checkKey hK (isKey_int q k), MapKept.run_findKey hK (findNow_ents q k 0 0 l), h, Result.andThen, Sem.run_bind, Sem.run_pure, Option.map_some, MapKept.run_setObj_map _ hb, h5, MapKept.run_keyThatStays (isKey_int q k)]
    unfold mObj setBlock
    rw [h4, ← h3]
    simp

/-- The map in block b is being ranged over by the iterator in block r; the entries with these numbers have come. -/
structure Ranging (w : World) (b r : Nat) (q : IntKind) (l : List (Int × Value)) (seen : Array Nat) : Prop where
  map : w.heap[b]? = some (mObj q l)
  iter : w.heap[r]? = some (.mapIter (some b) l.length seen l.length)

/-- How many entries are still to come. -/
def rLeft (w : World) (r n : Nat) : Nat := match w.heap[r]? with
  | some (.mapIter _ _ seen _) => ((List.range n).filter (fun i => !seen.contains i)).length
  | _ => 0

theorem filter_strike (p : Nat → Bool) (i : Nat) (L : List Nat) (hi : i ∈ L) (hp : p i = true) : (L.filter (fun j => p j && j != i)).length < (L.filter p).length := by
  have e : L.filter (fun j => p j && j != i) = (L.filter p).filter (fun j => j != i) := by
    rw [List.filter_filter]; congr 1; funext j; exact Bool.and_comm _ _
  rw [e]
  exact List.length_filter_lt_length_iff_exists.2 ⟨i, List.mem_filter.2 ⟨hi, hp⟩, by simp⟩

theorem filter_push_lt (seen : Array Nat) (i : Nat) (L : List Nat) (hi : i ∈ L) (hs : seen.contains i = false) :
    (L.filter (fun j => !(seen.push i).contains j)).length < (L.filter (fun j => !seen.contains j)).length := by
  have e : (fun j => !(seen.push i).contains j) = fun j => (!seen.contains j) && j != i := by
    funext j
    by_cases h1 : j ∈ seen <;> by_cases h2 : j = i <;> simp [h1, h2]
  rw [e]
  exact filter_strike (fun j => !seen.contains j) i L hi (by simp only [hs]; rfl)

theorem Ranging.left {w : World} {b r : Nat} {q : IntKind} {l : List (Int × Value)} {seen : Array Nat} (h : Ranging w b r q l seen) :
    rLeft w r l.length = ((List.range l.length).filter (fun i => !seen.contains i)).length := by
  unfold rLeft; rw [h.iter]

section
variable {ops : Array Oper} {rest : List Oper} {o : Oper} {a : Act} {Q : Exit → Act → World → Prop}

theorem wpList_mapUpdate_m (hg : o.guard = none) (m x v : Operand) (t K E : TypeId) (q : IntKind) (hop : o.op = Op.mapUpdate t m x v) (ht : P.underlying t = some (.map K E)) (hK : P.underlying K = some (.int q))
    (b : Nat) (l : List (Int × Value)) (hm : a.eval m = .map (some b)) (hb : w.heap[b]? = some (mObj q l)) (k : Int) (val : Value) (hx : a.eval x = .int q k) (hv : a.eval v = val)
    (hN : wpList P ops Q rest (a.put o.dst undef) (setBlock w b (mObj q (mPut l k val)))) : wpList P ops Q (o :: rest) a w := by
  refine wpList_plain hg fun K' hK' => ?_
  unfold Oper.wp
  simp [execOp, hop, hm, hx, hv, run_mapUpdate_m ht hK hb, Result.andThen]
  exact hK' _ _ hN

theorem wpList_lookup_m (hg : o.guard = none) (m x : Operand) (t K E : TypeId) (q : IntKind) (hop : o.op = Op.lookup t m x false) (ht : P.underlying t = some (.map K E)) (hK : P.underlying K = some (.int q))
    (z : Value) (hz : (zeroValue E).run P w = .ok z w) (b : Nat) (l : List (Int × Value)) (hm : a.eval m = .map (some b)) (hb : w.heap[b]? = some (mObj q l)) (k : Int) (hx : a.eval x = .int q k)
    (hN : wpList P ops Q rest (a.put o.dst ((mGet l k).getD z)) w) : wpList P ops Q (o :: rest) a w := by
  refine wpList_plain hg fun K' hK' => ?_
  unfold Oper.wp
  simp [execOp, hop, hm, hx, run_lookup_m ht hK hz hb, Result.andThen]
  exact hK' _ _ hN

theorem wpList_range_m (hg : o.guard = none) (m : Operand) (t K E : TypeId) (q : IntKind) (hop : o.op = Op.range t m) (ht : P.underlying t = some (.map K E))
    (b : Nat) (l : List (Int × Value)) (hm : a.eval m = .map (some b)) (hb : w.heap[b]? = some (mObj q l))
    (hN : Ranging (w.alloc (.mapIter (some b) l.length #[] l.length)) b w.heap.size q l #[] → wpList P ops Q rest (a.put o.dst (.pointer (some ⟨w.heap.size, 0, none⟩))) (w.alloc (.mapIter (some b) l.length #[] l.length))) :
    wpList P ops Q (o :: rest) a w := by
  refine wpList_plain hg fun K' hK' => ?_
  have hlt := lt_of_block hb
  have hb' := hb
  unfold mObj at hb'
  have hrun : (Instr.range t (.map (some b))).run P w = .ok (.pointer (some ⟨w.heap.size, 0, none⟩)) (w.alloc (.mapIter (some b) l.length #[] l.length)) := by
    simp only [Instr.range, Sem.run_bind, run_underlying ht, Result.andThen, MapKept.run_getObj_map hb']
    rfl
  unfold Oper.wp
  simp [execOp, hop, hm, hrun, Result.andThen]
  exact hK' _ _ (hN ⟨by rw [Below.heap_alloc _ _ _ hlt]; exact hb, heap_alloc_new _ _⟩)

theorem wpList_next_m (hg : o.guard = none) (it : Operand) (hop : o.op = Op.next it false) (b r : Nat) (q : IntKind) (l : List (Int × Value)) (seen : Array Nat)
    (hit : a.eval it = .pointer (some ⟨r, 0, none⟩)) (h : Ranging w b r q l seen)
    (hDone : (∀ i, i < l.length → i ∈ seen) → wpList P ops Q rest (a.put o.dst (.tuple #[.bool false])) w)
    (hMore : ∀ (i : Nat) (hi : i < l.length) (w' : World), ¬ i ∈ seen → Ranging w' b r q l (seen.push i) → rLeft w' r l.length < rLeft w r l.length → (∀ B, B ≤ r → Below B w w') → w'.heap.size = w.heap.size →
      (∀ k, k ≠ r → w'.heap[k]? = w.heap[k]?) → (Instr.entry (.pointer (some ⟨r, 0, none⟩))).run P w' = .ok (.tuple #[.int q l[i].1, l[i].2]) w' →
      wpList P ops Q rest (a.put o.dst (.tuple #[.bool true, .int q l[i].1, l[i].2])) w') :
    wpList P ops Q (o :: rest) a w := by
  refine wpList_plain hg fun K' hK' => ?_
  obtain ⟨hb, hr⟩ := h
  have hne : b ≠ r := by rintro rfl; rw [hb] at hr; unfold mObj at hr; cases hr
  have hb' := hb
  unfold mObj at hb'
  have hold : ∀ x ∈ (ents q 0 l).toArray.toList, x.born < l.length := by
    intro x hx
    obtain ⟨i, hi, rfl⟩ := ents_mem q 0 l x (by simpa using hx)
    simpa using hi
  unfold Oper.wp
  rcases run_next_at (P := P) w o.type r b l.length l.length seen _ _ hr hb' hold (Nat.le_refl _) with ⟨h0, hrun⟩ | ⟨e, he, w1, hw1, hrun⟩
  · simp [execOp, hop, hit, hrun, Result.andThen]
    refine hK' _ _ (hDone fun i hi => ?_)
    by_cases hc : i ∈ seen
    · exact hc
    · exfalso
      have h1 := ents_get q 0 l i hi
      have h2 := List.mem_of_getElem? h1
      have h3 : (⟨.int q l[i].1, l[i].2, 0 + i⟩ : MapEntry) ∈ leftOf (ents q 0 l).toArray seen := by
        unfold leftOf
        simp only [Array.mem_filter, List.mem_toArray]
        exact ⟨h2, by simpa using hc⟩
      have h4 := Array.eq_empty_of_size_eq_zero h0
      rw [h4] at h3
      simp at h3
  · have he' := he
    unfold leftOf at he'
    simp only [Array.toList_filter, List.mem_filter] at he'
    obtain ⟨hm, hs⟩ := he'
    obtain ⟨i, hi, rfl⟩ := ents_mem q 0 l e hm
    simp only [Nat.zero_add] at *
    have hs' : ¬ i ∈ seen := by simpa using hs
    have hw : w1.heap = w.heap := by rcases hw1 with rfl | rfl <;> rfl
    have hlt := lt_of_block hr
    have hrg : Ranging (setBlock w1 r (.mapIter (some b) l.length (seen.push i) l.length)) b r q l (seen.push i) := by
      refine ⟨?_, ?_⟩
      · show (w1.heap.setIfInBounds r _)[b]? = _
        rw [hw, Array.getElem?_setIfInBounds_ne (Ne.symm hne)]; exact hb
      · show (w1.heap.setIfInBounds r _)[r]? = _
        rw [hw]; simp [hlt]
    simp [execOp, hop, hit, hrun, Result.andThen]
    refine hK' _ _ (hMore i hi _ hs' hrg ?_ ?_ ?_ ?_ ?_)
    · rw [hrg.left, (Ranging.mk hb hr).left]
      exact filter_push_lt seen i _ (by simpa using hi) (by simpa using hs')
    · intro B hB
      refine ⟨by rcases hw1 with rfl | rfl <;> rfl, by rcases hw1 with rfl | rfl <;> rfl, by rcases hw1 with rfl | rfl <;> rfl, by simp [setBlock, hw], fun k hk => ?_⟩
      show (w1.heap.setIfInBounds r _)[k]? = _
      rw [hw, Array.getElem?_setIfInBounds_ne (by omega)]
    · simp [setBlock, hw]
    · intro k hk
      show (w1.heap.setIfInBounds r _)[k]? = _
      rw [hw, Array.getElem?_setIfInBounds_ne (Ne.symm hk)]
    · have hmem : (⟨.int q l[i].1, l[i].2, i⟩ : MapEntry) ∈ (ents q 0 l).toArray.toList := by simpa using hm
      have hnd : ((ents q 0 l).toArray.toList.map (·.born)).Nodup := by simpa using ents_nodup q 0 l
      have hb2 := hrg.map
      unfold mObj at hb2
      exact run_entry_at _ r b l.length seen _ _ _ hrg.iter hb2 hmem hnd
end
end
end Go.Proofs.YtihiaopilnjonaaGreatDoor
