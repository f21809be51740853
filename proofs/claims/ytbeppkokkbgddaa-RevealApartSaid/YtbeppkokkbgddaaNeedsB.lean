/- Package layout: Needs, of at most a hundred leaves. -/
import Derived.Test.YtbeppkokkbgddaaNeeds
import Derived.Test.YtbeppkokkbgddaaRegionIn
import Derived.Test.YtbeppkokkbgddaaSortC
namespace Go.Proofs.Ytbeppkokkbgddaa
open Go.RowKit Go.ChangeMaps
set_option linter.unusedSimpArgs false
set_option linter.unusedVariables false
attribute [local go_sem] Oper.semAt_some

/-- The places that a level lacks. -/
def needK (ks : List Int) : List Int := insAll ((ks.map sib).filter fun s => !decide (s ∈ ks))
theorem needK_mem (ks : List Int) (k : Int) : k ∈ needK ks ↔ (∃ j ∈ ks, k = sib j) ∧ k ∉ ks := by
  unfold needK
  rw [(insAll_all _).2.1, List.mem_filter, List.mem_map]
  constructor
  · rintro ⟨⟨j, hj, rfl⟩, h⟩; exact ⟨⟨j, hj, rfl⟩, by simpa using h⟩
  · rintro ⟨⟨j, hj, rfl⟩, h⟩; exact ⟨⟨j, hj, rfl⟩, by simpa using h⟩
theorem needK_nodup (ks : List Int) : (needK ks).Nodup := (insAll_all _).1
def rowK (ks : List Int) : List Int := srt (needK ks)
theorem rowK_of {xs ks : List Int} (hn : xs.Nodup) (h : ∀ k, k ∈ xs ↔ k ∈ needK ks) : srt xs = rowK ks :=
  srt_of hn (srt_rising (needK_nodup ks)) (fun k => (h k).trans (srt_mem _ _).symm)
theorem rowK_same {ks js : List Int} (h : ∀ k, k ∈ ks ↔ k ∈ js) : rowK ks = rowK js :=
  rowK_of (needK_nodup ks) (fun k => by
    rw [needK_mem, needK_mem, h]
    constructor
    · rintro ⟨⟨j, hj, e⟩, hk⟩; exact ⟨⟨j, (h j).1 hj, e⟩, hk⟩
    · rintro ⟨⟨j, hj, e⟩, hk⟩; exact ⟨⟨j, (h j).2 hj, e⟩, hk⟩)
/-- What is needed of these leaves, level by level. -/
def rowsOf (leaves : List Int) (d : Nat) : List (List Int) := (List.range d).map fun i => rowK (insAll (leaves.map (· / 2 ^ i)))
theorem rowsOf_levs {leaves : List Int} {d : Nat} {xs : List Lev} (h : LevsOf leaves d xs) : xs.map (fun x => rowK x.2.2) = rowsOf leaves d := by
  apply List.ext_getElem
  · simp [rowsOf, h.1]
  · intro i h1 h2
    have hi : i < xs.length := by simpa using h1
    simp only [rowsOf, List.getElem_map, List.getElem_range]
    refine rowK_same (fun k => ?_)
    rw [(insAll_all _).2.1, h.2 i hi k, List.mem_map]
    constructor
    · rintro ⟨j, hj, e⟩; exact ⟨j, hj, e.symm⟩
    · rintro ⟨j, hj, e⟩; exact ⟨j, hj, e.symm⟩

/-- Slices of the call's own that hold these rows. -/
def RowsAre (W : World) (base : Nat) (vals : List Value) (rs : List (List Int)) : Prop :=
  vals.length = rs.length ∧ ∀ i, ∀ h : i < rs.length, ∃ v, vals[i]? = some v ∧ W.ownsRow base 22 1 v rs[i].length (rs[i].map (Value.int .u64))
theorem RowsAre.nil (W : World) (base : Nat) : RowsAre W base [] [] := ⟨rfl, fun i h => by simp at h⟩
theorem RowsAre.snoc {W : World} {base : Nat} {vals : List Value} {rs : List (List Int)} (h : RowsAre W base vals rs) {v : Value} {r : List Int} (hv : W.ownsRow base 22 1 v r.length (r.map (Value.int .u64))) : RowsAre W base (vals ++ [v]) (rs ++ [r]) := by
  refine ⟨by simp [h.1], fun i hi => ?_⟩
  by_cases hlt : i < rs.length
  · obtain ⟨u, h1, h2⟩ := h.2 i hlt
    refine ⟨u, by rw [List.getElem?_append_left (by rw [h.1]; exact hlt)]; exact h1, ?_⟩
    rw [List.getElem_append_left hlt]; exact h2
  · have e : i = rs.length := by simp at hi; omega
    subst e
    refine ⟨v, by rw [← h.1]; simp, ?_⟩
    rw [List.getElem_append_right (Nat.le_refl _)]
    simpa using hv
theorem ownsRow_later {W W' : World} {base b' : Nat} {e size n : Nat} {v : Value} {xs : List Value} (h : W.ownsRow base e size v n xs) (hb : Below W.heap.size W W') (hbb : b' ≤ base) : W'.ownsRow b' e size v n xs := by
  have h2 := own_below h hb
  refine ⟨h2.1, ?_⟩
  rcases h2.2 with h3 | ⟨g, cap, cur, h4, h5, h6⟩
  · exact .inl h3
  · exact .inr ⟨g, cap, cur, h4, by omega, h6⟩
theorem RowsAre.kept {W W' : World} {base : Nat} {vals : List Value} {rs : List (List Int)} {row : Option Nat} (h : RowsAre W base vals rs) (hg : W.grownBy W' row)
    (hr : ∀ i : Nat, ∀ v ∈ vals, v.ownBlock = none ∨ v.ownBlock ≠ row) : RowsAre W' base vals rs :=
  ⟨h.1, fun i hi => by
    obtain ⟨v, h1, h2⟩ := h.2 i hi
    exact ⟨v, h1, h2.kept hg (hr 0 v (List.mem_of_getElem? h1))⟩⟩
theorem RowsAre.below {W W' : World} {base : Nat} {vals : List Value} {rs : List (List Int)} (h : RowsAre W base vals rs) (hb : Below W.heap.size W W') : RowsAre W' base vals rs :=
  ⟨h.1, fun i hi => by
    obtain ⟨v, h1, h2⟩ := h.2 i hi
    exact ⟨v, h1, own_below h2 hb⟩⟩
/-- A row of another type is not the row of these. -/
theorem RowsAre.apart {W : World} {base : Nat} {vals : List Value} {rs : List (List Int)} (h : RowsAre W base vals rs) {g : Nat} {cs : Array Value} {t : TypeId} {fr : Nat × Nat} (hg : W.heap[g]? = some (.cells cs t fr)) (ht : t ≠ 22) : ∀ i : Nat, ∀ v ∈ vals, v.ownBlock = none ∨ v.ownBlock ≠ some g := by
  intro _ v hv
  obtain ⟨i, hi, rfl⟩ := List.getElem_of_mem hv
  obtain ⟨u, h1, h2⟩ := h.2 i (by rw [← h.1]; exact hi)
  rw [List.getElem?_eq_getElem hi] at h1
  cases h1
  rcases h2.2 with ⟨e, _⟩ | ⟨g', cap, cur, e, _, hh, _⟩
  · rw [e]; exact .inl rfl
  · rw [e]
    right
    intro e2
    obtain rfl : g' = g := by simpa [Value.ownBlock] using e2
    rw [hg] at hh
    cases hh
    exact ht rfl

/-- The places that a level lacks, as far as the keys have come. -/
def Lack (ks : List Int) (nb : Nat) (seen : Array Nat) (nx : List Int) : Prop := nx.Nodup ∧ ∀ k, k ∈ nx ↔ ∃ i, ∃ h : i < ks.length, nb + i ∈ seen ∧ k = sib ks[i] ∧ k ∉ ks
theorem Lack.start (ks : List Int) (nb : Nat) : Lack ks nb #[] [] := ⟨List.nodup_nil, fun k => by simp⟩
theorem Lack.step {ks : List Int} {nb : Nat} {seen : Array Nat} {nx : List Int} (h : Lack ks nb seen nx) {i : Nat} (hi : i < ks.length) : Lack ks nb (seen.push (nb + i)) (if sib ks[i] ∈ ks then nx else insK nx (sib ks[i])) := by
  have key : ∀ k, (∃ j, ∃ h : j < ks.length, nb + j ∈ seen.push (nb + i) ∧ k = sib ks[j] ∧ k ∉ ks) ↔ (k ∈ nx ∨ (k = sib ks[i] ∧ k ∉ ks)) := fun k => by
    rw [h.2]
    constructor
    · rintro ⟨j, hj, hs, e⟩
      rcases Array.mem_push.1 hs with hs | he
      · exact .inl ⟨j, hj, hs, e⟩
      · have : j = i := by omega
        subst this; exact .inr e
    · rintro (⟨j, hj, hs, e⟩ | e)
      · exact ⟨j, hj, Array.mem_push.2 (.inl hs), e⟩
      · exact ⟨i, hi, Array.mem_push.2 (.inr rfl), e⟩
  split
  · rename_i hm
    refine ⟨h.1, fun k => ?_⟩
    rw [key]
    constructor
    · exact .inl
    · rintro (h1 | ⟨rfl, h2⟩)
      · exact h1
      · exact absurd hm h2
  · rename_i hm
    refine ⟨insK_nodup h.1 _, fun k => ?_⟩
    rw [key, insK_mem]
    constructor
    · rintro (h1 | rfl)
      · exact .inl h1
      · exact .inr ⟨rfl, hm⟩
    · rintro (h1 | ⟨rfl, _⟩)
      · exact .inl h1
      · exact .inr rfl
theorem Lack.done {ks : List Int} {nb : Nat} {seen : Array Nat} {nx : List Int} (h : Lack ks nb seen nx) (ha : ∀ i, i < (kv ks).length → nb + i ∈ seen) : ∀ k, k ∈ nx ↔ k ∈ needK ks := fun k => by
  rw [h.2, needK_mem]
  constructor
  · rintro ⟨i, hi, _, e, hk⟩; exact ⟨⟨_, List.getElem_mem hi, e⟩, hk⟩
  · rintro ⟨⟨j, hj, e⟩, hk⟩
    obtain ⟨i, hi, rfl⟩ := List.getElem_of_mem hj
    exact ⟨i, hi, ha i (by rw [kv_len]; exact hi), e, hk⟩
theorem needK_len (ks : List Int) : (needK ks).length ≤ ks.length := by
  have h1 := (insAll_all ((ks.map sib).filter fun s => !decide (s ∈ ks))).2.2
  have h2 := List.length_filter_le (fun s => !decide (s ∈ ks)) (ks.map sib)
  unfold needK
  rw [List.length_map] at h2
  omega
theorem Lack.len {ks : List Int} {nb : Nat} {seen : Array Nat} {nx : List Int} (h : Lack ks nb seen nx) (hk : ∀ k, k ∈ nx ↔ k ∈ needK ks) : nx.length ≤ ks.length :=
  Nat.le_trans (nodup_len nx (needK ks) h.1 (fun k hm => (hk k).1 hm)) (needK_len ks)

/-- The row that a box holds, and the rows in it. -/
def OutIs (B base : Nat) (W : World) (rs : List (List Int)) : Prop := ∃ (v : Value) (vals : List Value), Boxed W B 30 v ∧ W.ownsRow base 28 1 v vals.length vals ∧ RowsAre W base vals rs
theorem out_own {B base B0 : Nat} {β : Type} (f : β → List (List Int)) : OwnFrom B0 (fun s W => OutIs B base W (f s)) := by
  rintro s X Y row ⟨v, vals, hv, hr, hR⟩ hg hrow
  have key : ∀ (g : Nat) (cs : Array Value) (t : TypeId) (fr : Nat × Nat), X.heap[g]? = some (.cells cs t fr) → some g ≠ row := fun g cs t fr hgc e => by
    obtain ⟨_, o, ho, hc⟩ := hrow g e.symm
    rw [hgc] at ho; cases ho; cases hc
  have key2 : ∀ {u : Value} {e n : Nat} {xs : List Value}, X.ownsRow base e 1 u n xs → u.ownBlock = none ∨ u.ownBlock ≠ row := fun {u e n xs} h => by
    rcases h.2 with ⟨rfl, _⟩ | ⟨g, cap, cur, rfl, _, hgb, _⟩
    · exact .inl rfl
    · exact .inr (key g _ _ _ hgb)
  refine ⟨v, vals, hv.kept hg (key B _ _ _ hv), hr.kept hg (key2 hr), hR.1, fun i hi => ?_⟩
  obtain ⟨u, h1, h2⟩ := hR.2 i hi
  exact ⟨u, h1, h2.kept hg (key2 h2)⟩
theorem OutIs.below {B base : Nat} {W W' : World} {rs : List (List Int)} (h : OutIs B base W rs) (hb : Below W.heap.size W W') : OutIs B base W' rs := by
  obtain ⟨v, vals, h1, h2, h3⟩ := h
  exact ⟨v, vals, (hb.block _ h1.lt).trans h1, own_below h2 hb, h3.below hb⟩

def NeedsIs (rs : List (List Int)) (w : World) (e : Ending) (w' : World) : Prop :=
  ∃ (v : Value) (vals : List Value), e = .returned v ∧ w'.ownsRow w.heap.size 28 1 v vals.length vals ∧ RowsAre w' w.heap.size vals rs ∧ Below w.heap.size w w'

theorem info_rows : (Try.prog.info? 28).map (fun i => (i.zero, i.size, i.bytes)) = some (some (.slice none 0 0), 1, 24) := by kernel_rfl

set_option maxRecDepth 100000 in
set_option maxHeartbeats 4000000 in
theorem needs12_any (a : Option Addr) (cap : Nat) (leaves : List Int) (d : Nat) (w : World) (hl : U64s w a leaves) (hlen : len leaves ≤ 100) (hl0 : 0 < len leaves) (hu : ∀ k ∈ leaves, U64 k) (hd : d ≤ 16) (hf : farB leaves d = false) :
    Calls Try.prog 23 #[.slice a (len leaves) cap, .int .i64 d] w (NeedsIs (rowsOf leaves d) w) := by
  have HL := Lib.hid hl
  have HU := Lib.hid hu
  have HF := Lib.hid hf
  clear hl hu hf
  refine (callsIn_wide (n := 9)).1 ?_
  refine callsIn_of_wp_marks Try.func23 rfl trivial ?_ rfl
  simp only [Try.ntmps23, List.size_toArray, List.length_cons, List.length_nil, Nat.reduceAdd, Nat.reduceSub, Array.replicate_succ, Array.replicate_zero, List.push_toArray, List.append_toArray, List.nil_append, List.cons_append]
  gi_wp2_with fail
  refine ⟨trivial, (callsIn_wide.2 (may_any _ _)).mono ?_⟩
  rintro e w' ⟨rfl, rfl⟩
  have b1 : (0 : Int) ≤ d := by omega
  have b2 : (d : Int) ≤ 16 := by omega
  have b3 : ((len leaves : Int) == 0) = false := by simp; omega
  obtain ⟨V, hV⟩ : ∃ V, w.alloc (.cells #[.int .i64 d] 3) = V := ⟨_, rfl⟩
  have VB : Hid (Below w.heap.size w V) := Lib.hid (by rw [← hV]; (repeat (first | exact Below.refl _ _ | assumption | (refine bdrew ?_) | (refine bdrewN ?_ _) | (refine balloc ?_ _) | (refine bset ?_ (by first | omega | (simp; done) | (simp; omega)) _) | (refine bnext ?_ (by assumption)))))
  have V0 : Hid (V.heap[w.heap.size]? = some (.cells #[.int .i64 d] 3 (0, 0))) := Lib.hid (by rw [← hV]; (repeat (first | exact alloc_new_at _ (by repeat (first | rfl | refine alloc_size _ ?_)) | refine block_alloc ?_ _)))
  have Vz : V.heap.size = w.heap.size + 1 := by rw [← hV]; simp
  rw [hV]
  have VZ := Lib.hid Vz
  clear hV Vz
  rw [show (decide ((0 : Int) ≤ d) && decide ((d : Int) ≤ 16)) = true by simp [b1, b2]]
  gi_wp2_with fail
  refine ⟨trivial, (callsIn_wide.2 (contains_any a cap leaves w.heap.size d V (block_cell V0.out 0) hd (HL.out.below VB.out) (by omega) HU.out)).mono ?_⟩
  rintro e w' ⟨rfl, rfl⟩
  rw [HF.out]
  have hcc : V.cell? ⟨w.heap.size, 0, none⟩ = some (.int .i64 d) := block_cell V0.out 0
  have hzz : w.heap.size < V.heap.size := lt_of_block V0.out
  gi_wp2_with fail
  refine ⟨trivial, (callsIn_wide.2 (levels_any a cap leaves d _)).mono ?_⟩
  rintro e Z ⟨rfl, hZ⟩
  obtain ⟨o, ho⟩ : ∃ o, V.heap.size = o := ⟨_, rfl⟩
  have Vsz : V.heap.size = w.heap.size + 1 := VZ.out
  have hs1 : (V.alloc (.cells #[.slice none 0 0] 30)).heap.size = o + 1 := by simp; omega
  have hs2 : ((V.alloc (.cells #[.slice none 0 0] 30)).alloc (.cells #[.slice a (len leaves) cap] 28)).heap.size = o + 2 := by simp; omega
  rw [hs1, ho]
  have ZB : Hid (Below w.heap.size w Z) := Lib.hid (by rw [hZ]; exact balloc (balloc (balloc VB.out _) _) _)
  have ZO : Hid (Boxed Z o 30 (.slice none 0 0)) := Lib.hid (by rw [hZ]; exact block_alloc (block_alloc (alloc_new_at _ ho) _) _)
  have Z1 : Hid (Z.heap[o + 1]? = some (.cells #[.slice a (len leaves) cap] 28 (0, 0))) := Lib.hid (by rw [hZ]; exact block_alloc (alloc_new_at _ hs1) _)
  have Z2 : Hid (Z.heap[o + 2]? = some (.cells #[.int .i64 d] 3 (0, 0))) := Lib.hid (by rw [hZ]; exact alloc_new_at _ hs2)
  have howz : w.heap.size ≤ o := by omega
  have HOZ := Lib.hid Vsz
  have hoz : Hid (o < Z.heap.size) := Lib.hid ZO.out.lt
  clear hZ hs1 hs2 hcc hzz Vsz ho VZ V0 VB HOZ
  gi_wp2_with fail
  refine wpIn_rangeFunc_P rfl (by omega) (gf := 63) (lb := #[.pointer (some ⟨o + 1, 0, none⟩), .pointer (some ⟨o + 2, 0, none⟩)]) rfl trivial (enters_of Try.func63 (by kernel_rfl) rfl)
    (levels_seq 8 (by omega) (o + 1) (o + 2) a cap leaves d Z (block_cell Z1.out 0) (block_cell Z2.out 0) (HL.out.below ZB.out) (by omega) (by omega) HU.out) (fun x W l r o' h hl => h.putObj o' hl) (fun _ => rfl)
    (fun pre W => OutIs o w.heap.size W (pre.map fun x => rowK x.2.2) ∧ Below w.heap.size w W)
    (OwnFrom.and (out_own fun pre : List Lev => pre.map fun x => rowK x.2.2) (ownFrom_below (Nat.le_refl _) (by have := hoz.out; omega)))
    ⟨⟨_, [], ZO.out, World.ownsRow_nil _ _ _ _, RowsAre.nil _ _⟩, ZB.out⟩ ?a1 ?assign ?body ?done
  case assign =>
    intro l x W K hK
    gi_wp2
    exact hK
  case body =>
    rintro l pre ⟨kb, nb, ks⟩ W ⟨hO, hB⟩ hPx hlt
    have HO := Lib.hid hO
    have HB := Lib.hid hB
    have HN := Lib.hid hPx.2.1
    have HLE := Lib.hid hPx.2.2.1
    have HU2 := Lib.hid hPx.2.2.2
    have HM0 : Hid (W.heap[kb]? = some (mObj .u64 nb (kv ks))) := Lib.hid hPx.1
    clear hO hB hPx
    dsimp only
    have hmm := @run_makeMap Try.prog
    gi_upto_region 8 with (fail)
    clear hmm
    obtain ⟨V, hV⟩ : ∃ V, W.alloc (.map #[] 0) = V := ⟨_, rfl⟩
    obtain ⟨nk, hnk⟩ : ∃ nk, W.heap.size = nk := ⟨_, rfl⟩
    have VB : Hid (Below W.heap.size W V) := Lib.hid (by rw [← hV]; exact balloc (Below.refl _ _) _)
    have VN : Hid (V.heap[nk]? = some (mObj .u64 0 (kv []))) := Lib.hid (by rw [← hV]; exact alloc_new_at _ hnk)
    have VM : Hid (V.heap[kb]? = some (mObj .u64 nb (kv ks))) := Lib.hid (by rw [← hV]; exact block_alloc HM0.out _)
    have hkn : kb < nk := by have := lt_of_block HM0.out; omega
    have NK := Lib.hid hnk
    rw [hV, hnk]
    clear hV hnk HM0
    gi_wp2_with (gi_at_range; refine wpListIn_range_m rfl _ 71 22 4 .u64 rfl Try.underlying71 kb nb _ rfl VM.out ?_; intro hrg)
    try go_frame
    obtain ⟨r, hr⟩ : ∃ r, V.heap.size = r := ⟨_, rfl⟩
    obtain ⟨Y, hY⟩ : ∃ Y, V.alloc (.mapIter (some kb) (nb + (kv ks).length) #[] (nb + (kv ks).length)) = Y := ⟨_, rfl⟩
    have YR : Hid (Ranging Y kb r .u64 nb (kv ks) #[]) := Lib.hid (by rw [← hY, ← hr]; exact hrg)
    have YN : Hid (Y.heap[nk]? = some (mObj .u64 0 (kv []))) := Lib.hid (by rw [← hY]; exact block_alloc VN.out _)
    have YB : Hid (Below W.heap.size W Y) := Lib.hid (by rw [← hY]; exact balloc VB.out _)
    have hnr : nk < r := by have := lt_of_block VN.out; omega
    rw [hr, hY]
    clear hr hY hrg VN VM VB
    gi_loopw [9] (fun _ wr => ∃ (seen : Array Nat) (nx : List Int), Hid (Ranging wr kb r .u64 nb (kv ks) seen) ∧ Hid (wr.heap[nk]? = some (mObj .u64 0 (kv nx))) ∧ Hid (Lack ks nb seen nx) ∧ Hid (Below W.heap.size W wr)) (fun _ wr => rLeft wr r (nb + (kv ks).length))
    case atStart => exact ⟨#[], [], YR.out, YN.out, Lack.start ks nb, YB.out⟩
    case round =>
      clear YR YN YB
      obtain ⟨seen, nx, hr, hx, hh, hz⟩ := hrel
      gi_wp2_with (gi_at_next; refine wpListIn_next_m rfl _ rfl kb r .u64 nb _ seen rfl hr.out ?_ ?_)
      · intro hall
        have HALL := Lib.hid hall
        clear hall
        gi_upto_region 14 with (fail)
        have HD := Lib.hid (hh.out.done HALL.out)
        have HLN : Hid (nx.length ≤ 100) := Lib.hid (by have := hh.out.len HD.out; have := HLE.out; omega)
        obtain ⟨v, vals, hbx, hrow, hrows⟩ := HO.out.below hz.out
        have BX := Lib.hid hbx
        have RW := Lib.hid hrow
        have RS := Lib.hid hrows
        have hc0 : wr.cell? ⟨o, 0, none⟩ = some v := hbx.cell
        have MN := hx
        have BW : Hid (Below w.heap.size w wr) := Lib.hid (bnext HB.out hz.out)
        clear hbx hrow hrows hr hx HO
        refine wpIn_region_tail (fun _ => trivial) 5 1000 none (phis [fun u _ => u = v, fun u _ => u = .map (some nk), fun u w' => ∃ b, u = .func (.func 65) #[] #[.pointer (some ⟨b, 0, none⟩)] ∧ w'.cell? ⟨b, 0, none⟩ = some (.map (some nk)),
          fun u w' => w'.ownsRow w.heap.size 22 1 u (rowK ks).length ((rowK ks).map (Value.int .u64)),
          fun u w' => ∃ b u3, u = .slice (some ⟨b, 0, none⟩) 1 1 ∧ w'.heap[b]? = some (.cells #[u3] 28 (0, 0)) ∧ w'.ownsRow w.heap.size 22 1 u3 (rowK ks).length ((rowK ks).map (Value.int .u64))]) rfl (by kernel_rfl) (by kernel_rfl)
          (mono_of ⟨mono_eq, mono_eq, ?m2, ?m3, ?m4, trivial⟩) (stepsIn_of 5 ⟨?s0, ?s1, ?s2, ?s3, ?s4, trivial⟩) ?_
        case m2 =>
          exact ⟨fun u w1 w' h ⟨b, h1, h2⟩ => ⟨b, h1, by rw [h.cell (p := ⟨b, 0, none⟩) (lt_of_cell h2)]; exact h2⟩, fun _ u w1 w' h ⟨b, h1, h2⟩ => ⟨b, h1, by rw [(extB_none h).cell (p := ⟨b, 0, none⟩) (lt_of_cell h2)]; exact h2⟩⟩
        case m3 =>
          exact ⟨fun u w1 w' h h1 => own_below h1 h, fun _ u w1 w' h h1 => own_below h1 (extB_none h)⟩
        case m4 =>
          exact ⟨fun u w1 w' h ⟨b, u3, h1, h2, h3⟩ => ⟨b, u3, h1, ext_block h h2, own_below h3 h⟩, fun _ u w1 w' h ⟨b, u3, h1, h2, h3⟩ => ⟨b, u3, h1, ext_block (extB_none h) h2, own_below h3 (extB_none h)⟩⟩
        case s0 =>
          refine stepIn_wp (fun av wv hE hS hO hD => ⟨rfl, wpIn_of_run (fun _ => trivial) (by intro c hc; cases hc) (w' := wv) (v := v) ?_ ⟨v, rfl, es_of_ext (Ext_refl _), rfl⟩⟩)
          have h6 : av.eval (.tmp 6) = .pointer (some ⟨o, 0, none⟩) := hO.2.2 6 rfl
          have f6 := (ev_form av 6).symm.trans h6
          have hc0 := extB_cell hE (by simp) hc0
          simp [go_sem, f6, hc0]
        case s1 =>
          refine stepIn_wp (fun av wv hE hS hO hD => ⟨rfl, wpIn_of_run (fun _ => trivial) (by intro c hc; cases hc) (w' := wv) (v := .map (some nk)) ?_ ⟨_, rfl, es_of_ext (Ext_refl _), rfl⟩⟩)
          have h8 : av.eval (.tmp 8) = .map (some nk) := hO.2.2 8 rfl
          have f8 := (ev_form av 8).symm.trans h8
          simp [go_sem, f8]
        case s2 =>
          refine stepIn_wp (fun av wv hE hS hO hD => ?_)
          have d45 : av.eval (.tmp 45) = .map (some nk) := hD.1 rfl _ rfl
          have f45 := (ev_form av 45).symm.trans d45
          refine ⟨rfl, wpIn_of_call (by intro c hc; cases hc) (by simp [go_sem, f45]) (keys_any (.map (some nk)) wv ⟨_, rfl⟩) ?_⟩
          rintro e w' ⟨rfl, rfl⟩
          exact ⟨_, rfl, _, rfl, es_of_ext (balloc (Ext_refl _) _), wv.heap.size, rfl, block_cell (heap_alloc_new _ _) 0⟩
        case s3 =>
          refine stepIn_wp (fun av wv hE hS hO hD => ?_)
          obtain ⟨b, d46, hcb⟩ : ∃ b, av.eval (.tmp 46) = .func (.func 65) #[] #[.pointer (some ⟨b, 0, none⟩)] ∧ wv.cell? ⟨b, 0, none⟩ = some (.map (some nk)) := hD.1 rfl _ rfl
          have f46 := (ev_form av 46).symm.trans d46
          have hB := of_drew hE
          refine ⟨rfl, wpIn_of_call (by intro c hc; cases hc) (by simp [go_sem, f46]) (sorted_any wv _ nx.length _ _ (fun k _ => k ∈ nx) (fun _ _ _ h => h) (enters_of Try.func65 (by kernel_rfl) rfl) (keys1_seq Fence.wide 4 trivial rfl (by omega) b nk 0 nx wv hcb ((hB.block _ (lt_of_block MN.out)).trans MN.out) hh.out.1) (by have := HLN.out; omega)
            (fun xs hS => Nat.lt_of_le_of_lt (Nat.le_trans (nodup_len xs nx hS.1 (fun k hk => (hS.2 k).1 hk)) HLN.out) (by decide))) ?_⟩
          rintro e w' ⟨u, xs, rfl, hS, hr, hb⟩
          refine ⟨u, rfl, u, rfl, es_of_ext hb, ?_⟩
          have e1 : srt xs = rowK ks := rowK_of hS.1 (fun k => (hS.2 k).trans (HD.out k))
          have e2 : xs.length = (rowK ks).length := by rw [← e1, srt_len]
          rw [e1, e2] at hr
          refine ⟨hr.1, ?_⟩
          rcases hr.2 with h3 | ⟨g, cap, cur, h4, h5, h6⟩
          · exact .inl h3
          · exact .inr ⟨g, cap, cur, h4, by have := BW.out.size; have := hB.size; omega, h6⟩
        case s4 =>
          refine stepIn_wp (fun av wv hE hS hO hD => ?_)
          have hrw : wv.ownsRow w.heap.size 22 1 (av.eval (.tmp 47)) (rowK ks).length ((rowK ks).map (Value.int .u64)) := hD.1 rfl _ rfl
          obtain ⟨u, hu⟩ : ∃ u, av.eval (.tmp 47) = u := ⟨_, rfl⟩
          rw [hu] at hrw
          have f47 := (ev_form av 47).symm.trans hu
          have hsl : ∃ ad n c, u = .slice ad n c := by
            rcases hrw.2 with ⟨e, _⟩ | ⟨g, cap, cur, e, _⟩
            · exact ⟨_, _, _, e⟩
            · exact ⟨_, _, _, e⟩
          obtain ⟨ad, n, c, rfl⟩ := hsl
          refine ⟨rfl, wpIn_of_run (fun _ => trivial) (by intro c hc; cases hc) (w' := wv.alloc (.cells #[.slice ad n c] 28)) (v := .slice (some ⟨wv.heap.size, 0, none⟩) 1 1) ?_ ⟨_, rfl, es_of_ext (balloc (Ext_refl _) _), wv.heap.size, _, rfl, heap_alloc_new _ _, own_below hrw (balloc (Below.refl _ _) _)⟩⟩
          simp [go_sem, f47]
        intro a' w' hE hO hall
        have hA := act_of_outer (ds := [44, 45, 46, 47, 48]) rfl hO (by kernel_rfl)
        have e44 : a'.eval (.tmp 44) = v := hall.1 _ rfl
        have e45 : a'.eval (.tmp 45) = .map (some nk) := hall.2.1 _ rfl
        obtain ⟨b2, e46, -⟩ : ∃ b, a'.eval (.tmp 46) = .func (.func 65) #[] #[.pointer (some ⟨b, 0, none⟩)] ∧ w'.cell? ⟨b, 0, none⟩ = some (.map (some nk)) := hall.2.2.1 _ rfl
        obtain ⟨b4, u3, e48, hb4, hu3⟩ : ∃ b u3, a'.eval (.tmp 48) = .slice (some ⟨b, 0, none⟩) 1 1 ∧ w'.heap[b]? = some (.cells #[u3] 28 (0, 0)) ∧ w'.ownsRow w.heap.size 22 1 u3 (rowK ks).length ((rowK ks).map (Value.int .u64)) := hall.2.2.2.2.1 _ rfl
        obtain ⟨v47, hv47⟩ : ∃ v, a'.eval (.tmp 47) = v := ⟨_, rfl⟩
        simp only [List.foldl_cons, List.foldl_nil, Act.put, List.setIfInBounds_toArray, List.set_cons_succ, List.set_cons_zero, e44, e45, e46, hv47, e48] at hA
        have WB := of_drew hE
        have HB4 := Lib.hid hb4
        have BX2 : Hid (Boxed w' o 30 v) := Lib.hid ((WB.block _ BX.out.lt).trans BX.out)
        have RW2 := Lib.hid (own_below RW.out WB)
        have RS2 := Lib.hid ((RS.out.below WB).snoc hu3)
        have BW2 := Lib.hid (bnext BW.out WB)
        have KO : Hid (Below W.heap.size W w') := Lib.hid (bnext hz.out WB)
        have hlv : vals.length = pre.length := by rw [RS.out.1, List.length_map]
        have HLV := Lib.hid hlv
        clear hO hall e44 e45 e46 hv47 e48 hE hb4 hu3 hc0 WB BX RW RS BW hlv hz HALL hh HD HLN
        subst hA
        simp only [List.drop_succ_cons, List.drop_zero]
        obtain ⟨i0, hi, hz0, hz1, hz2⟩ := info_parts info_rows
        refine wpListIn_append_own _ rfl _ _ 30 rfl w.heap.size 28 i0 (.slice none 0 0) 1 24 Try.underlying30 hi hz0 hz1 hz2 rfl (by decide) v vals.length vals rfl RW2.out ⟨b4, 0, none⟩ 1 1 [u3] rfl rfl ?c1 ?c2 ?c3 ?c4 ?c5 ?_
        case c1 =>
          intro j u hu
          cases j with
          | zero => simp at hu; subst hu; exact block_cell HB4.out 0
          | succ j => simp at hu
        case c2 =>
          have hr3 := RS2.out.2 pre.length (by simp)
          obtain ⟨u, h1, h2⟩ := hr3
          have : u = u3 := by
            rw [← HLV.out] at h1
            simpa using h1.symm
          subst this
          intro x hx
          simp at hx; subst hx
          rcases h2.2 with ⟨e, _⟩ | ⟨g, cap, cur, e, _⟩ <;> (rw [e]; rfl)
        case c3 => have := HLV.out; unfold maxLen; omega
        case c4 => have := HLV.out; omega
        case c5 => exact BW2.out.size
        intro v' w1 hown' hgrow _
        obtain ⟨g', cap', rfl⟩ := ownsRow_succ hown'
        have hv1 : Boxed w1 o 30 v := BX2.out.kept hgrow (BX2.out.not_row (by decide) RW2.out)
        have R1 : Hid (RowsAre w1 w.heap.size (vals ++ [u3]) (pre.map (fun x => rowK x.2.2) ++ [rowK ks])) := Lib.hid (RS2.out.kept hgrow (fun i u hu => by
          rcases RW2.out.2 with ⟨e, _⟩ | ⟨g, cap, cur, e, _, hgb, _⟩
          · rw [e]; cases h : u.ownBlock <;> simp [Value.ownBlock]
          · rw [e]; exact RS2.out.apart hgb (by decide) i u hu))
        have K1 : Hid (KeepsOthers W w1) := Lib.hid ((⟨KO.out.size, fun k ob hk _ => (KO.out.block k (lt_of_block hk)).trans hk⟩ : KeepsOthers W w').trans (KeepsOthers.of_grownBy hgrow fun j ob ej hj => by
          rcases RW2.out.2 with ⟨e, _⟩ | ⟨g, cap, cur, e, _, hgb, _⟩
          · rw [e] at ej; simp [Value.ownBlock] at ej
          · rw [e] at ej
            obtain rfl : g = j := by simpa [Value.ownBlock] using ej
            rw [hgb] at hj; cases hj; rfl))
        have B1 : Hid (Below w.heap.size w w1) := Lib.hid (grownBy_below BW2.out hgrow (fun k hk => by
          rcases RW2.out.2 with ⟨e, _⟩ | ⟨g, cap, cur, e, hg1, _⟩
          · rw [e] at hk; simp [Value.ownBlock] at hk
          · rw [e] at hk
            obtain rfl : g = k := by simpa [Value.ownBlock] using hk
            exact hg1))
        have hc1 := hv1.cell
        have hf1 := hv1.frozen
        have BV := Lib.hid hv1
        have OW := Lib.hid hown'
        clear hv1 hgrow hown' hi hz0 hz1 hz2
        gi_wp2
        refine ⟨(K1.out.trans (KeepsOthers.setCell _ _ _)).from _, (K1.out.trans (KeepsOthers.setCell _ _ _)).walks, ⟨_, vals ++ [u3], BV.out.set _, ?_, ?_⟩, B1.out.setCell howz _⟩
        · have := OW.out.kept (grownBy_setCell' w1 o (.slice (some ⟨g', 0, none⟩) (vals.length + 1) cap')) (.inr (BV.out.not_row (by decide) OW.out).symm)
          simpa using this
        · have := R1.out.kept (grownBy_setCell' w1 o (.slice (some ⟨g', 0, none⟩) (vals.length + 1) cap')) (R1.out.apart BV.out (by decide))
          simpa using this
      · intro j hj' w1 hns hr1 hltj hb1 hsz hoth hen
        have hi' : j < ks.length := by rw [← kv_len]; exact hj'
        have hkk : (kv ks)[j].1 = ks[j] := (kv_get ks j hj').1
        have hvv : (kv ks)[j].2 = .bool true := (kv_get ks j hj').2
        rw [hkk, hvv] at hen ⊢
        have HX6 : Hid (w1.heap[nk]? = some (mObj .u64 0 (kv nx))) := Lib.hid ((hoth nk (by omega)).trans hx.out)
        have HR6 := Lib.hid hr1
        have HLT := Lib.hid hltj
        have HH6 := Lib.hid (hh.out.step (nb := nb) hi')
        have HB6 : Hid (Below W.heap.size W w1) := Lib.hid (hz.out.trans (hb1 W.heap.size (by have := NK.out; omega)))
        have hku := HU2.out ks[j] (List.getElem_mem hi')
        obtain ⟨k, hkd⟩ : ∃ k, ks[j] = k := ⟨_, rfl⟩
        rw [hkd] at hen HH6 ⊢
        try dsimp only at hku
        rw [hkd] at hku
        unfold U64 at hku
        have hk0 := hku.1
        have hk1 := hku.2
        clear hkk hvv hns hr1 hltj hb1 hsz hoth hr hx hh hkd hku hz
        gi_wp2_with fail
        refine ⟨trivial, (CallsIn.inRound l (callsIn_wide.2 (sibling_any k w1 hk0 hk1))).mono ?_⟩
        rintro e w' ⟨rfl, rfl⟩
        clear hen
        obtain ⟨s, hs⟩ : ∃ s, sib k = s := ⟨_, rfl⟩
        rw [hs] at HH6 ⊢
        have hlook := kv_look ks s
        clear hs
        by_cases hin : s ∈ ks
        · rw [decide_eq_true hin] at hlook
          have HG := Lib.hid hlook
          have HH7 : Hid (Lack ks nb (seen.push (nb + j)) nx) := Lib.hid (by have := HH6.out; rw [if_pos hin] at this; exact this)
          clear hlook hin HH6
          gi_wp2_with (gi_at_lookup; refine wpListIn_lookup_m rfl _ _ 71 22 4 .u64 rfl Try.underlying71 Try.underlying22 (.bool false) (Try.zeroValue4 _) kb nb _ rfl HR6.out.map _ rfl ?_; rw [HG.out])
          go_roundw
          case rel => exact ⟨_, _, HR6.out, HX6.out, HH7.out, HB6.out⟩
          case measure => exact HLT.out
        · rw [decide_eq_false hin] at hlook
          have HG := Lib.hid hlook
          have HH7 : Hid (Lack ks nb (seen.push (nb + j)) (insK nx s)) := Lib.hid (by have := HH6.out; rw [if_neg hin] at this; exact this)
          clear hlook hin HH6
          have HR7 : Hid (Ranging (setBlock w1 nk (mObj .u64 0 (mPut (kv nx) s (.bool true)))) kb r .u64 nb (kv ks) (seen.push (nb + j))) := Lib.hid ⟨(setBlock_other (by omega)).trans HR6.out.map, (setBlock_other (by omega)).trans HR6.out.iter⟩
          have HL7 : Hid (rLeft (setBlock w1 nk (mObj .u64 0 (mPut (kv nx) s (.bool true)))) r (nb + (kv ks).length) < rLeft wr r (nb + (kv ks).length)) := Lib.hid (by have := HLT.out; rw [HR6.out.left] at this; rw [HR7.out.left]; exact this)
          gi_wp2_with (first | (gi_at_lookup; refine wpListIn_lookup_m rfl _ _ 71 22 4 .u64 rfl Try.underlying71 Try.underlying22 (.bool false) (Try.zeroValue4 _) kb nb _ rfl HR6.out.map _ rfl ?_; rw [HG.out]) | (gi_at_mapUpdate; refine wpListIn_mapUpdate_m rfl _ _ _ 71 22 4 .u64 rfl Try.underlying71 Try.underlying22 nk 0 _ rfl HX6.out _ _ rfl rfl ?_))
          go_roundw
          case rel =>
            (repeat apply Exists.intro)
            exact ⟨⟨seen.push (nb + j), insK nx s, HR7.out, (by rw [← kv_put]; exact setBlock_same HX6.out), HH7.out, setBlock_below HB6.out (by have := NK.out; omega)⟩, rfl⟩
          case measure => exact HL7.out
  case done =>
    rintro D xs W hD hS ⟨⟨v, vals, hv, hrow, hrows⟩, hB⟩ hK
    have hc := hv.cell
    rw [rowsOf_levs hS] at hrows
    gi_wp2
    refine ⟨by simp, .inl ⟨_, _, rfl, run_takeDeferred hK, ?_⟩⟩
    have hhb : Below W.heap.size W W := Below.refl _ _
    refine ⟨_, results_tmp rfl _ _ _, v, vals, rfl, ownsRow_putObj hrow _ hK rfl, ⟨hrows.1, fun i hi => ?_⟩, hB.trans (belowK_b (w := Z) ?_ W D _ _ hD hK rfl rfl)⟩
    · obtain ⟨u, h1, h2⟩ := hrows.2 i hi
      exact ⟨u, h1, ownsRow_putObj h2 _ hK rfl⟩
    · exact ZB.out.size
end Go.Proofs.Ytbeppkokkbgddaa
