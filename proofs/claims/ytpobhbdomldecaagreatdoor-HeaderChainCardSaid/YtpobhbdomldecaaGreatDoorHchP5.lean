/- Parts of the proof, one behind the other. -/
import Derived.Test.YtpobhbdomldecaaGreatDoorHchP4
import Derived.Carry
import Derived.BigQuiet
import Derived.Lib.Strings
import Derived.Great.Walk
import Derived.Laws.AppendOwn
import Derived.Laws.MakeOwn
import Derived.Defers
import Derived.Recover
import Derived.Maps.AppendAt
import Derived.ArgAppend
import Derived.Laws.AppendOwnNone
namespace Go.Proofs.YtpobhbdomldecaaGreatDoor
open Go.RowKit
set_option linter.unusedSimpArgs false
set_option linter.unusedVariables false
def sV (d : ByteArray) : Value := .agg #[.string d]
structure MapG (L : List (Int × Value)) (g : KnF) : Prop where
  get : ∀ k, mGet L k = (g k).map sV
theorem MapG.nil : MapG [] noF := ⟨fun k => rfl⟩
theorem MapG.put {L : List (Int × Value)} {g : KnF} (h : MapG L g) (k : Int) (d : ByteArray) : MapG (mPut L k (sV d)) (putF g k d) :=
  ⟨fun j => by
    rw [mGet_put, h.get]
    unfold putF
    by_cases e : j = k
    · rw [if_pos e, if_pos e]; rfl
    · rw [if_neg e, if_neg e]⟩
theorem MapG.look {L : List (Int × Value)} {g : KnF} (h : MapG L g) (k : Int) : (mGet L k).getD (.agg #[.string ⟨#[]⟩]) = .agg #[.string (kidF g k)] := by
  rw [h.get]
  unfold kidF
  cases g k <;> rfl
def AtK (lv : List Int) (i : Nat) (k : Int) : Prop := ∃ y ∈ lv, k = y / 2 ^ i
instance (lv : List Int) (i : Nat) (k : Int) : Decidable (AtK lv i k) := by unfold AtK; exact List.decidableBEx _ _
def trF (els : List ByteArray) (d : Nat) (lv : List Int) (i : Nat) : KnF := fun k => if AtK lv i k then some (plD els d i k.toNat) else none
theorem trF_in {els : List ByteArray} {d : Nat} {lv : List Int} {i : Nat} {k : Int} (h : AtK lv i k) : trF els d lv i k = some (plD els d i k.toNat) := by unfold trF; rw [if_pos h]
theorem trF_out {els : List ByteArray} {d : Nat} {lv : List Int} {i : Nat} {k : Int} (h : ¬ AtK lv i k) : trF els d lv i k = none := by unfold trF; rw [if_neg h]
theorem atK_half {lv : List Int} {i : Nat} (p : Int) : AtK lv (i + 1) p ↔ AtK lv i (2 * p) ∨ AtK lv i (2 * p + 1) := by
  have half : ∀ y : Int, y / 2 ^ (i + 1) = y / 2 ^ i / 2 := fun y => by
    rw [Int.pow_succ, Int.ediv_ediv_of_nonneg (Int.le_of_lt (Int.pow_pos (by decide)))]
  constructor
  · rintro ⟨y, hy, rfl⟩
    rw [half]
    by_cases e : y / 2 ^ i % 2 = 0
    · exact .inl ⟨y, hy, by omega⟩
    · exact .inr ⟨y, hy, by omega⟩
  · rintro (⟨y, hy, e⟩ | ⟨y, hy, e⟩)
    · exact ⟨y, hy, by rw [half]; omega⟩
    · exact ⟨y, hy, by rw [half]; omega⟩
theorem plD_up (els : List ByteArray) (d i : Nat) (p : Nat) : plD els d (i + 1) p = hashP nodeT [plD els d i (2 * p), plD els d i (2 * p + 1)] := rfl
theorem row_memK (lv : List Int) (d i : Nat) (h : i < d) (k : Int) : k ∈ rnth (rowsOf lv d) i ↔ AtK lv i (sib k) ∧ ¬ AtK lv i k := by
  rw [row_mem lv d i h]
  have ss : ∀ x, sib (sib x) = x := fun x => by unfold sib; split <;> split <;> omega
  constructor
  · rintro ⟨⟨y, hy, rfl⟩, h2⟩
    exact ⟨⟨y, hy, by rw [ss]⟩, h2⟩
  · rintro ⟨⟨y, hy, e⟩, h2⟩
    exact ⟨⟨y, hy, by rw [← e, ss]⟩, h2⟩
def Cut (row : List Int) (j : Nat) (b : Int) : Prop := j ≤ len row ∧ (∀ x ∈ row.take j, x < b) ∧ ∀ x ∈ row.drop j, b ≤ x
theorem Cut.start {row : List Int} (h : ∀ x ∈ row, 0 ≤ x) : Cut row 0 0 := ⟨Nat.zero_le _, fun x hx => by simp at hx, fun x hx => h x (by simpa using hx)⟩
theorem flat_used (rs : List (List Int)) : ∀ i, i ≤ len rs → (flatAt rs i 0).length = usedR rs i
  | 0, _ => rfl
  | i + 1, hi => by rw [flat_row_len rs i (by omega), flat_used rs i (by omega), usedR_next rs i (by omega)]
theorem flat_used2 (rs : List (List Int)) (i : Nat) (hi : i < len rs) : ∀ j, j ≤ len (rnth rs i) → (flatAt rs i j).length = usedR rs i + j
  | 0, _ => flat_used rs i (by omega)
  | j + 1, hj => by rw [flatAt_next rs i j (by omega), List.length_append, flat_used2 rs i hi j (by omega)]; rfl
theorem dgs_at (els : List ByteArray) (rs : List (List Int)) (i j : Nat) (hi : i < len rs) (hj : j < len (rnth rs i)) : tth (dgsL els (flatLv rs)) (usedR rs i + j) = plD els (depN els) i (nth (rnth rs i) j).toNat := by
  have h := flat_at rs i j hi hj
  rw [flat_used2 rs i hi j (by omega)] at h
  unfold dgsL tth
  rw [List.getD_eq_getElem?_getD, List.getElem?_map, h]
  simp
theorem dgs_all (els : List ByteArray) (rs : List (List Int)) : len (dgsL els (flatLv rs)) = usedR rs (len rs) := by
  unfold dgsL
  rw [len_eq, List.length_map, ← flatAt_end, flat_used rs (len rs) (Nat.le_refl _)]
end Go.Proofs.YtpobhbdomldecaaGreatDoor
namespace Go.Proofs.YtpobhbdomldecaaGreatDoor
open Go.RowKit
set_option linter.unusedSimpArgs false
set_option linter.unusedVariables false
theorem bad_no {ds : List ByteArray} (h : ∀ d ∈ ds, d.size = 32) : badB ds = false := decide_eq_false (by rintro ⟨d, hd, h9⟩; exact h9 (h d hd))
theorem rootE_ok {n : Int} {ps : List Int} {es ds : List ByteArray} (h1 : ArgOk n ps es) (h2 : badB ds = false) (h3 : len ds = neededP n ps) : rootE n ps es ds = 0 ∧ rootS n ps es ds = digP n ps es ds := by
  have h9 : rootE n ps es ds = 0 := by
    unfold rootE
    rw [if_neg (fun h => h h1), if_neg (by rw [h2]; simp), if_neg (by omega), if_neg (by omega)]
  exact ⟨h9, by unfold rootS; rw [if_pos h9]⟩
end Go.Proofs.YtpobhbdomldecaaGreatDoor
namespace Go.Proofs.YtpobhbdomldecaaGreatDoor
open Go.RowKit
set_option linter.unusedSimpArgs false
set_option linter.unusedVariables false
structure Agree (els own : List ByteArray) (ps : List Int) : Prop where
  len_ : len own = len els
  off : ∀ i : Nat, ((i : Nat) : Int) ∉ ps → tth els i = tth own i
theorem Agree.refl (els : List ByteArray) (ps : List Int) : Agree els els ps := ⟨rfl, fun _ _ => rfl⟩
theorem plD_same {els own : List ByteArray} {d : Nat} (hl : len own = len els) : ∀ (i k : Nat), i ≤ d → k < 2 ^ (d - i) → (∀ j, j < 2 ^ d → j / 2 ^ i = k → tth els (revOf j d) = tth own (revOf j d)) → plD els d i k = plD own d i k
  | 0, k, _, hk, h => by
    have h1 := h k (by simpa using hk) (by simp)
    show (if revOf k d < len els then hashP leafT [tth els (revOf k d)] else hashP noneT []) = (if revOf k d < len own then hashP leafT [tth own (revOf k d)] else hashP noneT [])
    rw [h1, hl]
  | i + 1, k, hi, hk, h => by
    have hp : 2 ^ (d - i) = 2 * 2 ^ (d - (i + 1)) := by rw [show d - i = d - (i + 1) + 1 by omega, Nat.pow_succ]; omega
    have half : ∀ j, j / 2 ^ (i + 1) = j / 2 ^ i / 2 := fun j => by rw [Nat.pow_succ, Nat.div_div_eq_div_mul]
    rw [plD_up, plD_up, plD_same hl i (2 * k) (by omega) (by omega) (fun j hj e => h j hj (by rw [half]; omega)), plD_same hl i (2 * k + 1) (by omega) (by omega) (fun j hj e => h j hj (by rw [half]; omega))]
theorem row_same {els own : List ByteArray} {ps : List Int} {d n i : Nat} {x : Int} (hd : d ≤ 16) (hn : n ≤ 2 ^ d) (hu : ∀ k ∈ ps, U64 k) (hm : MayOk n ps) (ha : Agree els own ps) (hi : i < d) (hx : x ∈ rnth (rowsOf (leavesL ps (d : Nat)) d) i) : plD els d i x.toNat = plD own d i x.toNat := by
  have h1 := (row_memK _ d i hi x).1 hx
  obtain ⟨⟨y, hy, e⟩, _⟩ := (row_mem _ d i hi x).1 hx
  have hb := leaves_in hd y hy
  have h3 := half_bd hb.1 hb.2 (Nat.le_of_lt hi)
  obtain ⟨q, hq⟩ : ∃ q, d - i = q + 1 := ⟨d - i - 1, by omega⟩
  have h4 : 0 ≤ x ∧ x < 2 ^ (q + 1) := by rw [e]; rw [hq] at h3; exact sib_bd h3.1 h3.2
  obtain ⟨xn, rfl⟩ := Int.eq_ofNat_of_zero_le h4.1
  refine plD_same ha.len_ i xn (by omega) (by rw [hq]; have := h4.2; rw [pow_cast] at this; omega) (fun j hj hjx => ha.off _ (fun hp => h1.2 ?_))
  have hk := hu _ hp
  obtain ⟨m, hml, hme⟩ := List.getElem_of_mem hp
  have hr : ((revOf j d : Nat) : Int) < n := by
    have := (hm.2 m hml).1
    rw [nth_eq ps m hml, hme] at this
    exact this
  refine ⟨((j : Nat) : Int), ?_, ?_⟩
  · unfold leavesL
    refine List.mem_map.2 ⟨_, hp, ?_⟩
    rw [turnedP_rev hd (Int.natCast_nonneg _) hr hn, Int.toNat_natCast, revOf_revOf hj]
  · rw [pow_cast, ← hjx]
    exact (Int.natCast_ediv j (2 ^ i))
theorem addF_all (g : KnF) (ks : List Int) (ds : List ByteArray) (f : Int → ByteArray) : ∀ m, m ≤ len ks → (∀ j, j < m → tth ds j = f (nth ks j)) → ∀ k, addF g (ks.take m) ds k = if k ∈ ks.take m then some (f k) else g k
  | 0, _, _, k => by simp [addF]
  | m + 1, hm, h, k => by
    have hm2 : m < ks.length := hm
    have hs : ks.take (m + 1) = ks.take m ++ [nth ks m] := by rw [List.take_succ_eq_append_getElem hm2, nth_eq ks m hm2]
    rw [addF_take g ks ds m hm]
    by_cases e : k = nth ks m
    · subst e
      rw [putF_same, h m (Nat.lt_succ_self m), hs, if_pos (by simp)]
    · rw [putF_other _ _ e, addF_all g ks ds f m (by omega) (fun j hj => h j (by omega)) k, hs]
      by_cases e2 : k ∈ ks.take m
      · rw [if_pos e2, if_pos (by simp [e2])]
      · rw [if_neg e2, if_neg (by simp [e2, e])]
theorem addF_full (g : KnF) (ks : List Int) (ds : List ByteArray) (f : Int → ByteArray) (h : ∀ j, j < len ks → tth ds j = f (nth ks j)) (k : Int) : addF g ks ds k = if k ∈ ks then some (f k) else g k := by
  have := addF_all g ks ds f (len ks) (Nat.le_refl _) h k
  rw [take_len] at this
  exact this
theorem root_back {els own es : List ByteArray} {ps : List Int} {d : Nat} (hdd : depN els = d) (hd : d ≤ 16) (hn : len els ≤ 2 ^ d) (hu : ∀ k ∈ ps, U64 k) (hm : MayOk (len els : Nat) ps) (ha : Agree els own ps)
    (hel : len es = len ps) (hes : ∀ m, m < len ps → tth es m = tth own (nth ps m).toNat) : ∀ i, i ≤ d →
    rootT (g0F (leavesL ps (d : Nat)) es) (rowsOf (leavesL ps (d : Nat)) d) (dgsL els (flatLv (rowsOf (leavesL ps (d : Nat)) d))) i = trF own d (leavesL ps (d : Nat)) i
  | 0, _ => by
    funext k
    show g0F (leavesL ps (d : Nat)) es k = _
    unfold g0F
    rw [addF_full noF _ _ (fun k => plD own d 0 k.toNat) (fun m hm2 => ?_) k]
    · unfold trF noF
      by_cases e : k ∈ leavesL ps (d : Nat)
      · rw [if_pos e, if_pos ⟨k, e, by simp⟩]
      · rw [if_neg e, if_neg]
        rintro ⟨y, hy, rfl⟩
        exact e (by simpa using hy)
    · rw [leavesL_len] at hm2
      rw [leafD_at es m (by omega), hes m hm2]
      have h1 := (hm.2 m hm2).1
      have h2 := (hu _ (mem_nth hm2)).1
      have h3 : nth (leavesL ps (d : Nat)) m = turnedZ (nth ps m) (d : Nat) := by
        have h9 : m < ps.length := hm2
        unfold leavesL nth
        simp [h9]
      rw [h3, turnedP_rev hd h2 h1 hn]
      show _ = plD own d 0 (((revOf (nth ps m).toNat d : Nat) : Int).toNat)
      rw [Int.toNat_natCast]
      show _ = (if revOf (revOf (nth ps m).toNat d) d < len own then hashP leafT [tth own (revOf (revOf (nth ps m).toNat d) d)] else hashP noneT [])
      rw [revOf_revOf (show (nth ps m).toNat < 2 ^ d by omega), if_pos (by rw [ha.len_]; omega)]
  | i + 1, hi => by
    have IH := root_back hdd hd hn hu hm ha hel hes i (by omega)
    have hil : i < len (rowsOf (leavesL ps (d : Nat)) d) := by rw [rowsOf_len]; omega
    rw [rootT_next _ _ _ i hil, IH]
    have hH : ∀ k, addF (trF own d (leavesL ps (d : Nat)) i) (rnth (rowsOf (leavesL ps (d : Nat)) d) i) ((dgsL els (flatLv (rowsOf (leavesL ps (d : Nat)) d))).drop (usedR (rowsOf (leavesL ps (d : Nat)) d) i)) k = if AtK (leavesL ps (d : Nat)) i k ∨ k ∈ rnth (rowsOf (leavesL ps (d : Nat)) d) i then some (plD own d i k.toNat) else none := fun k => by
      rw [addF_full _ _ _ (fun k => plD els d i k.toNat) (fun j hj => by rw [tth_drop, dgs_at els _ i j hil hj, hdd]) k]
      by_cases e : k ∈ rnth (rowsOf (leavesL ps (d : Nat)) d) i
      · rw [if_pos e, if_pos (.inr e), row_same hd hn hu hm ha (by omega) e]
      · rw [if_neg e]
        by_cases e2 : AtK (leavesL ps (d : Nat)) i k
        · rw [trF_in e2, if_pos (.inl e2)]
        · rw [trF_out e2, if_neg (fun h9 => h9.elim e2 e)]
    funext p
    by_cases hp : AtK (leavesL ps (d : Nat)) (i + 1) p
    · rw [trF_in hp]
      have hk := (atK_half p).1 hp
      have s0 : sib (2 * p) = 2 * p + 1 := by unfold sib; split <;> omega
      have s1 : sib (2 * p + 1) = 2 * p := by unfold sib; split <;> omega
      have h0 : AtK (leavesL ps (d : Nat)) i (2 * p) ∨ 2 * p ∈ rnth (rowsOf (leavesL ps (d : Nat)) d) i := by
        by_cases e : AtK (leavesL ps (d : Nat)) i (2 * p)
        · exact .inl e
        · exact .inr ((row_memK _ d i (by omega) _).2 ⟨by rw [s0]; exact hk.resolve_left e, e⟩)
      have h1 : AtK (leavesL ps (d : Nat)) i (2 * p + 1) ∨ 2 * p + 1 ∈ rnth (rowsOf (leavesL ps (d : Nat)) d) i := by
        by_cases e : AtK (leavesL ps (d : Nat)) i (2 * p + 1)
        · exact .inl e
        · exact .inr ((row_memK _ d i (by omega) _).2 ⟨by rw [s1]; exact hk.resolve_right e, e⟩)
      have hp0 : 0 ≤ p := by
        obtain ⟨y, hy, rfl⟩ := hp
        exact Int.ediv_nonneg (leaves_in hd y hy).1 (Int.le_of_lt (Int.pow_pos (by decide)))
      rw [over_some (show prIs _ p from .inl (by rw [hH, if_pos h0]; rfl))]
      unfold kidF
      rw [hH, hH, if_pos h0, if_pos h1]
      show some (hashP nodeT [plD own d i (2 * p).toNat, plD own d i (2 * p + 1).toNat]) = some (plD own d (i + 1) p.toNat)
      rw [plD_up, show (2 * p).toNat = 2 * p.toNat by omega, show (2 * p + 1).toNat = 2 * p.toNat + 1 by omega]
    · rw [trF_out hp]
      have hk : ¬ (AtK (leavesL ps (d : Nat)) i (2 * p) ∨ AtK (leavesL ps (d : Nat)) i (2 * p + 1)) := fun h9 => hp ((atK_half p).2 h9)
      rw [not_or] at hk
      have s0 : sib (2 * p) = 2 * p + 1 := by unfold sib; split <;> omega
      have s1 : sib (2 * p + 1) = 2 * p := by unfold sib; split <;> omega
      have n0 : ¬ (AtK (leavesL ps (d : Nat)) i (2 * p) ∨ 2 * p ∈ rnth (rowsOf (leavesL ps (d : Nat)) d) i) := by
        rintro (h | h)
        · exact hk.1 h
        · exact hk.2 (by have := ((row_memK _ d i (by omega) _).1 h).1; rw [s0] at this; exact this)
      have n1 : ¬ (AtK (leavesL ps (d : Nat)) i (2 * p + 1) ∨ 2 * p + 1 ∈ rnth (rowsOf (leavesL ps (d : Nat)) d) i) := by
        rintro (h | h)
        · exact hk.2 h
        · exact hk.1 (by have := ((row_memK _ d i (by omega) _).1 h).1; rw [s1] at this; exact this)
      have g0 := (hH (2 * p)).trans (if_neg n0)
      have g1 := (hH (2 * p + 1)).trans (if_neg n1)
      unfold overF
      rw [g0, g1]
      simp
theorem back_root {els own es : List ByteArray} {ps : List Int} (hn : len els ≤ 65536) (hu : ∀ k ∈ ps, U64 k) (hm : MayOk (len els : Nat) ps) (ha : Agree els own ps)
    (hel : len es = len ps) (hes : ∀ m, m < len ps → tth es m = tth own (nth ps m).toNat) :
    rootE (len els : Nat) ps es (dgsL els (plcL (len els : Nat) ps)) = 0 ∧ rootS (len els : Nat) ps es (dgsL els (plcL (len els : Nat) ps)) = plD own (depN own) (depN own) 0 := by
  obtain ⟨d, hdd⟩ : ∃ d, depN els = d := ⟨_, rfl⟩
  have hd : d ≤ 16 := by rw [← hdd]; exact depN_le hn
  have hdz : depthZ (len els : Nat) = ((d : Nat) : Int) := by rw [depthZ_len hn, hdd]
  have hn2 : len els ≤ 2 ^ d := by rw [← hdd]; exact (depth_bd (len els) hn).2.1
  have hdo : depN own = d := by unfold depN; rw [ha.len_]; exact hdd
  have hrw : rowsP (len els : Nat) ps = rowsOf (leavesL ps (d : Nat)) d := by unfold rowsP; rw [hdz, needs_rows hd hm.1]
  have hpl : plcL (len els : Nat) ps = flatLv (rowsOf (leavesL ps (d : Nat)) d) := by unfold plcL; rw [hdz, needs_rows hd hm.1]
  have hA : ArgOk (len els : Nat) ps es := ⟨⟨by omega, by omega, hm⟩, hel⟩
  have hB : badB (dgsL els (plcL (len els : Nat) ps)) = false := bad_no (fun x hx => by
    unfold dgsL at hx
    obtain ⟨y, _, rfl⟩ := List.mem_map.1 hx
    exact plD_size _ _ _ _)
  have hN : len (dgsL els (plcL (len els : Nat) ps)) = neededP (len els : Nat) ps := by
    unfold neededP
    rw [hrw, hpl, dgs_all]
  have h := rootE_ok hA hB hN
  refine ⟨h.1, h.2.trans ?_⟩
  unfold digP
  rw [hrw, hpl, hdz, hdo]
  have hr := root_back hdd hd hn2 hu hm ha hel hes d (Nat.le_refl _)
  unfold rootT at hr
  rw [List.take_of_length_le (by have := rowsOf_len (leavesL ps (d : Nat)) d; rw [len_eq] at this; omega)] at hr
  rw [hr]
  have hk : AtK (leavesL ps (d : Nat)) d 0 := by
    have h1 : 0 < (leavesL ps (d : Nat)).length := by have h5 : (leavesL ps (d : Nat)).length = len ps := leavesL_len ps (d : Nat); have h6 := hm.1; omega
    refine ⟨(leavesL ps (d : Nat))[0], List.getElem_mem h1, ?_⟩
    have h2 := leaves_in hd _ (List.getElem_mem h1)
    exact (Int.ediv_eq_zero_of_lt h2.1 h2.2).symm
  unfold kidF
  rw [trF_in hk]
  rfl
end Go.Proofs.YtpobhbdomldecaaGreatDoor
namespace Go.Proofs.YtpobhbdomldecaaGreatDoor
open Go.RowKit Go.ChangeMaps
set_option linter.unusedSimpArgs false
set_option linter.unusedVariables false
def keysOf (L : List (Int × Value)) : List Int := L.map (·.1)
theorem keysOf_len (L : List (Int × Value)) : (keysOf L).length = L.length := by simp [keysOf]
theorem keysOf_get (L : List (Int × Value)) (i : Nat) (h : i < L.length) : (keysOf L)[i]'(by rw [keysOf_len]; exact h) = L[i].1 := by simp [keysOf]
theorem Come.snoc {L : List (Int × Value)} {nb : Nat} {seen : Array Nat} {pre : List Int} (h : Come (keysOf L) nb seen pre) (hn : (L.map (·.1)).Nodup) {i : Nat} (hi : i < L.length) (hs : ¬ nb + i ∈ seen) : Come (keysOf L) nb (seen.push (nb + i)) (pre ++ [L[i].1]) := by
  have := (h.next hn (i := i) (by rw [keysOf_len]; exact hi) hs).2
  rw [keysOf_get L i hi] at this
  exact this
theorem Come.fin {L : List (Int × Value)} {nb : Nat} {seen : Array Nat} {pre : List Int} (h : Come (keysOf L) nb seen pre) (ha : ∀ i, i < L.length → nb + i ∈ seen) : ∀ k, k ∈ pre ↔ k ∈ L.map (·.1) := fun k => by
  rw [h.2]
  constructor
  · rintro ⟨i, hi, _, e⟩; exact e ▸ List.getElem_mem hi
  · intro hk
    obtain ⟨i, hi, e⟩ := List.getElem_of_mem hk
    exact ⟨i, hi, ha i (by simpa using hi), e⟩
theorem Ranging.keep {w w' : World} {b r n : Nat} {q : IntKind} {l : List (Int × Value)} {seen : Array Nat} (h : Ranging w b r q n l seen) (h1 : w'.heap[b]? = w.heap[b]?) (h2 : w'.heap[r]? = w.heap[r]?) : Ranging w' b r q n l seen := ⟨h1.trans h.map, h2.trans h.iter⟩
def KnownAt (b n : Nat) (g : KnF) (w : World) : Prop := ∃ L, w.heap[b]? = some (mObj .u64 n L) ∧ MapF L g
def KoverIs (g : KnF) (w : World) (e : Ending) (w' : World) : Prop := ∃ b, e = .returned (.map (some b)) ∧ KnownAt b 0 (overF g) w' ∧ w.heap.size ≤ b ∧ Below w.heap.size w w'
set_option maxRecDepth 100000 in
set_option maxHeartbeats 8000000 in
theorem kover_any (b n : Nat) (g : KnF) (w : World) (h : KnownAt b n g w) (hz : ∀ k d, g k = some d → d.size ≤ 1000) :
    Calls Tryz.prog 170 #[.map (some b)] w (KoverIs g w) := by
  obtain ⟨L, hb, hm⟩ := h
  have HL := Lib.hid hb
  have HM := Lib.hid hm
  have HZ := Lib.hid hz
  have HBL : Hid (b < w.heap.size) := Lib.hid (lt_of_block hb)
  have hmm := @run_makeMap Tryz.prog
  clear hb hm hz
  go_enter Tryz.func170, Tryz.ntmps170
  go_upto_region 2 with fail
  clear hmm
  obtain ⟨pb, hpb⟩ : ∃ pb, w.heap.size = pb := ⟨_, rfl⟩
  obtain ⟨V, hV⟩ : ∃ V, w.alloc (Obj.map #[] 0) = V := ⟨_, rfl⟩
  have HVP : Hid (V.heap[pb]? = some (mObj .u64 0 [])) := Lib.hid (by rw [← hV]; exact alloc_new_at _ hpb)
  have HVL : Hid (V.heap[b]? = some (mObj .u64 n L)) := Lib.hid (by rw [← hV]; exact block_alloc HL.out _)
  have HVW : Hid (Below w.heap.size w V) := Lib.hid (by rw [← hV]; exact balloc (Below.refl _ _) _)
  have HBP : Hid (b < pb ∧ w.heap.size ≤ pb) := Lib.hid ⟨by have := HBL.out; omega, by omega⟩
  rw [hV, hpb]
  clear hV hpb HL
  go_wp2_with (at_range; refine wpList_range_m rfl _ 200 23 9 .u64 rfl Tryz.underlying200 b n _ rfl HVL.out ?_; intro hrg)
  go_frame
  obtain ⟨r, hr⟩ : ∃ r, V.heap.size = r := ⟨_, rfl⟩
  obtain ⟨U, hU⟩ : ∃ U, V.alloc (.mapIter (some b) (n + L.length) #[] (n + L.length)) = U := ⟨_, rfl⟩
  rw [hr, hU] at hrg ⊢
  have HR := Lib.hid hrg
  have HUP : Hid (U.heap[pb]? = some (mObj .u64 0 [])) := Lib.hid (by rw [← hU]; exact block_alloc HVP.out _)
  have HUW : Hid (Below w.heap.size w U) := Lib.hid (by rw [← hU]; exact balloc HVW.out _)
  have HRP : Hid (pb < r) := Lib.hid (by rw [← hr]; exact lt_of_block HVP.out)
  clear hU hr hrg HVL HVP HVW
  go_loopw [4, 5, 6] (fun _ _ _ wr => ∃ (seen : Array Nat) (pre : List Int) (QL : List (Int × Value)), Hid (Ranging wr b r .u64 n L seen) ∧ Hid (Come (keysOf L) n seen pre) ∧ Hid (wr.heap[pb]? = some (mObj .u64 0 QL)) ∧ Hid (PairF QL (resF g pre)) ∧ Hid (Below w.heap.size w wr)) (fun _ _ _ wr => rLeft wr r (n + L.length))
  case atStart => exact ⟨#[], [], [], HR, Lib.hid (Come.start _ _), HUP, Lib.hid (by rw [resF_nil]; exact PairF.nil), HUW⟩
  case round =>
    clear HR HUP HUW
    obtain ⟨seen, pre, QL, HR, HC, HP, HF, HW⟩ := hrel
    go_wp2_with (at_next; refine wpList_next_m rfl _ rfl b r .u64 n _ seen rfl HR.out ?_ ?_)
    · intro hall
      have HALL := Lib.hid hall
      clear hall
      have HQA : Hid (PairF QL g) := Lib.hid (by
        have h1 := HF.out
        rw [resF_all (g := g) (pre := pre) (fun k hk => (HC.out.fin HALL.out k).2 (HM.out.keys hk))] at h1
        exact h1)
      clear HALL HC HF HR
      have hmm := @run_makeMap Tryz.prog
      go_upto_region 9 with fail
      clear hmm
      obtain ⟨ob, hob⟩ : ∃ ob, wr.heap.size = ob := ⟨_, rfl⟩
      obtain ⟨V, hV⟩ : ∃ V, wr.alloc (Obj.map #[] 0) = V := ⟨_, rfl⟩
      have HVO : Hid (V.heap[ob]? = some (mObj .u64 0 [])) := Lib.hid (by rw [← hV]; exact alloc_new_at _ hob)
      have HVP : Hid (V.heap[pb]? = some (mObj .u64 0 QL)) := Lib.hid (by rw [← hV]; exact block_alloc HP.out _)
      have HVW : Hid (Below w.heap.size w V) := Lib.hid (by rw [← hV]; exact balloc HW.out _)
      have HOP : Hid (pb < ob ∧ w.heap.size ≤ ob) := Lib.hid ⟨by rw [← hob]; exact lt_of_block HP.out, by rw [← hob]; exact HW.out.size⟩
      rw [hV, hob]
      clear hV hob HP HW
      obtain ⟨zn, hzn⟩ : ∃ zn : Nat, 0 = zn := ⟨_, rfl⟩
      have HVP := Lib.hid (by have h := HVP.out; rw [hzn] at h; exact h)
      clear hzn
      go_wp2_with (at_range; refine wpList_range_m rfl _ 263 23 265 .u64 rfl Tryz.underlying263 pb zn _ rfl HVP.out ?_; intro hrg)
      go_frame
      obtain ⟨r2, hr2⟩ : ∃ r2, V.heap.size = r2 := ⟨_, rfl⟩
      obtain ⟨U2, hU2⟩ : ∃ U2, V.alloc (.mapIter (some pb) (zn + QL.length) #[] (zn + QL.length)) = U2 := ⟨_, rfl⟩
      rw [hr2, hU2] at hrg ⊢
      have HR := Lib.hid hrg
      have HUO : Hid (U2.heap[ob]? = some (mObj .u64 0 [])) := Lib.hid (by rw [← hU2]; exact block_alloc HVO.out _)
      have HUW : Hid (Below w.heap.size w U2) := Lib.hid (by rw [← hU2]; exact balloc HVW.out _)
      have HRO : Hid (ob < r2) := Lib.hid (by rw [← hr2]; exact lt_of_block HVO.out)
      clear hU2 hr2 hrg HVO HVP HVW
      go_loopw [8, 9] (fun _ _ wr => ∃ (seen : Array Nat) (pre : List Int) (OL : List (Int × Value)), Hid (Ranging wr pb r2 .u64 zn QL seen) ∧ Hid (Come (keysOf QL) zn seen pre) ∧ Hid (wr.heap[ob]? = some (mObj .u64 0 OL)) ∧ Hid (MapF OL (resF (overF g) pre)) ∧ Hid (Below w.heap.size w wr)) (fun _ _ wr => rLeft wr r2 (zn + QL.length))
      case atStart => exact ⟨#[], [], [], HR, Lib.hid (Come.start _ _), HUO, Lib.hid (by rw [resF_nil]; exact MapF.nil), HUW⟩
      case round =>
        clear HR HUO HUW
        obtain ⟨seen, pre, OL, HR, HC, HO, HF, HW⟩ := hrel
        go_wp2_with (at_next; refine wpList_next_m rfl _ rfl pb r2 .u64 zn _ seen rfl HR.out ?_ ?_)
        · intro hall
          have HALL := Lib.hid hall
          clear hall
          have HOA : Hid (MapF OL (overF g)) := Lib.hid (by
            have h1 := HF.out
            rw [resF_all (g := overF g) (pre := pre) (fun k hk => (HC.out.fin HALL.out k).2 (HQA.out.keys hk))] at h1
            exact h1)
          clear HALL HC HF HR
          go_wp2
          go_ret
          exact ⟨ob, rfl, ⟨OL, HO.out, HOA.out⟩, HOP.out.2, HW.out⟩
        · intro i hi w1 hns hr1 hlt hb1 hsz hoth hen
          have HR1 := Lib.hid hr1
          have HRX9 := Lib.hid hr1
          have HLT := Lib.hid hlt
          have HC1 : Hid (Come (keysOf QL) zn (seen.push (zn + i)) (pre ++ [QL[i].1])) := Lib.hid (HC.out.snoc HQA.out.nodup hi hns)
          have HO1 : Hid (w1.heap[ob]? = some (mObj .u64 0 OL)) := Lib.hid ((hoth ob (by have := HRO.out; omega)).trans HO.out)
          have HW1 : Hid (Below w.heap.size w w1) := Lib.hid (HW.out.trans (hb1 _ (by have := HRO.out; have := HOP.out; omega)))
          obtain ⟨hd, hpi⟩ := HQA.out.at i hi
          have hku := HQA.out.u64 _ (List.getElem_mem hi)
          obtain ⟨k, hk⟩ : ∃ k, QL[i].1 = k := ⟨_, rfl⟩
          rw [hk] at hku hen HC1 hd hpi ⊢
          obtain ⟨x0, hx0⟩ : ∃ x0, kidF g (2 * k) = x0 := ⟨_, rfl⟩
          obtain ⟨x1, hx1⟩ : ∃ x1, kidF g (2 * k + 1) = x1 := ⟨_, rfl⟩
          have hd2 : QL[i].2 = .agg #[.string x0, .string x1] := by rw [hd, ← hx0, ← hx1]; rfl
          rw [hd2] at hen ⊢
          have hov : overF g k = some (hashP nodeT [x0, x1]) := by rw [← hx0, ← hx1]; exact over_some hpi
          have HOV := Lib.hid hov
          have HKU := Lib.hid hku
          have HXZ : Hid (x0.size ≤ 1000000 ∧ x1.size ≤ 1000000) := Lib.hid (by
            have hkz : ∀ j, (kidF g j).size ≤ 1000000 := fun j => by
              unfold kidF
              cases hg : g j with
              | none => show (0 : Nat) ≤ _; omega
              | some d => have := HZ.out j d hg; show d.size ≤ _; omega
            rw [← hx0, ← hx1]
            exact ⟨hkz _, hkz _⟩)
          clear hd hd2 hku hk hns hr1 hlt hb1 hsz hoth hx0 hx1 hov hpi
          go_upto_region 12 with fail
          obtain ⟨q, hq⟩ : ∃ q, w1.heap.size = q := ⟨_, rfl⟩
          obtain ⟨X, hX⟩ : ∃ X, w1.alloc (Obj.cells #[.string x0, .string x1] 265) = X := ⟨_, rfl⟩
          have HQ0 : Hid (X.heap[q]? = some (.cells #[.string x0, .string x1] 265 (0, 0))) := Lib.hid (by rw [← hX]; exact alloc_new_at _ hq)
          have HRX : Hid (Ranging X pb r2 .u64 zn QL (seen.push (zn + i))) := Lib.hid (HR1.out.keep (by rw [← hX]; exact Below.heap_alloc _ _ _ (lt_of_block HR1.out.map)) (by rw [← hX]; exact Below.heap_alloc _ _ _ (lt_of_block HR1.out.iter)))
          have HOX : Hid (X.heap[ob]? = some (mObj .u64 0 OL)) := Lib.hid (by rw [← hX]; exact block_alloc HO1.out _)
          have HWX : Hid (Below w.heap.size w X) := Lib.hid (by rw [← hX]; exact balloc HW1.out _)
          rw [hq, hX]
          clear hq hX HR1 HO1 HW1 HR HC HO HW
          have c0 : X.cell? ⟨q, 0, none⟩ = some (.string x0) := by rw [block_cell HQ0.out]; rfl
          have c1 : X.cell? ⟨q, 1, none⟩ = some (.string x1) := by rw [block_cell HQ0.out]; rfl
          have c2 : q < X.heap.size := lt_of_block HQ0.out
          go_wp2_with fail
          clear c0 c1 c2
          refine (hash2_any nodeT x0 x1 X (by decide) (by decide) HXZ.out.1 HXZ.out.2).mono ?_
          rintro e w' ⟨rfl, hXd⟩
          have HRZ : Hid (Ranging w' pb r2 .u64 zn QL (seen.push (zn + i))) := Lib.hid (HRX.out.keep (hXd.block _ (lt_of_block HRX.out.map)) (hXd.block _ (lt_of_block HRX.out.iter)))
          have HOZ : Hid (w'.heap[ob]? = some (mObj .u64 0 OL)) := Lib.hid ((hXd.block _ (lt_of_block HOX.out)).trans HOX.out)
          have HWZ : Hid (Below w.heap.size w w') := Lib.hid (bnext HWX.out hXd)
          obtain ⟨D, hD⟩ : ∃ D, hashP nodeT [x0, x1] = D := ⟨_, rfl⟩
          rw [hD] at HOV ⊢
          clear hXd HRX HOX HWX HQ0 hD
          go_wp2_with (at_mapUpdate; refine wpList_mapUpdate_m rfl _ _ _ 200 23 9 .u64 rfl Tryz.underlying200 Tryz.underlying23 ob 0 _ rfl HOZ.out _ _ rfl rfl ?_)
          have HPP : Hid ((setBlock w' ob (mObj .u64 0 (mPut OL k (.string D)))).heap[ob]? = some (mObj .u64 0 (mPut OL k (.string D)))) := Lib.hid (setBlock_same HOZ.out)
          have HFF : Hid (MapF (mPut OL k (.string D)) (resF (overF g) (pre ++ [k]))) := Lib.hid (by
            rw [resF_snoc pre HOV.out]
            exact HF.out.put _ D HKU.out)
          have HRR : Hid (Ranging (setBlock w' ob (mObj .u64 0 (mPut OL k (.string D)))) pb r2 .u64 zn QL (seen.push (zn + i))) := Lib.hid (HRZ.out.keep (setBlock_other (by have := HOP.out; omega)) (setBlock_other (by have := HRO.out; omega)))
          have HWW : Hid (Below w.heap.size w (setBlock w' ob (mObj .u64 0 (mPut OL k (.string D))))) := Lib.hid (setBlock_below HWZ.out HOP.out.2)
          have HLL : Hid (rLeft (setBlock w' ob (mObj .u64 0 (mPut OL k (.string D)))) r2 (zn + QL.length) < rLeft wr r2 (zn + QL.length)) := Lib.hid (by have := HLT.out; rw [HRX9.out.left] at this; rw [HRR.out.left]; exact this)
          go_roundw
          case rel =>
            (repeat apply Exists.intro)
            exact ⟨⟨_, _, _, HRR, HC1, HPP, HFF, HWW⟩, rfl⟩
          case measure => exact HLL.out
    · intro i hi w1 hns hr1 hlt hb1 hsz hoth hen
      have HR1 := Lib.hid hr1
      have HRX9 := Lib.hid hr1
      have HLT := Lib.hid hlt
      have HC1 : Hid (Come (keysOf L) n (seen.push (n + i)) (pre ++ [L[i].1])) := Lib.hid (HC.out.snoc HM.out.nodup hi hns)
      have HP1 : Hid (w1.heap[pb]? = some (mObj .u64 0 QL)) := Lib.hid ((hoth pb (by have := HRP.out; omega)).trans HP.out)
      have HW1 : Hid (Below w.heap.size w w1) := Lib.hid (HW.out.trans (hb1 _ (by have := HRP.out; have := HBP.out; omega)))
      obtain ⟨d, hd, hg⟩ := HM.out.at i hi
      have hku := HM.out.u64 _ (List.getElem_mem hi)
      obtain ⟨k, hk⟩ : ∃ k, L[i].1 = k := ⟨_, rfl⟩
      obtain ⟨kn, rfl⟩ : ∃ kn : Nat, k = (kn : Nat) := ⟨k.toNat, by unfold U64 at hku; omega⟩
      rw [hk] at hg hku hen HC1 ⊢
      rw [hd] at hen ⊢
      have HG := Lib.hid hg
      have hk1 : kn < 18446744073709551616 := by unfold U64 at hku; omega
      have HKU := Lib.hid hku
      clear hd hg hku hk hns hr1 hlt hb1 hsz hoth
      obtain ⟨y, hy⟩ : ∃ y, kn % 2 = y := ⟨_, rfl⟩
      have s3 : bits .and .u64 ((kn : Nat) : Int) 1 = ((y : Nat) : Int) := by
        rw [show (1 : Int) = ((1 : Nat) : Int) from rfl, u64_and_nat _ _ hk1 (by omega), Nat.and_one_is_mod, hy]
      have HPA : Hid (∀ w9, Calls Tryz.prog 228 #[.int .u64 ((kn : Nat) : Int)] w9 fun e w' => e = .returned (.int .u64 (((kn : Nat) : Int) / 2)) ∧ w9 = w') := Lib.hid (fun w9 => (parent_any ((kn : Nat) : Int) w9 (by omega) (by omega)).mono (fun e w' h9 => ⟨h9.1, h9.2.symm⟩))
      go_wp2_with fail
      refine (HPA.out w1).mono ?_
      rintro e w2 ⟨rfl, rfl⟩
      obtain ⟨ph, hph⟩ : ∃ ph : Int, ((kn : Nat) : Int) / 2 = ph := ⟨_, rfl⟩
      have HPH := Lib.hid hph
      obtain ⟨x0, hx0⟩ : ∃ x0, kidF (resF g pre) (2 * ph) = x0 := ⟨_, rfl⟩
      obtain ⟨x1, hx1⟩ : ∃ x1, kidF (resF g pre) (2 * ph + 1) = x1 := ⟨_, rfl⟩
      have HLK : Hid ((mGet QL ph).getD (.agg #[.string ⟨#[]⟩, .string ⟨#[]⟩]) = .agg #[.string x0, .string x1]) := Lib.hid (by rw [← hx0, ← hx1]; exact HF.out.look ph)
      have HX0 := Lib.hid hx0
      have HX1 := Lib.hid hx1
      rw [hph] at HPA ⊢
      clear hph hx0 hx1
      go_upto_region 6 with (at_lookup; refine wpList_lookup_m rfl _ _ 263 23 265 .u64 rfl Tryz.underlying263 Tryz.underlying23 (.agg #[.string ⟨#[]⟩, .string ⟨#[]⟩]) (Tryz.zeroValue265 _) pb 0 _ rfl HP1.out _ rfl ?_; rw [HLK.out])
      obtain ⟨q, hq⟩ : ∃ q, w1.heap.size = q := ⟨_, rfl⟩
      obtain ⟨X, hX⟩ : ∃ X, w1.alloc (Obj.cells #[.string x0, .string x1] 265) = X := ⟨_, rfl⟩
      have HQ0 : Hid (X.heap[q]? = some (.cells #[.string x0, .string x1] 265 (0, 0))) := Lib.hid (by rw [← hX]; exact alloc_new_at _ hq)
      have HRX : Hid (Ranging X b r .u64 n L (seen.push (n + i))) := Lib.hid (HR1.out.keep (by rw [← hX]; exact Below.heap_alloc _ _ _ (lt_of_block HR1.out.map)) (by rw [← hX]; exact Below.heap_alloc _ _ _ (lt_of_block HR1.out.iter)))
      have HPX : Hid (X.heap[pb]? = some (mObj .u64 0 QL)) := Lib.hid (by rw [← hX]; exact block_alloc HP1.out _)
      have HWX : Hid (Below w.heap.size w X) := Lib.hid (by rw [← hX]; exact balloc HW1.out _)
      have HQL : Hid (r < q ∧ b < q ∧ pb < q) := Lib.hid ⟨by rw [← hq]; exact lt_of_block HR1.out.iter, by rw [← hq]; exact lt_of_block HR1.out.map, by rw [← hq]; exact lt_of_block HP1.out⟩
      rw [hq, hX]
      clear hq hX HR1 HP1 HW1 HR HC HP HW
      have hy2 : y < 2 := by omega
      obtain ⟨v0, hv0⟩ : ∃ v0, (#[Value.string x0, .string x1] : Array Value)[y]? = some v0 := by
        rcases (show y = 0 ∨ y = 1 by omega) with rfl | rfl <;> exact ⟨_, rfl⟩
      have c0 : X.cell? ⟨q, y, none⟩ = some v0 := by rw [block_cell HQ0.out, hv0]
      have c1 : X.frozen? ⟨q, y, none⟩ = false := block_free HQ0.out y
      have c2 : q < X.heap.size := lt_of_block HQ0.out
      have b1 : ¬ 2 ≤ y := by omega
      have b2 : ¬ (2 : Int) ≤ (y : Int) := by omega
      obtain ⟨z0, hz0⟩ : ∃ z0, (if y = 0 then d else x0) = z0 := ⟨_, rfl⟩
      obtain ⟨z1, hz1⟩ : ∃ z1, (if y = 0 then x1 else d) = z1 := ⟨_, rfl⟩
      have HZS : Hid ((#[Value.string x0, .string x1] : Array Value).setIfInBounds y (.string d) = #[.string z0, .string z1]) := Lib.hid (by
        rw [← hz0, ← hz1]
        rcases (show y = 0 ∨ y = 1 by omega) with rfl | rfl <;> rfl)
      have HZP : Hid (prPut (resF g pre) ((kn : Nat) : Int) d = .agg #[.string z0, .string z1]) := Lib.hid (by
        unfold prPut
        rw [HPH.out, HX0.out, HX1.out, ← hz0, ← hz1]
        rcases (show y = 0 ∨ y = 1 by omega) with rfl | rfl
        · rw [if_pos (show ((kn : Nat) : Int) % 2 = 0 by omega)]; rfl
        · rw [if_neg (show ¬ ((kn : Nat) : Int) % 2 = 0 by omega)]; rfl)
      clear hv0 hy hy2 hz0 hz1
      go_upto_region 7 with fail
      clear c0 c1 c2 b1 b2 s3
      obtain ⟨Y, hY⟩ : ∃ Y, X.setCell ⟨q, y, none⟩ (.string d) = Y := ⟨_, rfl⟩
      have HQB : Hid (Y.heap[q]? = some (.cells #[.string z0, .string z1] 265 (0, 0))) := Lib.hid (by rw [← hY, ← HZS.out]; exact block_setCell HQ0.out _)
      have HRY : Hid (Ranging Y b r .u64 n L (seen.push (n + i))) := Lib.hid (HRX.out.keep (by rw [← hY]; exact Below.heap_setCell _ _ _ _ (show b ≠ q by have := HQL.out; omega)) (by rw [← hY]; exact Below.heap_setCell _ _ _ _ (show r ≠ q by have := HQL.out; omega)))
      have HPY : Hid (Y.heap[pb]? = some (mObj .u64 0 QL)) := Lib.hid (by rw [← hY]; exact (Below.heap_setCell _ _ _ _ (show pb ≠ q by have := HQL.out; omega)).trans HPX.out)
      have HWY : Hid (Below w.heap.size w Y) := Lib.hid (by rw [← hY]; exact bset HWX.out (show w.heap.size ≤ q by have := HQL.out; have := HBP.out; omega) _)
      rw [hY]
      clear hY HQ0 HRX HPX HWX HZS
      have HPB : Hid (∀ w9, Calls Tryz.prog 228 #[.int .u64 ((kn : Nat) : Int)] w9 fun e w' => e = .returned (.int .u64 ph) ∧ Below w9.heap.size w9 w') := Lib.hid (fun w9 => (HPA.out w9).mono (fun e w' h9 => ⟨h9.1, by rw [← h9.2]; exact Below.refl _ _⟩))
      have HI2 : Hid ((Tryz.prog.info? 265).map (·.size) = some (#[Value.string z0, .string z1] : Array Value).size) := Lib.hid (by kernel_rfl)
      refine wp_region_tail 4 1000 (none) (phis [fun u _ => u = (.map (some pb)), fun u _ => u = (.int .u64 (kn : Nat)), fun u _ => u = (.int .u64 ph), fun u _ => u = (.agg #[.string z0, .string z1])]) rfl (by kernel_rfl) (by kernel_rfl) (mono_of ⟨mono_eq, mono_eq, mono_eq, mono_eq, trivial⟩) (steps_of 4 ⟨?s0, ?s1, ?s2, ?s3, trivial⟩) ?_
      case s0 =>
        refine step_val (v := (.map (some pb))) (fun av wv hE hS hO hD => ?_) (fun _ => rfl)
        have h3 : av.eval (.tmp 3) = (.map (some pb)) := hO.2.2 3 rfl
        have f3 := (ev_form av 3).symm.trans h3
        refine ⟨rfl, ?_⟩
        simp [go_sem, f3]
      case s1 =>
        refine step_val (v := (.int .u64 (kn : Nat))) (fun av wv hE hS hO hD => ?_) (fun _ => rfl)
        have h4 : av.eval (.tmp 4) = (.int .u64 (kn : Nat)) := hO.2.2 4 rfl
        have f4 := (ev_form av 4).symm.trans h4
        refine ⟨rfl, ?_⟩
        simp [go_sem, f4]
      case s2 =>
        refine step_wp (fun av wv hE hS hO hD => ?_)
        have d27 : av.eval (.tmp 27) = (.int .u64 (kn : Nat)) := hD.1 rfl _ rfl
        have f27 := (ev_form av 27).symm.trans d27
        refine ⟨rfl, ?_⟩
        refine wp_of_call (v := .int .u64 ph) (by simp [go_sem, f27]) (HPB.out wv) (fun w2 hb => ⟨_, rfl, es_of_ext hb, rfl⟩)
      case s3 =>
        refine step_wp (fun av wv hE hS hO hD => ?_)
        have h6 : av.eval (.tmp 6) = (.pointer (some ⟨q, 0, none⟩)) := hO.2.2 6 rfl
        have f6 := (ev_form av 6).symm.trans h6
        refine ⟨rfl, ?_⟩
        exact wp_load_row 265 _ rfl q h6 265 #[.string z0, .string z1] (0, 0) _ (extB_block hE (by simp) HQB.out) Tryz.underlying265 rfl HI2.out ⟨_, rfl, es_of_ext (Ext_refl _), rfl⟩
      intro a' w' hE hO hall
      have hA := act_of_outer (ds := [26, 27, 28, 29]) rfl hO (by kernel_rfl)
      have e26 : (fun u _ => u = (.map (some pb))) (a'.eval (.tmp 26)) w' := hall.1 _ rfl
      have e27 : (fun u _ => u = (.int .u64 (kn : Nat))) (a'.eval (.tmp 27)) w' := hall.2.1 _ rfl
      have e28 : (fun u _ => u = (.int .u64 ph)) (a'.eval (.tmp 28)) w' := hall.2.2.1 _ rfl
      have e29 : (fun u _ => u = (.agg #[.string z0, .string z1])) (a'.eval (.tmp 29)) w' := hall.2.2.2.1 _ rfl
      simp only [List.foldl_cons, List.foldl_nil, Act.put, List.setIfInBounds_toArray, List.set_cons_succ, List.set_cons_zero, e26, e27, e28, e29] at hA
      clear hO hall e26 e27 e28 e29
      subst hA
      have hXd := of_drew hE
      have HRZ : Hid (Ranging w' b r .u64 n L (seen.push (n + i))) := Lib.hid (HRY.out.keep (hXd.block _ (lt_of_block HRY.out.map)) (hXd.block _ (lt_of_block HRY.out.iter)))
      have HPZ : Hid (w'.heap[pb]? = some (mObj .u64 0 QL)) := Lib.hid ((hXd.block _ (lt_of_block HPY.out)).trans HPY.out)
      have HWZ : Hid (Below w.heap.size w w') := Lib.hid (bnext HWY.out hXd)
      clear hE hXd HPB HI2 HQB HRY HPY HWY
      simp only [List.drop_succ_cons, List.drop_zero]
      go_wp2_with (at_mapUpdate; refine wpList_mapUpdate_m rfl _ _ _ 263 23 265 .u64 rfl Tryz.underlying263 Tryz.underlying23 pb 0 _ rfl HPZ.out _ _ rfl rfl ?_)
      have HPP : Hid ((setBlock w' pb (mObj .u64 0 (mPut QL ph (.agg #[.string z0, .string z1])))).heap[pb]? = some (mObj .u64 0 (mPut QL ph (.agg #[.string z0, .string z1])))) := Lib.hid (setBlock_same HPZ.out)
      have HFF : Hid (PairF (mPut QL ph (.agg #[.string z0, .string z1])) (resF g (pre ++ [((kn : Nat) : Int)]))) := Lib.hid (by
        rw [resF_snoc pre HG.out, ← HZP.out, ← HPH.out]
        exact HF.out.put _ d HKU.out)
      have HRR : Hid (Ranging (setBlock w' pb (mObj .u64 0 (mPut QL ph (.agg #[.string z0, .string z1])))) b r .u64 n L (seen.push (n + i))) := Lib.hid (HRZ.out.keep (setBlock_other (by have := HBP.out; omega)) (setBlock_other (by have := HRP.out; omega)))
      have HWW : Hid (Below w.heap.size w (setBlock w' pb (mObj .u64 0 (mPut QL ph (.agg #[.string z0, .string z1]))))) := Lib.hid (setBlock_below HWZ.out HBP.out.2)
      have HLL : Hid (rLeft (setBlock w' pb (mObj .u64 0 (mPut QL ph (.agg #[.string z0, .string z1])))) r (n + L.length) < rLeft wr r (n + L.length)) := Lib.hid (by have := HLT.out; rw [HRX9.out.left] at this; rw [HRR.out.left]; exact this)
      go_roundw
      case rel =>
        (repeat apply Exists.intro)
        exact ⟨⟨_, _, _, HRR, HC1, HPP, HFF, HWW⟩, rfl⟩
      case measure => exact HLL.out
end Go.Proofs.YtpobhbdomldecaaGreatDoor
namespace Go.Proofs.YtpobhbdomldecaaGreatDoor
open Go.RowKit Go.ChangeMaps
set_option linter.unusedSimpArgs false
set_option linter.unusedVariables false
set_option maxRecDepth 100000 in
set_option maxHeartbeats 4000000 in
theorem proot_arg (n : Int) (ps : List Int) (es ds : List ByteArray) (pa ea da : Option Addr) (pc ec dc : Nat) (w : World) (hp : U64s w pa ps) (hl : len ps ≤ 100) (h0 : -9223372036854775808 ≤ n) (h1 : n ≤ 9223372036854775807) (hb : ¬ ArgOk n ps es) (hle : len es ≤ 1000000) :
    Calls Tryz.prog 102 #[.int .i64 n, .slice pa (len ps) pc, .slice ea (len es) ec, .slice da (len ds) dc] w (RootIs n ps es ds w) := by
  have HE : Hid (rootE n ps es ds = 2 ∧ rootS n ps es ds = ⟨#[]⟩) := Lib.hid (by
    have h9 : rootE n ps es ds = 2 := by unfold rootE; rw [if_pos hb]
    exact ⟨h9, by unfold rootS; rw [h9]; rfl⟩)
  have HM := Lib.hid (fun w9 hb9 => pmay_any n ps pa pc w9 (hp.below hb9) (by omega) h0 h1)
  by_cases hs : SizeOk n ps
  · have hne : ¬ len es = len ps := fun h9 => hb ⟨hs, h9⟩
    have z1 : ¬ ((len es : Nat) : Int) = ((len ps : Nat) : Int) := by omega
    rw [decide_eq_true hs] at HM
    clear hb hs hp hl h0 h1 hne hle
    go_enter Tryz.func102, Tryz.ntmps102
    go_wp2_with fail
    refine (HM.out _ (balloc (Below.refl _ _) _)).mono ?_
    rintro e w1 ⟨rfl, hb1⟩
    have HB1 : Hid (Below w.heap.size w w1) := Lib.hid (bnext (balloc (Below.refl _ _) _) hb1)
    clear hb1
    go_wp2
    go_ret2
    exact ⟨by rw [HE.out.1, HE.out.2]; rfl, HB1.out⟩
  · rw [decide_eq_false hs] at HM
    clear hb hs hp hl h0 h1 hle
    go_enter Tryz.func102, Tryz.ntmps102
    go_wp2_with fail
    refine (HM.out _ (balloc (Below.refl _ _) _)).mono ?_
    rintro e w1 ⟨rfl, hb1⟩
    have HB1 : Hid (Below w.heap.size w w1) := Lib.hid (bnext (balloc (Below.refl _ _) _) hb1)
    clear hb1
    go_wp2
    go_ret2
    exact ⟨by rw [HE.out.1, HE.out.2]; rfl, HB1.out⟩
set_option maxRecDepth 100000 in
set_option maxHeartbeats 4000000 in
theorem proot_form (n : Int) (ps : List Int) (es ds : List ByteArray) (pa ea da : Option Addr) (pc ec dc : Nat) (w : World) (hp : U64s w pa ps) (hd : Txts w da ds) (hl : len ps ≤ 100) (hld : len ds ≤ 1000000) (h0 : -9223372036854775808 ≤ n) (h1 : n ≤ 9223372036854775807) (hb : ArgOk n ps es) (hbad : badB ds = true) :
    Calls Tryz.prog 102 #[.int .i64 n, .slice pa (len ps) pc, .slice ea (len es) ec, .slice da (len ds) dc] w (RootIs n ps es ds w) := by
  have HE : Hid (rootE n ps es ds = 5 ∧ rootS n ps es ds = ⟨#[]⟩) := Lib.hid (by
    have h9 : rootE n ps es ds = 5 := by unfold rootE; rw [if_neg (fun h => h hb), if_pos hbad]
    exact ⟨h9, by unfold rootS; rw [h9]; rfl⟩)
  have HM := Lib.hid (fun w9 hb9 => pmay_any n ps pa pc w9 (hp.below hb9) (by omega) h0 h1)
  rw [decide_eq_true hb.1] at HM
  have hel := hb.2
  have HBD := Lib.hid (fun w9 hb9 => bad_any da dc ds w9 (hd.below hb9) (by omega))
  rw [hbad] at HBD
  clear hb hp hl h0 h1 hbad hld hd
  go_enter Tryz.func102, Tryz.ntmps102
  rw [hel]
  go_upto_region 1 with fail
  obtain ⟨pb, hpb⟩ : ∃ pb, w.heap.size = pb := ⟨_, rfl⟩
  obtain ⟨V, hV⟩ : ∃ V, w.alloc (.cells #[.slice da (len ds) dc] 36) = V := ⟨_, rfl⟩
  have HVP : Hid (V.heap[pb]? = some (.cells #[.slice da (len ds) dc] 36 (0, 0))) := Lib.hid (by rw [← hV]; exact alloc_new_at _ hpb)
  have HVW : Hid (Below w.heap.size w V) := Lib.hid (by rw [← hV]; exact balloc (Below.refl _ _) _)
  rw [hpb, hV]
  clear hV hpb
  go_wp2_with fail
  refine (HM.out _ HVW.out).mono ?_
  rintro e w1 ⟨rfl, hb1⟩
  have HP1 : Hid (w1.heap[pb]? = some (.cells #[.slice da (len ds) dc] 36 (0, 0))) := Lib.hid ((hb1.block _ (lt_of_block HVP.out)).trans HVP.out)
  have HB1 : Hid (Below w.heap.size w w1) := Lib.hid (bnext HVW.out hb1)
  clear hb1
  have c0 : w1.cell? ⟨pb, 0, none⟩ = some (.slice da (len ds) dc) := by rw [block_cell HP1.out]; rfl
  have c2 : pb < w1.heap.size := lt_of_block HP1.out
  go_wp2_with fail
  refine (HBD.out w1 HB1.out).mono ?_
  rintro e w2 ⟨rfl, rfl⟩
  clear c0 c2
  go_wp2
  go_ret2
  exact ⟨by rw [HE.out.1, HE.out.2]; rfl, HB1.out⟩
end Go.Proofs.YtpobhbdomldecaaGreatDoor
namespace Go.Proofs.YtpobhbdomldecaaGreatDoor
open Go.RowKit Go.ChangeMaps
set_option linter.unusedSimpArgs false
set_option linter.unusedVariables false
def NextIs (pb : Nat) (a : Option Addr) (ds : List ByteArray) (w : World) (e : Ending) (w' : World) : Prop := ∃ a' c', e = .returned (.string (tth ds 0)) ∧ w' = w.setCell ⟨pb, 0, none⟩ (.slice a' (len ds - 1) c') ∧ len ds - 1 ≤ c' ∧ (∀ w9, Txts w9 a ds → Txts w9 a' (ds.drop 1))
theorem txts_drop1 {w : World} {b off : Nat} {ds : List ByteArray} (h : Txts w (some ⟨b, off, none⟩) ds) : Txts w (some ⟨b, off + 1, none⟩) (ds.drop 1) := fun i hi => by
  have h1 : i < (ds.drop 1).length := hi
  rw [List.length_drop] at h1
  obtain ⟨b2, off2, e, hc⟩ := h (i + 1) (show i + 1 < ds.length by omega)
  cases e
  refine ⟨b, off + 1, rfl, ?_⟩
  rw [tth_drop, Nat.add_assoc, Nat.add_comm 1 i]
  exact hc
theorem nextd_any (pb : Nat) (a : Option Addr) (c : Nat) (ds : List ByteArray) (w : World) (hb : w.heap[pb]? = some (.cells #[.slice a (len ds) c] 36 (0, 0))) (ht : Txts w a ds) (h0 : 0 < len ds) (hc : len ds ≤ c) :
    Calls Tryz.prog 169 #[.pointer (some ⟨pb, 0, none⟩)] w (NextIs pb a ds w) := by
  obtain ⟨b, off, rfl, hcell⟩ := ht 0 h0
  have c0 : w.cell? ⟨pb, 0, none⟩ = some (.slice (some ⟨b, off, none⟩) (len ds) c) := by rw [block_cell hb]; rfl
  have c1 : w.frozen? ⟨pb, 0, none⟩ = false := block_free hb 0
  have c2 : pb < w.heap.size := lt_of_block hb
  have l1 := lt_of_cell hcell
  have z0 : (0 : Int) < (len ds : Int) := by omega
  have z1 : ¬ len ds ≤ 0 := by omega
  rw [Nat.add_zero] at hcell
  clear hb ht
  go_enter Tryz.func169, Tryz.ntmps169
  go_wp2_with fail
  · skip
    go_ret
    refine ⟨_, _, rfl, rfl, by omega, fun w9 h9 => ?_⟩
    rw [show ds.drop 1 = [] from List.drop_eq_nil_of_le (by have : len ds = ds.length := rfl; omega)]
    exact Txts.nil _ _
  · skip
    go_ret
    exact ⟨_, _, rfl, rfl, by omega, fun w9 h9 => txts_drop1 h9⟩
end Go.Proofs.YtpobhbdomldecaaGreatDoor
namespace Go.Proofs.YtpobhbdomldecaaGreatDoor
open Go.RowKit Go.ChangeMaps
set_option linter.unusedSimpArgs false
set_option linter.unusedVariables false
theorem leaves_nth (ps : List Int) (d : Int) (m : Nat) (h : m < len ps) : nth (leavesL ps d) m = turnedZ (nth ps m) d := by
  have h2 : m < ps.length := h
  unfold leavesL nth
  simp [h2]
structure LvAt (mb : Nat) (g : KnF) (w : World) : Prop where
  at_ : KnownAt mb 0 g w
  small : SmF g
theorem LvAt.keep {mb : Nat} {g : KnF} {w w' : World} (h : LvAt mb g w) (hk : w'.heap[mb]? = w.heap[mb]?) : LvAt mb g w' := by
  obtain ⟨⟨L, h1, h2⟩, h3⟩ := h
  exact ⟨⟨L, hk.trans h1, h2⟩, h3⟩
theorem LvAt.lt {mb : Nat} {g : KnF} {w : World} (h : LvAt mb g w) : mb < w.heap.size := by
  obtain ⟨⟨L, h1, h2⟩, h3⟩ := h
  exact lt_of_block h1
theorem own_keeps {wr W4 : World} {T : TypeId} {base b n size : Nat} {v : Value} {xs : List Value} (h : wr.ownsRow base T size v n xs) (hg : wr.grownBy W4 v.ownBlock) (hb : b < base) (hl : b < wr.heap.size) : W4.heap[b]? = wr.heap[b]? :=
  hg.block b hl (fun e => by have := (h.lt b e.symm).1; omega)
theorem take_snoc_nth {l : List Int} {m : Nat} (h : m < len l) : l.take (m + 1) = l.take m ++ [nth l m] := by
  have h2 : m < l.length := h
  rw [List.take_succ_eq_append_getElem h2, nth_eq l m h2]
theorem own_setBlock {w : World} {base n : Nat} {T : TypeId} {size : Nat} {v : Value} {xs : List Value} {p : Nat} (h : w.ownsRow base T size v n xs) (hp : p < base) (o : Obj) : (setBlock w p o).ownsRow base T size v n xs := by
  refine ⟨h.1, ?_⟩
  rcases h.2 with h2 | ⟨g, cap, cur, rfl, hg, hgb, h3⟩
  · exact .inl h2
  · exact .inr ⟨g, cap, cur, rfl, hg, (setBlock_other (by omega)).trans hgb, h3⟩
def RowsU (B : Nat) (w : World) (a : Option Addr) (rs : List (List Int)) : Prop :=
  ∀ m, m < len rs → ∃ rb ro ra rc, a = some ⟨rb, ro, none⟩ ∧ B ≤ rb ∧ w.cell? ⟨rb, ro + m, none⟩ = some (.slice ra (len (rnth rs m)) rc) ∧ ∀ q, q < len (rnth rs m) → ∃ ub uo, ra = some ⟨ub, uo, none⟩ ∧ B ≤ ub ∧ w.cell? ⟨ub, uo + q, none⟩ = some (.int .u64 (nth (rnth rs m) q))
theorem rowsU_of {w : World} {B : Nat} {v : Value} {vals : List Value} {rs : List (List Int)} (h : w.ownsRow B 64 1 v vals.length vals) (hr : RowsAre w B vals rs) : ∃ a cap, v = .slice a (len rs) cap ∧ RowsU B w a rs := by
  have hl : vals.length = len rs := hr.1
  rcases h.2 with ⟨rfl, h2⟩ | ⟨g, cap, cur, rfl, hg, hgb, _⟩
  · exact ⟨none, 0, by rw [← hl, h2], fun m hm => by omega⟩
  · refine ⟨some ⟨g, 0, none⟩, cap, by rw [hl], fun m hm => ?_⟩
    have hm2 : m < rs.length := hm
    obtain ⟨u, h1, h2⟩ := hr.2 m hm2
    have hc := h.cellAt m (by omega)
    rw [h1] at hc
    rw [← rnth_eq rs m hm2] at h2
    obtain ⟨ra, rc, rfl, hU, _, _⟩ := own_u64 h2
    refine ⟨g, 0, ra, rc, rfl, hg, by rw [Nat.zero_add]; exact hc, fun q hq => ?_⟩
    obtain ⟨ub, uo, rfl, hcq⟩ := hU q hq
    refine ⟨ub, uo, rfl, ?_, hcq⟩
    exact (h2.lt ub rfl).1
def Upper (B : Nat) (w w' : World) : Prop := ∀ b, B ≤ b → b < w.heap.size → w'.heap[b]? = w.heap[b]?
theorem Upper.refl (B : Nat) (w : World) : Upper B w w := fun b _ _ => rfl
theorem Upper.cell {B : Nat} {w w' : World} (h : Upper B w w') {b o : Nat} {v : Value} (hb : B ≤ b) (hc : w.cell? ⟨b, o, none⟩ = some v) : w'.cell? ⟨b, o, none⟩ = some v :=
  (World.cell?_of_block (w := w) (h b hb (lt_of_cell hc))).trans hc
theorem Upper.bel {B : Nat} {w w' w2 : World} (h : Upper B w w') (hs : w.heap.size ≤ w'.heap.size) (hb : Below w'.heap.size w' w2) : Upper B w w2 := fun b h1 h2 => (hb.block b (by omega)).trans (h b h1 h2)
theorem Upper.set {B : Nat} {w w' : World} (h : Upper B w w') {p : Nat} (hp : p < B) (k : Nat) (v : Value) : Upper B w (w'.setCell ⟨p, k, none⟩ v) := fun b h1 h2 => (Below.heap_setCell _ _ _ _ (show b ≠ p by omega)).trans (h b h1 h2)
theorem Upper.map {B : Nat} {w w' : World} (h : Upper B w w') {p : Nat} (hp : p < B ∨ w.heap.size ≤ p) (o : Obj) : Upper B w (setBlock w' p o) := fun b h1 h2 => (setBlock_other (by omega)).trans (h b h1 h2)
theorem usedR_bd {rs : List (List Int)} (h : ∀ i, len (rnth rs i) ≤ 100) : ∀ m, m ≤ len rs → usedR rs m ≤ 100 * m
  | 0, _ => Nat.le_refl _
  | m + 1, hm => by
    rw [usedR_next rs m (by omega)]
    have := usedR_bd h m (by omega)
    have := h m
    omega
theorem LvAt.put {mb : Nat} {g : KnF} {w : World} {L : List (Int × Value)} (hl : w.heap[mb]? = some (mObj .u64 0 L)) (hm : MapF L g) (hs : SmF g) {t : Int} {D : ByteArray} (ht : U64 t) (hd : D.size ≤ 1000) : LvAt mb (putF g t D) (setBlock w mb (mObj .u64 0 (mPut L t (.string D)))) :=
  ⟨⟨_, setBlock_same hl, hm.put t D ht⟩, hs.put t D hd⟩
theorem row_u64 {ps : List Int} {d i : Nat} {t : Int} (hd : d ≤ 16) (hi : i < d) (h : t ∈ rnth (rowsOf (leavesL ps (d : Nat)) d) i) : U64 t := by
  obtain ⟨⟨y, hy, rfl⟩, _⟩ := (row_mem _ d i hi t).1 h
  obtain ⟨h1, h2⟩ := leaves_in hd y hy
  have h3 := half_bd h1 h2 (Nat.le_of_lt hi)
  obtain ⟨e, he⟩ : ∃ e, d - i = e + 1 := ⟨d - i - 1, by omega⟩
  rw [he] at h3
  have h4 := sib_bd h3.1 h3.2
  have h5 : (2 : Int) ^ (e + 1) ≤ 65536 := by
    rw [pow_cast]
    have : 2 ^ (e + 1) ≤ 65536 := Nat.pow_le_pow_right (n := 2) (by decide) (show e + 1 ≤ 16 by omega)
    omega
  unfold U64
  omega
set_option maxRecDepth 100000 in
set_option maxHeartbeats 8000000 in
theorem proot_main (nn : Nat) (ps : List Int) (es ds : List ByteArray) (pa ea da : Option Addr) (pc ec dc : Nat) (w : World) (hp : U64s w pa ps) (he : Txts w ea es) (hd : Txts w da ds) (hl : len ps ≤ 100) (hu : ∀ k ∈ ps, U64 k) (hld : len ds ≤ 1000000) (hdc : len ds ≤ dc) (hez : ∀ i, i < len es → (tth es i).size ≤ 1000000) (hb : ArgOk (nn : Nat) ps es) (hbad : badB ds = false) :
    Calls Tryz.prog 102 #[.int .i64 (nn : Nat), .slice pa (len ps) pc, .slice ea (len es) ec, .slice da (len ds) dc] w (RootIs (nn : Nat) ps es ds w) := by
  have hn16 : nn ≤ 65536 := by have := hb.1.2.1; omega
  obtain ⟨d, hdd⟩ : ∃ d : Nat, Lib.bitLen (nn - 1) = d := ⟨_, rfl⟩
  have hdz : depthZ (nn : Nat) = (d : Nat) := by unfold depthZ; rw [if_neg (by omega), Int.toNat_natCast, hdd]
  have hdb := depth_bd nn hn16
  rw [hdd] at hdb
  have HD16 : Hid (d ≤ 16) := Lib.hid hdb.1
  obtain ⟨lv, hlv⟩ : ∃ lv, leavesL ps (d : Nat) = lv := ⟨_, rfl⟩
  have HLN : Hid (len lv = len ps) := Lib.hid (by rw [← hlv, leavesL_len])
  have HLU : Hid (∀ k ∈ lv, U64 k) := Lib.hid (by rw [← hlv]; exact leavesL_u64 ps _)
  obtain ⟨rs, hrs⟩ : ∃ rs, rowsOf lv d = rs := ⟨_, rfl⟩
  have HNR : Hid (needsL lv (d : Nat) = rs) := Lib.hid (by rw [← hrs, ← hlv]; exact needsP_rows hdb.1 hb.1.2.2)
  have HRL : Hid (len rs = d) := Lib.hid (by rw [← hrs, rowsOf_len])
  have HLV := Lib.hid hlv
  have HRS := Lib.hid hrs
  have HNM : Hid ((∀ i, len (rnth rs i) ≤ 100) ∧ (flatLv rs).length ≤ 1600) := Lib.hid (by
    rw [← HNR.out]
    exact ⟨rnth_nl _ _ (by rw [HLN.out]; exact hl), flat_bd _ _ (by rw [HLN.out]; exact hl)⟩)
  have HRP : Hid (rowsP (nn : Nat) ps = rs) := Lib.hid (by unfold rowsP; rw [hdz, hlv]; exact HNR.out)
  have HDP : Hid (digP (nn : Nat) ps es ds = kidF (rootG (g0F lv es) rs ds) 0) := Lib.hid (by unfold digP; rw [HRP.out, hdz, hlv])
  have HNP : Hid (neededP (nn : Nat) ps = usedR rs (len rs)) := Lib.hid (by unfold neededP; rw [HRP.out])
  have HM := Lib.hid (fun w9 hb9 => pmay_any (nn : Nat) ps pa pc w9 (hp.below hb9) (by omega) (by omega) (by omega))
  rw [decide_eq_true hb.1] at HM
  have hel := hb.2
  have HBD := Lib.hid (fun w9 hb9 => bad_any da dc ds w9 (hd.below hb9) (by omega))
  rw [hbad] at HBD
  have HDE := Lib.hid (fun w9 => depth_any (nn : Nat) w9 (by omega) (by omega))
  rw [hdz] at HDE
  have HLF := Lib.hid (fun k (hk : U64 k) w9 => leaf_any k (d : Nat) w9 hk.1 hk.2)
  have HP := Lib.hid hp
  have HES := Lib.hid he
  have HDS := Lib.hid hd
  have HU := Lib.hid hu
  have HL100 := Lib.hid hl
  have HEZ := Lib.hid hez
  have HEL := Lib.hid hel
  have HLD := Lib.hid hld
  have HDC := Lib.hid hdc
  have HARG := Lib.hid hb
  have HBADF := Lib.hid hbad
  obtain ⟨i0, hi, hz0, hz1, hz2⟩ := info_parts info_u64
  have HZ0 := Lib.hid hz0
  clear hp he hd hl hu hld hdc hez hb hbad hn16 hdd hdz hdb hlv hrs hel hz0
  go_enter Tryz.func102, Tryz.ntmps102
  rw [HEL.out]
  go_upto_region 1 with fail
  obtain ⟨pb, hpb⟩ : ∃ pb, w.heap.size = pb := ⟨_, rfl⟩
  obtain ⟨V, hV⟩ : ∃ V, w.alloc (.cells #[.slice da (len ds) dc] 36) = V := ⟨_, rfl⟩
  have HVP : Hid (V.heap[pb]? = some (.cells #[.slice da (len ds) dc] 36 (0, 0))) := Lib.hid (by rw [← hV]; exact alloc_new_at _ hpb)
  have HVW : Hid (Below w.heap.size w V) := Lib.hid (by rw [← hV]; exact balloc (Below.refl _ _) _)
  have HPB : Hid (w.heap.size ≤ pb) := Lib.hid (Nat.le_of_eq hpb)
  rw [hpb, hV]
  clear hV hpb
  go_wp2_with fail
  refine (HM.out _ HVW.out).mono ?_
  rintro e w1 ⟨rfl, hb1⟩
  have HP1 : Hid (w1.heap[pb]? = some (.cells #[.slice da (len ds) dc] 36 (0, 0))) := Lib.hid ((hb1.block _ (lt_of_block HVP.out)).trans HVP.out)
  have HB1 : Hid (Below w.heap.size w w1) := Lib.hid (bnext HVW.out hb1)
  clear hb1 HVP HVW HM
  have c0 : w1.cell? ⟨pb, 0, none⟩ = some (.slice da (len ds) dc) := by rw [block_cell HP1.out]; rfl
  have c2 : pb < w1.heap.size := lt_of_block HP1.out
  go_wp2_with fail
  refine (HBD.out w1 HB1.out).mono ?_
  rintro e w2 ⟨rfl, rfl⟩
  clear c0 c2 HBD
  go_wp2_with fail
  refine (HDE.out w1).mono ?_
  rintro e w2 ⟨rfl, rfl⟩
  have hmm := @run_makeMap Tryz.prog
  go_upto_region 9 with fail
  clear hmm HDE
  obtain ⟨mb, hmb⟩ : ∃ mb, w1.heap.size = mb := ⟨_, rfl⟩
  obtain ⟨V, hV⟩ : ∃ V, w1.alloc (Obj.map #[] 0) = V := ⟨_, rfl⟩
  have HVM : Hid (LvAt mb (addF noF (lv.take 0) (leafD es)) V) := Lib.hid ⟨⟨[], by rw [← hV]; exact alloc_new_at _ hmb, by rw [List.take_zero]; exact MapF.nil⟩, by rw [List.take_zero]; exact SmF.no⟩
  have HVP : Hid (V.heap[pb]? = some (.cells #[.slice da (len ds) dc] 36 (0, 0))) := Lib.hid (by rw [← hV]; exact block_alloc HP1.out _)
  have HVW : Hid (Below w.heap.size w V) := Lib.hid (by rw [← hV]; exact balloc HB1.out _)
  have HMB : Hid (pb < mb ∧ w.heap.size ≤ mb) := Lib.hid ⟨by rw [← hmb]; exact lt_of_block HP1.out, by rw [← hmb]; exact HB1.out.size⟩
  obtain ⟨B, hB⟩ : ∃ B, V.heap.size = B := ⟨_, rfl⟩
  have HBM : Hid (mb < B) := Lib.hid (by rw [← hB]; exact HVM.out.lt)
  have HVB : Hid (B ≤ V.heap.size) := Lib.hid (Nat.le_of_eq hB.symm)
  rw [hmb, hV]
  clear hV hmb HB1 HP1 hB
  go_loopg [45, 12] (len ps) (fun g i v wr => ∃ m : Nat, g + m = len ps ∧ i = .int .i64 m ∧ Hid (wr.ownsRow B 23 1 v m ((lv.take m).map (Value.int .u64))) ∧ Hid (LvAt mb (addF noF (lv.take m) (leafD es)) wr) ∧ Hid (wr.heap[pb]? = some (.cells #[.slice da (len ds) dc] 36 (0, 0))) ∧ Hid (Below w.heap.size w wr) ∧ Hid (B ≤ wr.heap.size))
  case atStart => exact ⟨0, rfl, rfl, Lib.hid (World.ownsRow_nil _ _ _ _), HVM, HVP, HVW, HVB⟩
  case round =>
    clear HVM HVP HVW HVB
    obtain ⟨m, hm, rfl, HO, HG, HPX, HW, HBS⟩ := hrel
    have HNN := HL100.out
    by_cases hlt : m < len ps
    · have b0 : (m : Int) < len ps := by omega
      have b1 : ¬ len ps ≤ m := by omega
      obtain ⟨b, off, hra, hcell⟩ := HP.out.below HW.out m hlt
      subst hra
      obtain ⟨eb, eo, hea, hcel⟩ := HES.out.below HW.out m (by rw [HEL.out]; exact hlt)
      subst hea
      obtain ⟨k, hk⟩ : ∃ k, nth ps m = k := ⟨_, rfl⟩
      have hku : U64 k := by rw [← hk]; exact HU.out _ (mem_nth hlt)
      obtain ⟨s, hs⟩ : ∃ s, tth es m = s := ⟨_, rfl⟩
      have HSZ : Hid (s.size ≤ 1000000) := Lib.hid (by rw [← hs]; exact HEZ.out m (by rw [HEL.out]; exact hlt))
      obtain ⟨t, ht⟩ : ∃ t, turnedZ k (d : Nat) = t := ⟨_, rfl⟩
      have HSS := Lib.hid hs
      have HTN : Hid (nth lv m = t) := Lib.hid (by rw [← HLV.out, leaves_nth ps _ m hlt, hk, ht])
      have HTU : Hid (U64 t) := Lib.hid (by rw [← HTN.out]; exact HLU.out _ (mem_nth (by rw [HLN.out]; exact hlt)))
      have HLK := Lib.hid (HLF.out k hku wr)
      rw [ht] at HLK
      have HLD9 : Hid (tth (leafD es) m = hashP leafT [s]) := Lib.hid (by rw [leafD_at es m (by rw [HEL.out]; exact hlt), hs])
      rw [hk] at hcell
      rw [hs] at hcel
      have l1 := lt_of_cell hcell
      have HCE := Lib.hid hcel
      clear hk hku hs ht hcel
      go_upto_region 11 with fail
      clear hcell l1
      go_wp2_with fail
      refine HLK.out.mono ?_
      rintro e w2 ⟨rfl, rfl⟩
      go_upto_region 13 with (at_builtin; refine wpList_append_own _ rfl _ _ 64 rfl B 23 i0 (.int .u64 0) 1 8 Tryz.underlying64 hi HZ0.out hz1 hz2 rfl (by decide) _ _ _ rfl (HO.out.alloc _) ⟨wr.heap.size, 0, none⟩ 1 1 [.int .u64 t] rfl rfl (World.news_of_block (heap_alloc_new _ _)) (by intro u hu9; simp at hu9; subst hu9; rfl) (by unfold maxLen; omega) (by omega) (by have := HBS.out; simp; omega) ?_; intro v2 w4 hown2 hgrow2 _)
      have HX9 : Hid (Below wr.heap.size wr (wr.alloc (.cells #[.int .u64 t] 23))) := Lib.hid (balloc (Below.refl _ _) _)
      have HO4 : Hid (w4.ownsRow B 23 1 v2 (m + 1) ((lv.take (m + 1)).map (Value.int .u64))) := Lib.hid (by
        rw [take_snoc_nth (by rw [HLN.out]; exact hlt), HTN.out, List.map_append]
        exact hown2)
      have HG4 : Hid (LvAt mb (addF noF (lv.take m) (leafD es)) w4) := Lib.hid (HG.out.keep ((own_keeps (HO.out.alloc _) hgrow2 HBM.out (by have := HG.out.lt; simp; omega)).trans (HX9.out.block _ HG.out.lt)))
      have HP4 : Hid (w4.heap[pb]? = some (.cells #[.slice da (len ds) dc] 36 (0, 0))) := Lib.hid (((own_keeps (HO.out.alloc _) hgrow2 (by have := HBM.out; have := HMB.out; omega) (by have := lt_of_block HPX.out; simp; omega)).trans (HX9.out.block _ (lt_of_block HPX.out))).trans HPX.out)
      have HW4 : Hid (Below w.heap.size w w4) := Lib.hid (grownBy_below (balloc HW.out _) hgrow2 (fun k hk' => Nat.le_trans (Nat.le_trans HMB.out.2 (Nat.le_of_lt HBM.out)) (HO.out.lt k hk').1))
      have HB4 : Hid (B ≤ w4.heap.size) := Lib.hid (by have h9 := hgrow2.size; have := HBS.out; simp at h9; omega)
      clear hown2 hgrow2 HX9 HO HG HPX HW HBS HLK HCE
      obtain ⟨eb2, eo2, he2, hcel2⟩ := HES.out.below HW4.out m (by rw [HEL.out]; exact hlt)
      cases he2
      rw [HSS.out] at hcel2
      have l2 := lt_of_cell hcel2
      have HELL := HEL.out
      have b3 : (m : Int) < (len es : Int) := by omega
      have b4 : ¬ len es ≤ m := by omega
      go_wp2_with fail
      refine (hash1_any leafT s w4 (by decide) (by decide) HSZ.out).mono ?_
      rintro e w5 ⟨rfl, hb5⟩
      clear hcel2 l2 b3 b4 HELL
      have HO5 : Hid (w5.ownsRow B 23 1 v2 (m + 1) ((lv.take (m + 1)).map (Value.int .u64))) := Lib.hid (own_below HO4.out hb5)
      have HG5 : Hid (LvAt mb (addF noF (lv.take m) (leafD es)) w5) := Lib.hid (HG4.out.keep (hb5.block _ HG4.out.lt))
      have HP5 : Hid (w5.heap[pb]? = some (.cells #[.slice da (len ds) dc] 36 (0, 0))) := Lib.hid ((hb5.block _ (lt_of_block HP4.out)).trans HP4.out)
      have HW5 : Hid (Below w.heap.size w w5) := Lib.hid (bnext HW4.out hb5)
      have HB5 : Hid (B ≤ w5.heap.size) := Lib.hid (Nat.le_trans HB4.out hb5.size)
      obtain ⟨⟨L, hL, hmf⟩, hsm⟩ := HG5.out
      have HLL := Lib.hid hL
      have HMF := Lib.hid hmf
      have HSM := Lib.hid hsm
      obtain ⟨D, hD⟩ : ∃ D, hashP leafT [s] = D := ⟨_, rfl⟩
      have HDZ9 : Hid (D.size ≤ 1000) := Lib.hid (by rw [← hD, hashP_size]; omega)
      have HAF : Hid (addF noF (lv.take (m + 1)) (leafD es) = putF (addF noF (lv.take m) (leafD es)) t D) := Lib.hid (by rw [addF_take _ _ _ m (by rw [HLN.out]; exact hlt), HTN.out, HLD9.out, hD])
      rw [hD]
      clear hb5 hL hmf hsm hD HO4 HG4 HP4 HW4 HB4 HG5
      go_upto_region 14 with (at_mapUpdate; refine wpList_mapUpdate_m rfl _ _ _ 200 23 9 .u64 rfl Tryz.underlying200 Tryz.underlying23 mb 0 _ rfl HLL.out t (.string D) rfl rfl ?_)
      obtain ⟨U, hU⟩ : ∃ U, setBlock w5 mb (mObj .u64 0 (mPut L t (.string D))) = U := ⟨_, rfl⟩
      have HG6 : Hid (LvAt mb (addF noF (lv.take (m + 1)) (leafD es)) U) := Lib.hid (by rw [HAF.out, ← hU]; exact LvAt.put HLL.out HMF.out HSM.out HTU.out HDZ9.out)
      have HO6 : Hid (U.ownsRow B 23 1 v2 (m + 1) ((lv.take (m + 1)).map (Value.int .u64))) := Lib.hid (by rw [← hU]; exact own_setBlock HO5.out HBM.out _)
      have HP6 : Hid (U.heap[pb]? = some (.cells #[.slice da (len ds) dc] 36 (0, 0))) := Lib.hid (by rw [← hU]; exact (setBlock_other (by have := HMB.out; omega)).trans HP5.out)
      have HW6 : Hid (Below w.heap.size w U) := Lib.hid (by rw [← hU]; exact setBlock_below HW5.out HMB.out.2)
      have HB6 : Hid (B ≤ U.heap.size) := Lib.hid (by rw [← hU, setBlock_size]; exact HB5.out)
      rw [hU]
      clear hU HO5 HP5 HW5 HB5 HLL
      go_wp2
      go_roundg (len ps - (m + 1))
      case rel => exact ⟨m + 1, by omega, by go_num, HO6, HG6, HP6, HW6, HB6⟩
      case measure => omega
    · obtain rfl : m = len ps := by omega
      have b0 : ¬ ((len ps : Nat) : Int) < len ps := by omega
      have HGZ : Hid (LvAt mb (g0F lv es) wr) := Lib.hid (by
        have h9 := HG.out
        rw [show lv.take (len ps) = lv by rw [← HLN.out, take_len]] at h9
        exact h9)
      have HOZ : Hid (wr.ownsRow B 23 1 u12 (len ps) (lv.map (Value.int .u64))) := Lib.hid (by
        have h9 := HO.out
        rw [show lv.take (len ps) = lv by rw [← HLN.out, take_len]] at h9
        exact h9)
      obtain ⟨al, cl, rfl, hUl, _, _⟩ := own_u64 HOZ.out
      have HND := Lib.hid (needs_any al cl lv (d : Nat) wr hUl (by rw [HLN.out]; exact HL100.out) HLU.out)
      rw [HNR.out] at HND
      clear hUl HO HG HOZ hm
      go_wp2_with fail
      refine HND.out.mono ?_
      rintro e w3 ⟨v, vals, rfl, hr1, hr2, hb3⟩
      obtain ⟨a3, cap3, rfl, hRU⟩ := rowsU_of hr1 hr2
      have HRU := Lib.hid hRU
      obtain ⟨B2, hB2⟩ : ∃ B2, wr.heap.size = B2 := ⟨_, rfl⟩
      rw [hB2] at HRU
      have HB2 : Hid (mb < B2 ∧ pb < B2) := Lib.hid ⟨by rw [← hB2]; exact HGZ.out.lt, by rw [← hB2]; exact lt_of_block HPX.out⟩
      have HG3 : Hid (LvAt mb (g0F lv es) w3) := Lib.hid (HGZ.out.keep (hb3.block _ HGZ.out.lt))
      have HP3 : Hid (w3.heap[pb]? = some (.cells #[.slice da (len ds) dc] 36 (0, 0))) := Lib.hid ((hb3.block _ (lt_of_block HPX.out)).trans HPX.out)
      have HW3 : Hid (Below w.heap.size w w3) := Lib.hid (bnext HW.out hb3)
      have HB23 : Hid (B2 ≤ w3.heap.size) := Lib.hid (by rw [← hB2]; exact hb3.size)
      clear hr1 hr2 hRU hB2 hb3 HND HGZ HPX HW HBS
      go_upto_region 18 with fail
      go_loopg [71, 17] (len rs) (fun g i v wr => ∃ m : Nat, g + m = len rs ∧ i = .int .i64 m ∧ v = .int .i64 (usedR rs m : Nat) ∧ wr = w3)
      case atStart => exact ⟨0, rfl, rfl, rfl, rfl⟩
      case round =>
        obtain ⟨m, hm, rfl, rfl, rfl⟩ := hrel
        have hr16 : len rs ≤ 16 := by have := HRL.out; have := HD16.out; omega
        by_cases hlt : m < len rs
        · have b1 : (m : Int) < len rs := by omega
          have b2 : ¬ len rs ≤ m := by omega
          obtain ⟨rb, ro, ra, rc, hra3, _, hrc, _⟩ := HRU.out m hlt
          subst hra3
          have l1 := lt_of_cell hrc
          have HN9 : Hid (usedR rs (m + 1) = usedR rs m + len (rnth rs m)) := Lib.hid (usedR_next rs m hlt)
          have hub : usedR rs m + len (rnth rs m) ≤ 1600 := by
            rw [← usedR_next rs m hlt]
            have := usedR_bd HNM.out.1 (m + 1) (by omega)
            omega
          obtain ⟨u, hu⟩ : ∃ u, usedR rs m = u := ⟨_, rfl⟩
          obtain ⟨q, hq⟩ : ∃ q, len (rnth rs m) = q := ⟨_, rfl⟩
          rw [hu, hq] at hub HN9
          rw [hq] at hrc
          rw [hu]
          clear hu hq
          go_wp2
          go_roundg (len rs - (m + 1))
          case rel => exact ⟨m + 1, by omega, by go_num, by rw [HN9.out]; go_num, rfl⟩
          case measure => omega
        · obtain rfl : m = len rs := by omega
          have b1 : ¬ ((len rs : Nat) : Int) < len rs := by omega
          have hub : usedR rs (len rs) ≤ 1600 := by
            have := usedR_bd HNM.out.1 (len rs) (Nat.le_refl _)
            omega
          obtain ⟨N, hN⟩ : ∃ N, usedR rs (len rs) = N := ⟨_, rfl⟩
          have HNN := Lib.hid hN
          rw [hN] at hub HNP ⊢
          have HUB := Lib.hid hub
          clear hN hub hm hr16
          have c0 : wr.cell? ⟨pb, 0, none⟩ = some (.slice da (len ds) dc) := by rw [block_cell HP3.out]; rfl
          have c2 : pb < wr.heap.size := lt_of_block HP3.out
          by_cases hlt4 : len ds < N
          · have z1 : ((len ds : Nat) : Int) < ((N : Nat) : Int) := by omega
            have HE : Hid (rootE (nn : Nat) ps es ds = 4 ∧ rootS (nn : Nat) ps es ds = ⟨#[]⟩) := Lib.hid (by
              have h9 : rootE (nn : Nat) ps es ds = 4 := by unfold rootE; rw [if_neg (fun h => h HARG.out), if_neg (by rw [HBADF.out]; simp), HNP.out, if_pos hlt4]
              exact ⟨h9, by unfold rootS; rw [h9]; rfl⟩)
            clear hlt4
            go_wp2
            go_ret2
            exact ⟨by rw [HE.out.1, HE.out.2]; rfl, HW3.out⟩
          · have z1 : ¬ ((len ds : Nat) : Int) < ((N : Nat) : Int) := by omega
            by_cases hlt3 : N < len ds
            · have z2 : ((N : Nat) : Int) < ((len ds : Nat) : Int) := by omega
              have HE : Hid (rootE (nn : Nat) ps es ds = 3 ∧ rootS (nn : Nat) ps es ds = ⟨#[]⟩) := Lib.hid (by
                have h9 : rootE (nn : Nat) ps es ds = 3 := by unfold rootE; rw [if_neg (fun h => h HARG.out), if_neg (by rw [HBADF.out]; simp), HNP.out, if_neg hlt4, if_pos hlt3]
                exact ⟨h9, by unfold rootS; rw [h9]; rfl⟩)
              clear hlt4 hlt3
              go_wp2
              go_ret2
              exact ⟨by rw [HE.out.1, HE.out.2]; rfl, HW3.out⟩
            · have z2 : ¬ ((N : Nat) : Int) < ((len ds : Nat) : Int) := by omega
              have HEQ : Hid (len ds = N) := Lib.hid (by omega)
              have HE : Hid (rootE (nn : Nat) ps es ds = 0 ∧ rootS (nn : Nat) ps es ds = kidF (rootG (g0F lv es) rs ds) 0) := Lib.hid (by
                have h9 : rootE (nn : Nat) ps es ds = 0 := by unfold rootE; rw [if_neg (fun h => h HARG.out), if_neg (by rw [HBADF.out]; simp), HNP.out, if_neg hlt4, if_neg hlt3]
                exact ⟨h9, by unfold rootS; rw [h9, if_pos rfl]; exact HDP.out⟩)
              clear hlt4 hlt3
              go_upto_region 28 with fail
              clear z1 z2 c0 c2
              obtain ⟨W3, hW3⟩ : ∃ W3, W3 = wr := ⟨_, rfl⟩
              subst hW3
              have HG9 : Hid (LvAt mb (rootT (g0F lv es) rs ds 0) W3) := HG3
              have HBX9 : Hid (∃ a' c', W3.heap[pb]? = some (.cells #[.slice a' (len (ds.drop (usedR rs 0))) c'] 36 (0, 0)) ∧ len (ds.drop (usedR rs 0)) ≤ c' ∧ ∀ w9, Txts w9 da ds → Txts w9 a' (ds.drop (usedR rs 0))) := Lib.hid ⟨da, dc, HP3.out, HDC.out, fun _ h9 => h9⟩
              clear HG3 HP3
              go_loopg [93, 11] (len rs) (fun g i v wz => ∃ m kb : Nat, g + m = len rs ∧ i = .int .i64 m ∧ v = .map (some kb) ∧ Hid (LvAt kb (rootT (g0F lv es) rs ds m) wz) ∧ Hid (∃ a' c', wz.heap[pb]? = some (.cells #[.slice a' (len (ds.drop (usedR rs m))) c'] 36 (0, 0)) ∧ len (ds.drop (usedR rs m)) ≤ c' ∧ ∀ w9, Txts w9 da ds → Txts w9 a' (ds.drop (usedR rs m))) ∧ Hid (Below w.heap.size w wz) ∧ Hid (Upper B2 W3 wz) ∧ Hid (pb < kb ∧ w.heap.size ≤ kb ∧ (kb < B2 ∨ W3.heap.size ≤ kb) ∧ W3.heap.size ≤ wz.heap.size))
              case atStart => exact ⟨0, mb, rfl, rfl, rfl, HG9, HBX9, HW3, Lib.hid (Upper.refl _ _), Lib.hid ⟨HMB.out.1, HMB.out.2, .inl HB2.out.1, Nat.le_refl _⟩⟩
              case round =>
                clear HG9 HBX9
                obtain ⟨m, kb, hm, rfl, rfl, HG, HBX, HWZ, HUP, HKB⟩ := hrel
                obtain ⟨wz, hwz⟩ : ∃ wz, wz = wr := ⟨_, rfl⟩
                subst hwz
                have hr16 : len rs ≤ 16 := by have := HRL.out; have := HD16.out; omega
                by_cases hlt : m < len rs
                · have b1 : (m : Int) < len rs := by omega
                  have b2 : ¬ len rs ≤ m := by omega
                  obtain ⟨rb, ro, ra, rc, hra3, hrb, hrc, hrq⟩ := HRU.out m hlt
                  subst hra3
                  have hrc2 := HUP.out.cell hrb hrc
                  have l1 := lt_of_cell hrc2
                  obtain ⟨row, hrow⟩ : ∃ row, rnth rs m = row := ⟨_, rfl⟩
                  have HROW := Lib.hid hrow
                  rw [hrow] at hrc2 hrq
                  have HRQ := Lib.hid hrq
                  have HRLN : Hid (len row ≤ 100) := Lib.hid (by rw [← hrow]; exact HNM.out.1 m)
                  have HHM := Lib.hid hm
                  have HHL := Lib.hid hlt
                  obtain ⟨u, hu⟩ : ∃ u, usedR rs m = u := ⟨_, rfl⟩
                  have HUU : Hid (usedR rs m = u) := Lib.hid hu
                  have HUT : Hid (u + len row ≤ len ds) := Lib.hid (by
                    have h1 := usedR_next rs m hlt
                    have h2 := usedR_le rs (m + 1)
                    rw [hrow, hu] at h1
                    rw [HEQ.out, ← HNN.out]
                    omega)
                  obtain ⟨GT, hGT⟩ : ∃ GT, rootT (g0F lv es) rs ds m = GT := ⟨_, rfl⟩
                  have HGT := Lib.hid hGT
                  rw [hGT] at HG
                  rw [hu] at HBX
                  have HG0 : Hid (LvAt kb (addF GT (row.take 0) (ds.drop u)) wz) := Lib.hid (by rw [List.take_zero]; exact HG.out)
                  have HBX0 : Hid (∃ a' c', wz.heap[pb]? = some (.cells #[.slice a' (len (ds.drop (u + 0))) c'] 36 (0, 0)) ∧ len (ds.drop (u + 0)) ≤ c' ∧ ∀ w9, Txts w9 da ds → Txts w9 a' (ds.drop (u + 0))) := HBX
                  obtain ⟨GK, hGK⟩ : ∃ G, G = gk := ⟨_, rfl⟩
                  subst hGK
                  clear hrc hrq hrow hu hGT HG HBX hm hlt hr16
                  go_upto_region 31 with fail
                  clear hrc2 l1 b1 b2
                  go_loopg [99] (len row) (fun g j wy => ∃ q : Nat, g + q = len row ∧ j = .int .i64 q ∧ Hid (LvAt kb (addF GT (row.take q) (ds.drop u)) wy) ∧ Hid (∃ a' c', wy.heap[pb]? = some (.cells #[.slice a' (len (ds.drop (u + q))) c'] 36 (0, 0)) ∧ len (ds.drop (u + q)) ≤ c' ∧ ∀ w9, Txts w9 da ds → Txts w9 a' (ds.drop (u + q))) ∧ Hid (Below w.heap.size w wy) ∧ Hid (Upper B2 W3 wy) ∧ Hid (W3.heap.size ≤ wy.heap.size))
                  case atStart => exact ⟨0, rfl, rfl, HG0, HBX0, HWZ, HUP, Lib.hid HKB.out.2.2.2⟩
                  case round =>
                    clear HG0 HBX0 HWZ HUP
                    obtain ⟨q, hq, rfl, HG, HBX, HWZ, HUP, HSZ⟩ := hrel
                    obtain ⟨wy, hwy⟩ : ∃ wy, wy = wr := ⟨_, rfl⟩
                    subst hwy
                    have hr100 := HRLN.out
                    by_cases hlq : q < len row
                    · have b1 : (q : Int) < len row := by omega
                      have b2 : ¬ len row ≤ q := by omega
                      obtain ⟨ub, uo, hua, hub, huc⟩ := HRQ.out q hlq
                      subst hua
                      have huc2 := HUP.out.cell hub huc
                      have l2 := lt_of_cell huc2
                      obtain ⟨t, ht⟩ : ∃ t, nth row q = t := ⟨_, rfl⟩
                      rw [ht] at huc2
                      have HTU : Hid (U64 t) := Lib.hid (by
                        have h1 : t ∈ rnth rs m := by rw [HROW.out, ← ht]; exact mem_nth hlq
                        rw [← HRS.out, ← HLV.out] at h1
                        exact row_u64 HD16.out (by rw [← HRL.out]; exact HHL.out) h1)
                      obtain ⟨a9, c9, hbx, hc9, hta⟩ := HBX.out
                      have HTN : Hid (addF GT (row.take (q + 1)) (ds.drop u) = putF (addF GT (row.take q) (ds.drop u)) t (tth ds (u + q))) := Lib.hid (by rw [addF_take _ _ _ q hlq, ht, tth_drop])
                      have hdl : len (ds.drop (u + q)) = len ds - (u + q) := by rw [len_eq, List.length_drop]; rfl
                      have hut := HUT.out
                      have HNX := Lib.hid (nextd_any pb a9 c9 (ds.drop (u + q)) wy hbx (hta _ (HDS.out.below HWZ.out)) (by omega) hc9)
                      have HDD : Hid ((tth ds (u + q)).size ≤ 1000) := Lib.hid (by
                        have h1 := of_decide_eq_false HBADF.out
                        have h2 : u + q < ds.length := by have : len ds = ds.length := rfl; omega
                        apply Classical.byContradiction
                        intro h3
                        exact h1 ⟨ds[u + q], List.getElem_mem h2, fun h4 => h3 (by rw [tth_eq ds (u + q) h2, h4]; omega)⟩)
                      have HC9 : Hid (len (ds.drop (u + q)) - 1 ≤ c9) := Lib.hid (by omega)
                      have HBQ := Lib.hid hbx
                      have HDL1 : Hid (len (ds.drop (u + (q + 1))) = len (ds.drop (u + q)) - 1) := Lib.hid (by rw [len_eq, List.length_drop, hdl]; have : len ds = ds.length := rfl; omega)
                      obtain ⟨⟨L, hL, hmf⟩, hsm⟩ := HG.out
                      have HLW := Lib.hid hL
                      have HMF := Lib.hid hmf
                      have HSM := Lib.hid hsm
                      obtain ⟨D, hD⟩ : ∃ D, tth ds (u + q) = D := ⟨_, rfl⟩
                      have HT0 : Hid (tth (ds.drop (u + q)) 0 = D) := Lib.hid (by rw [tth_drop, Nat.add_zero, hD])
                      rw [hD] at HDD HTN
                      clear hbx hc9 hut hdl hL hmf hsm hD huc ht
                      go_wp2_with fail
                      refine HNX.out.mono ?_
                      rintro e w2 ⟨a', c', rfl, hw2, hc', hta'⟩
                      rw [HT0.out]
                      have HCC := Lib.hid hc'
                      have HTA := Lib.hid hta'
                      have HKP : Hid (pb ≠ kb) := Lib.hid (by have := HKB.out.1; omega)
                      have HL2 : Hid (w2.heap[kb]? = some (mObj .u64 0 L)) := Lib.hid (by rw [hw2]; exact (Below.heap_setCell _ _ _ _ (show kb ≠ pb by have := HKP.out; omega)).trans HLW.out)
                      have HP2 : Hid (w2.heap[pb]? = some (.cells #[.slice a' (len (ds.drop (u + q)) - 1) c'] 36 (0, 0))) := Lib.hid (by rw [hw2]; exact block_setCell HBQ.out _)
                      have HW2 : Hid (Below w.heap.size w w2) := Lib.hid (by rw [hw2]; exact bset HWZ.out HPB.out _)
                      have HU2 : Hid (Upper B2 W3 w2) := Lib.hid (by rw [hw2]; exact HUP.out.set HB2.out.2 _ _)
                      have HS2 : Hid (W3.heap.size ≤ w2.heap.size) := Lib.hid (by rw [hw2]; have := HSZ.out; simp [World.setCell]; exact this)
                      clear hw2 hc' hta' HLW HBQ HBX HWZ HUP HSZ HNX huc2 l2 b2
                      go_upto_region 34 with (at_mapUpdate; refine wpList_mapUpdate_m rfl _ _ _ 200 23 9 .u64 rfl Tryz.underlying200 Tryz.underlying23 kb 0 _ rfl HL2.out t (.string D) rfl rfl ?_)
                      obtain ⟨U, hU⟩ : ∃ U, setBlock w2 kb (mObj .u64 0 (mPut L t (.string D))) = U := ⟨_, rfl⟩
                      have HG6 : Hid (LvAt kb (addF GT (row.take (q + 1)) (ds.drop u)) U) := Lib.hid (by rw [HTN.out, ← hU]; exact LvAt.put HL2.out HMF.out HSM.out HTU.out HDD.out)
                      have HBX6 : Hid (∃ a' c', U.heap[pb]? = some (.cells #[.slice a' (len (ds.drop (u + (q + 1)))) c'] 36 (0, 0)) ∧ len (ds.drop (u + (q + 1))) ≤ c' ∧ ∀ w9, Txts w9 da ds → Txts w9 a' (ds.drop (u + (q + 1)))) := Lib.hid (by
                        rw [HDL1.out, ← hU]
                        refine ⟨a', c', (setBlock_other HKP.out).trans HP2.out, HCC.out, fun w9 h9 => ?_⟩
                        have h8 := HTA.out w9 (hta w9 h9)
                        rw [List.drop_drop] at h8
                        exact h8)
                      have HW6 : Hid (Below w.heap.size w U) := Lib.hid (by rw [← hU]; exact setBlock_below HW2.out HKB.out.2.1)
                      have HU6 : Hid (Upper B2 W3 U) := Lib.hid (by rw [← hU]; exact HU2.out.map HKB.out.2.2.1 _)
                      have HS6 : Hid (W3.heap.size ≤ U.heap.size) := Lib.hid (by rw [← hU, setBlock_size]; exact HS2.out)
                      rw [hU]
                      clear hU HL2 HP2 HW2 HU2 HS2
                      go_wp2
                      go_roundg (len row - (q + 1))
                      case rel => exact ⟨q + 1, by omega, by go_num, HG6, HBX6, HW6, HU6, HS6⟩
                      case measure => omega
                    · obtain rfl : q = len row := by omega
                      have b1 : ¬ ((len row : Nat) : Int) < len row := by omega
                      have HOV := Lib.hid (kover_any kb 0 _ wy HG.out.at_ HG.out.small)
                      have hm := HHM.out
                      have hlt := HHL.out
                      have hr16 : len rs ≤ 16 := by have := HRL.out; have := HD16.out; omega
                      have HRT : Hid (rootT (g0F lv es) rs ds (m + 1) = overF (addF GT (row.take (len row)) (ds.drop u))) := Lib.hid (by rw [rootT_next _ _ _ m hlt, HGT.out, HROW.out, HUU.out, take_len])
                      have HUN : Hid (usedR rs (m + 1) = u + len row) := Lib.hid (by rw [usedR_next rs m hlt, HUU.out, HROW.out])
                      have HPLT : Hid (pb < wy.heap.size) := Lib.hid (by obtain ⟨a9, c9, hbx, _⟩ := HBX.out; exact lt_of_block hbx)
                      go_wp2_with fail
                      refine HOV.out.mono ?_
                      rintro e w2 ⟨b9, rfl, hk9, hb9, hbel⟩
                      have HG6 : Hid (LvAt b9 (rootT (g0F lv es) rs ds (m + 1)) w2) := Lib.hid (by rw [HRT.out]; exact ⟨hk9, SmF.over _⟩)
                      have HBX6 : Hid (∃ a' c', w2.heap[pb]? = some (.cells #[.slice a' (len (ds.drop (usedR rs (m + 1)))) c'] 36 (0, 0)) ∧ len (ds.drop (usedR rs (m + 1))) ≤ c' ∧ ∀ w9, Txts w9 da ds → Txts w9 a' (ds.drop (usedR rs (m + 1)))) := Lib.hid (by
                        rw [HUN.out]
                        obtain ⟨a9, c9, hbx, h2, h3⟩ := HBX.out
                        exact ⟨a9, c9, (hbel.block _ (lt_of_block hbx)).trans hbx, h2, h3⟩)
                      have HW6 : Hid (Below w.heap.size w w2) := Lib.hid (bnext HWZ.out hbel)
                      have HUP6 : Hid (Upper B2 W3 w2) := Lib.hid (HUP.out.bel HSZ.out hbel)
                      have HKB6 : Hid (pb < b9 ∧ w.heap.size ≤ b9 ∧ (b9 < B2 ∨ W3.heap.size ≤ b9) ∧ W3.heap.size ≤ w2.heap.size) := Lib.hid (by
                        have h1 := HPLT.out
                        have h2 := HSZ.out
                        have h3 := hbel.size
                        have h4 := HWZ.out.size
                        exact ⟨by omega, by omega, .inr (by omega), by omega⟩)
                      clear hk9 hb9 hbel
                      go_wp2
                      go_roundg (len rs - (m + 1))
                      case rel => exact ⟨m + 1, b9, by omega, by go_num, rfl, HG6, HBX6, HW6, HUP6, HKB6⟩
                      case measure => omega
                · obtain rfl : m = len rs := by omega
                  have b1 : ¬ ((len rs : Nat) : Int) < len rs := by omega
                  obtain ⟨⟨L, hL, hmf⟩, _⟩ := HG.out
                  have HLL := Lib.hid hL
                  have HLK : Hid ((mGet L 0).getD (.string ⟨#[]⟩) = .string (rootS (nn : Nat) ps es ds)) := Lib.hid (by
                    have h1 := hmf.look 0
                    rw [HE.out.2]
                    unfold rootT at h1
                    rw [take_len] at h1
                    exact h1)
                  clear hL hmf
                  go_wp2_with (at_lookup; refine wpList_lookup_m rfl _ _ 200 23 9 .u64 rfl Tryz.underlying200 Tryz.underlying23 (.string ⟨#[]⟩) (Tryz.zeroValue9 _) kb 0 _ rfl HLL.out 0 rfl ?_; rw [HLK.out])
                  go_ret2
                  exact ⟨by rw [HE.out.1]; rfl, HWZ.out⟩
end Go.Proofs.YtpobhbdomldecaaGreatDoor
namespace Go.Proofs.YtpobhbdomldecaaGreatDoor
open Go.RowKit
set_option linter.unusedSimpArgs false
set_option linter.unusedVariables false
structure Plc where
  K : Int
  d : ByteArray
abbrev Plc.val (r : Plc) : Value := .agg #[.int .u64 r.K, .string r.d]
def Plc.cells (r : Plc) : List Value := [.int .u64 r.K, .string r.d]
theorem Plc.cells_len (r : Plc) : r.cells.length = 2 := rfl
theorem Plc.cells_one (r : Plc) : ∀ u ∈ r.cells, u.oneCell' = true := by intro u hu; simp only [Plc.cells, List.mem_cons, List.not_mem_nil, or_false] at hu; rcases hu with rfl | rfl <;> rfl
def Plc.zero : Plc := ⟨0, ByteArray.empty⟩
def plth (l : List Plc) (i : Nat) : Plc := l.getD i Plc.zero
theorem plth_eq (l : List Plc) (i : Nat) (h : i < l.length) : plth l i = l[i] := by unfold plth; rw [List.getD_eq_getElem?_getD, List.getElem?_eq_getElem h]; rfl
structure PlcAt (w : World) (b o : Nat) (r : Plc) : Prop where
  c0 : w.cell? ⟨b, o, none⟩ = some (.int .u64 r.K)
  c1 : w.cell? ⟨b, o + 1, none⟩ = some (.string r.d)
theorem PlcAt.below {w w' : World} {b o : Nat} {r : Plc} (h : PlcAt w b o r) (hb : Below w.heap.size w w') : PlcAt w' b o r := by
  have hl := lt_of_cell h.c0
  have e : ∀ q, w'.cell? ⟨b, q, none⟩ = w.cell? ⟨b, q, none⟩ := fun q => hb.cell (p := ⟨b, q, none⟩) hl
  obtain ⟨c0, c1⟩ := h
  constructor <;> (rw [e]; assumption)
def Plcs (w : World) (a : Option Addr) (l : List Plc) : Prop := ∀ i, i < len l → ∃ b off, a = some ⟨b, off, none⟩ ∧ PlcAt w b (off + i * 2) (plth l i)
theorem Plcs.nil (w : World) (a : Option Addr) : Plcs w a [] := fun i hi => absurd hi (by simp [len])
theorem Plcs.below {w w' : World} {a : Option Addr} {l : List Plc} (h : Plcs w a l) (hb : Below w.heap.size w w') : Plcs w' a l := fun i hi => by
  obtain ⟨b, off, rfl, hc⟩ := h i hi
  exact ⟨b, off, rfl, hc.below hb⟩
theorem Plcs.drew {w w' : World} {a : Option Addr} {l : List Plc} (h : Plcs w a l) (hb : Drew w w') : Plcs w' a l := h.below (hb.below _)
theorem Plcs.take {w : World} {a : Option Addr} {l : List Plc} (h : Plcs w a l) (k : Nat) : Plcs w a (l.take k) := fun i hi => by
  have hi2 : i < l.length ∧ i < k := by simp only [len, List.length_take] at hi; omega
  have hi3 : i < (l.take k).length := hi
  have e : plth (l.take k) i = plth l i := by rw [plth_eq l i hi2.1, plth_eq _ i hi3, List.getElem_take]
  rw [e]; exact h i hi2.1
theorem Plcs.drop {w : World} {b off : Nat} {l : List Plc} (h : Plcs w (some ⟨b, off, none⟩) l) (k : Nat) : Plcs w (some ⟨b, off + k * 2, none⟩) (l.drop k) := fun i hi => by
  have hi2 : k + i < l.length := by simp only [len, List.length_drop] at hi; omega
  have hi3 : i < (l.drop k).length := hi
  have e : plth (l.drop k) i = plth l (k + i) := by rw [plth_eq l _ hi2, plth_eq _ i hi3, List.getElem_drop]
  obtain ⟨b', off', e2, hc⟩ := h (k + i) hi2
  cases e2
  exact ⟨b, _, rfl, by rw [e, show off + k * 2 + i * 2 = off + (k + i) * 2 by omega]; exact hc⟩
theorem Plcs.own {w : World} {base e n : Nat} {v : Value} {l : List Plc} (h : w.ownsRow base e 2 v n (l.flatMap Plc.cells)) : ∃ a cap, v = .slice a (len l) cap ∧ Plcs w a l ∧ len l ≤ cap := by
  have hn : len l = n := by have := h.1; rw [flat_length Plc.cells 2 Plc.cells_len] at this; rw [len_eq]; omega
  obtain ⟨h1, h2⟩ := h
  rcases h2 with ⟨rfl, h2⟩ | ⟨g, cap, cur, rfl, hg, hh, hc1, hc2, hc3, hc4⟩
  · obtain rfl : l = [] := List.eq_nil_of_length_eq_zero (by rw [← len_eq]; omega)
    exact ⟨none, 0, rfl, Plcs.nil _ _, Nat.le_refl _⟩
  · refine ⟨some ⟨g, 0, none⟩, cap, by rw [hn], fun i hi => ⟨g, 0, rfl, ?_⟩, by omega⟩
    have hown : w.ownsRow base e 2 (.slice (some ⟨g, 0, none⟩) n cap) n (l.flatMap Plc.cells) := ⟨h1, .inr ⟨g, cap, cur, rfl, hg, hh, hc1, hc2, hc3, hc4⟩⟩
    have key : ∀ r, r < 2 → w.cell? ⟨g, 0 + i * 2 + r, none⟩ = (plth l i).cells[r]? := fun r hr => by
      have := hown.cellAt (i * 2 + r) (by rw [← hn]; omega)
      rw [Nat.zero_add, this, flat_get Plc.cells 2 Plc.cells_len l i r hi hr, plth_eq l i hi]
    exact ⟨key 0 (by decide), key 1 (by decide)⟩
theorem Plcs.block {w : World} {g : Nat} {l : List Plc} {t : TypeId} {fr : Nat × Nat} (h : w.heap[g]? = some (.cells (l.flatMap Plc.cells).toArray t fr)) : Plcs w (some ⟨g, 0, none⟩) l := fun i hi => ⟨g, 0, rfl, by
  have key : ∀ r, r < 2 → w.cell? ⟨g, 0 + i * 2 + r, none⟩ = (plth l i).cells[r]? := fun r hr => by
    rw [Nat.zero_add, block_cell h, List.getElem?_toArray, flat_get Plc.cells 2 Plc.cells_len l i r hi hr, plth_eq l i hi]
  exact ⟨key 0 (by decide), key 1 (by decide)⟩⟩
end Go.Proofs.YtpobhbdomldecaaGreatDoor
namespace Go.Proofs.YtpobhbdomldecaaGreatDoor
open Go.RowKit Go.Great
set_option linter.unusedSimpArgs false
set_option linter.unusedVariables false
def Ev (a : Act) (n : Nat) (l : List (Nat × Value)) : Prop := a.tmps.size = n ∧ a.defers = [] ∧ ∀ p ∈ l, a.eval (.tmp p.1) = p.2
theorem Ev.put {a : Act} {n : Nat} {l : List (Nat × Value)} (h : Ev a n l) (d : Nat) (v : Value) (hd : d < n) (hf : l.all (fun p => p.1 != d) = true) : Ev (a.put (some d) v) n ((d, v) :: l) := by
  refine ⟨by simp [Act.put, h.1], h.2.1, ?_⟩
  intro p hp
  rcases List.mem_cons.1 hp with rfl | hp
  · exact eval_put_same (by rw [h.1]; exact hd)
  · have h1 := List.all_eq_true.1 hf p hp
    rw [eval_put_ne (by simpa using h1)]
    exact h.2.2 p hp
theorem Ev.at {a : Act} {n : Nat} {l : List (Nat × Value)} (h : Ev a n l) (k d : Nat) (v : Value) (hk : l[k]? = some (d, v)) : a.eval (.tmp d) = v := h.2.2 (d, v) (List.mem_of_getElem? hk)
def zero8R : List W32 := List.replicate 8 0
structure BlkAt (pb rb : Nat) (A9 : Array Value) (w wr : World) : Prop where
  below : Below w.heap.size w wr
  p : wr.heap[pb]? = some (.cells A9 222 (0, 0))
  r : wr.heap[rb]? = some (.cells (wsC zero8R) 222 (0, 0))
theorem BlkAt.next {pb rb : Nat} {A9 : Array Value} {w wr w' : World} (h : BlkAt pb rb A9 w wr) (hb : Below wr.heap.size wr w') : BlkAt pb rb A9 w w' :=
  ⟨bnext h.below hb, (hb.block _ (lt_of_block h.p)).trans h.p, (hb.block _ (lt_of_block h.r)).trans h.r⟩
theorem BlkAt.set {pb rb b o : Nat} {A9 : Array Value} {w wr : World} {v : Value} (h : BlkAt pb rb A9 w wr) (h0 : w.heap.size ≤ b) (h1 : pb ≠ b) (h2 : rb ≠ b) : BlkAt pb rb A9 w (wr.setCell ⟨b, o, none⟩ v) :=
  ⟨bset h.below h0 _, block_setCell_ne h.p h1 _, block_setCell_ne h.r h2 _⟩
attribute [local go_sem] bv_xor bv_and bv_or bv_add bv_addm
end Go.Proofs.YtpobhbdomldecaaGreatDoor
namespace Go.Proofs.YtpobhbdomldecaaGreatDoor
open Go.RowKit Go.ChangeMaps
set_option linter.unusedSimpArgs false
set_option linter.unusedVariables false
structure KlAt (B : Nat) (v : Value) (KL : List Plc) (w : World) : Prop where
  own : w.ownsRow B 279 2 v (len KL) (KL.flatMap Plc.cells)
  ok : ∀ x ∈ KL, 0 ≤ x.K ∧ x.K < 65536 ∧ x.d.size ≤ 1000
theorem KlAt.nil (B : Nat) (w : World) : KlAt B (.slice none 0 0) [] w := ⟨World.ownsRow_nil _ _ _ _, fun x h => by simp at h⟩
theorem KlAt.below {B : Nat} {v : Value} {KL : List Plc} {w w' : World} (h : KlAt B v KL w) (hb : Below w.heap.size w w') : KlAt B v KL w' := ⟨own_below h.own hb, h.ok⟩
theorem KlAt.snoc {B : Nat} {v : Value} {KL : List Plc} {w' : World} (ok : ∀ x ∈ KL, 0 ≤ x.K ∧ x.K < 65536 ∧ x.d.size ≤ 1000) (x : Plc) (h : w'.ownsRow B 279 2 v (len KL + 1) (KL.flatMap Plc.cells ++ x.cells)) (hx : 0 ≤ x.K ∧ x.K < 65536 ∧ x.d.size ≤ 1000) : KlAt B v (KL ++ [x]) w' := by
  refine ⟨?_, fun y hy => ?_⟩
  · have e : len (KL ++ [x]) = len KL + 1 := by rw [len_eq, List.length_append]; rfl
    rw [e, List.flatMap_append]
    simpa using h
  · rcases List.mem_append.1 hy with h1 | h1
    · exact ok y h1
    · rw [List.mem_singleton] at h1; rw [h1]; exact hx
end Go.Proofs.YtpobhbdomldecaaGreatDoor
namespace Go.Proofs.YtpobhbdomldecaaGreatDoor
open Go.RowKit
set_option linter.unusedSimpArgs false
set_option linter.unusedVariables false
structure PrIn (ps : List Int) (es ds : List ByteArray) (pa ea da : Option Addr) (dc : Nat) (w : World) : Prop where
  p : U64s w pa ps
  e : Txts w ea es
  d : Txts w da ds
  pl : len ps ≤ 100
  pu : ∀ k ∈ ps, U64 k
  el : len es ≤ 1000000
  dl : len ds ≤ 1000000
  dc_ : len ds ≤ dc
  ez : ∀ i, i < len es → (tth es i).size ≤ 1000000
theorem PrIn.below {ps : List Int} {es ds : List ByteArray} {pa ea da : Option Addr} {dc : Nat} {w w' : World} (h : PrIn ps es ds pa ea da dc w) (hb : Below w.heap.size w w') : PrIn ps es ds pa ea da dc w' :=
  ⟨h.p.below hb, h.e.below hb, h.d.below hb, h.pl, h.pu, h.el, h.dl, h.dc_, h.ez⟩
theorem proot_any (n : Int) (ps : List Int) (es ds : List ByteArray) (pa ea da : Option Addr) (pc ec dc : Nat) (w : World) (h : PrIn ps es ds pa ea da dc w) (h0 : -9223372036854775808 ≤ n) (h1 : n ≤ 9223372036854775807) :
    Calls Tryz.prog 102 #[.int .i64 n, .slice pa (len ps) pc, .slice ea (len es) ec, .slice da (len ds) dc] w (RootIs n ps es ds w) := by
  by_cases hb : ArgOk n ps es
  · cases hbad : badB ds with
    | true => exact proot_form n ps es ds pa ea da pc ec dc w h.p h.d h.pl h.dl h0 h1 hb hbad
    | false =>
      obtain ⟨nn, rfl⟩ := Int.eq_ofNat_of_zero_le hb.1.1
      exact proot_main nn ps es ds pa ea da pc ec dc w h.p h.e h.d h.pl h.pu h.dl h.dc_ h.ez hb hbad
  · exact proot_arg n ps es ds pa ea da pc ec dc w h.p h.pl h0 h1 hb h.el
def checkE (r : ByteArray) (n : Int) (ps : List Int) (es ds : List ByteArray) : Int := if rootE n ps es ds = 0 ∧ rootS n ps es ds ≠ r then 20 else rootE n ps es ds
set_option maxRecDepth 100000 in
theorem pcheck_any (r : ByteArray) (n : Int) (ps : List Int) (es ds : List ByteArray) (pa ea da : Option Addr) (pc ec dc : Nat) (w : World) (h : PrIn ps es ds pa ea da dc w) (h0 : -9223372036854775808 ≤ n) (h1 : n ≤ 9223372036854775807) :
    Calls Tryz.prog 47 #[.string r, .int .i64 n, .slice pa (len ps) pc, .slice ea (len es) ec, .slice da (len ds) dc] w fun e w' => e = .returned (.int .i64 (checkE r n ps es ds)) ∧ Below w.heap.size w w' := by
  have HR := Lib.hid (proot_any n ps es ds pa ea da pc ec dc w h h0 h1)
  clear h h0 h1
  go_enter Tryz.func47, Tryz.ntmps47
  go_wp2_with fail
  refine HR.out.mono ?_
  rintro e w1 ⟨rfl, hb1⟩
  have HB1 := Lib.hid hb1
  have HCE : Hid (checkE r n ps es ds = if rootE n ps es ds = 0 ∧ rootS n ps es ds ≠ r then 20 else rootE n ps es ds) := Lib.hid rfl
  obtain ⟨E, hE⟩ : ∃ E, rootE n ps es ds = E := ⟨_, rfl⟩
  obtain ⟨D, hD⟩ : ∃ D, rootS n ps es ds = D := ⟨_, rfl⟩
  rw [hE, hD] at HCE ⊢
  clear hb1 hE hD
  by_cases he : E = 0
  · subst he
    by_cases hd : D = r
    · have e1 : (D.toList == r.toList) = true := by rw [str_beq]; exact decide_eq_true hd
      have HC2 : Hid (checkE r n ps es ds = 0) := Lib.hid (by rw [HCE.out, if_neg (fun h => h.2 hd)])
      clear hd
      go_wp2
      go_ret
      exact ⟨by rw [HC2.out]; rfl, HB1.out⟩
    · have e1 : (D.toList == r.toList) = false := by rw [str_beq]; exact decide_eq_false hd
      have HC2 : Hid (checkE r n ps es ds = 20) := Lib.hid (by rw [HCE.out, if_pos ⟨rfl, hd⟩])
      clear hd
      go_wp2
      go_ret
      exact ⟨by rw [HC2.out]; rfl, HB1.out⟩
  · have e1 : (E == 0) = false := by simpa using he
    have HC2 : Hid (checkE r n ps es ds = E) := Lib.hid (by rw [HCE.out, if_neg (fun h => he h.1)])
    go_wp2
    go_ret
    exact ⟨by rw [HC2.out]; rfl, HB1.out⟩
end Go.Proofs.YtpobhbdomldecaaGreatDoor
namespace Go.Proofs.YtpobhbdomldecaaGreatDoor
open Go.RowKit
set_option linter.unusedSimpArgs false
set_option linter.unusedVariables false
def treeR (l : List ByteArray) : ByteArray := plD l (depN l) (depN l) 0
theorem one_may {n k : Nat} (hk : k < n) : MayOk (n : Nat) [((k : Nat) : Int)] := ⟨(show 0 < 1 by decide), fun i hi => by
  have hi : i < 1 := hi
  obtain rfl : i = 0 := by omega
  exact ⟨by show ((k : Nat) : Int) < n; omega, fun h => by omega⟩⟩
theorem one_u64 {n k : Nat} (hn : n ≤ 65536) (hk : k < n) : ∀ x ∈ [((k : Nat) : Int)], U64 x := fun x hx => by
  obtain rfl := List.mem_singleton.1 hx
  exact ⟨by omega, by omega⟩
def oneD (els : List ByteArray) (k : Nat) : List ByteArray := dgsL els (plcL (len els : Nat) [((k : Nat) : Int)])
theorem oneD_len {els : List ByteArray} {k : Nat} (hn : len els ≤ 65536) : len (oneD els k) = depN els := by
  unfold oneD
  rw [dgs_len, plc_one (d := depN els) (depthZ_len hn) (depN_le hn)]
theorem one_back {els : List ByteArray} {k : Nat} (hn : len els ≤ 65536) (hk : k < len els) : rootE (len els : Nat) [((k : Nat) : Int)] [tth els k] (oneD els k) = 0 ∧ rootS (len els : Nat) [((k : Nat) : Int)] [tth els k] (oneD els k) = treeR els :=
  back_root hn (one_u64 hn hk) (one_may hk) (Agree.refl _ _) rfl (fun m hm => by
    have hm : m < 1 := hm
    obtain rfl : m = 0 := by omega
    rfl)
theorem one_check {els : List ByteArray} {k : Nat} (hn : len els ≤ 65536) (hk : k < len els) : checkE (treeR els) (len els : Nat) [((k : Nat) : Int)] [tth els k] (oneD els k) = 0 := by
  have h := one_back hn hk
  unfold checkE
  rw [h.1, h.2, if_neg (fun h => h.2 rfl)]
theorem own_capP {w : World} {base n c : Nat} {a : Option Addr} {xs : List Value} {m : Nat} (h : w.ownsRow base 9 1 (.slice a m c) n xs) : m ≤ c ∧ (a = none → c = 0) := by
  rcases h.2 with ⟨e, _⟩ | ⟨g, cap, cur, e, _, _, h3, _⟩
  · injection e with e1 e2 e3; exact ⟨by omega, fun _ => e3⟩
  · injection e with e1 e2 e3; exact ⟨by omega, fun e9 => by rw [e9] at e1; cases e1⟩
def TextsAre (L : List ByteArray) (v : Value) (w : World) : Prop := ∃ a c, v = .slice a (len L) c ∧ Txts w a L ∧ len L ≤ c ∧ (a = none → c = 0)
theorem TextsAre.below {L : List ByteArray} {v : Value} {w w' : World} (h : TextsAre L v w) (hb : Below w.heap.size w w') : TextsAre L v w' := by
  obtain ⟨a, c, h1, h2, h3, h4⟩ := h
  exact ⟨a, c, h1, h2.below hb, h3, h4⟩
theorem TextsAre.nil (w : World) : TextsAre [] (.slice none 0 0) w := ⟨none, 0, rfl, Txts.nil _ _, Nat.le_refl _, fun _ => rfl⟩
theorem TextsAre.own {w : World} {base n : Nat} {v : Value} {L : List ByteArray} (h : w.ownsRow base 9 1 v n (L.map Value.string)) : TextsAre L v w := by
  obtain ⟨a, c, rfl, ht⟩ := own_txts h
  obtain ⟨h1, h2⟩ := own_capP h
  exact ⟨a, c, rfl, ht, h1, h2⟩
end Go.Proofs.YtpobhbdomldecaaGreatDoor
namespace Go.Proofs.YtpobhbdomldecaaGreatDoor
open Go.RowKit
set_option linter.unusedSimpArgs false
set_option linter.unusedVariables false
structure Hdr where
  rnd : Int
  prev : ByteArray
  txns : ByteArray
  seed : ByteArray
abbrev Hdr.val (r : Hdr) : Value := .agg #[.int .u64 r.rnd, .string r.prev, .string r.txns, .string r.seed]
def Hdr.cells (r : Hdr) : List Value := [.int .u64 r.rnd, .string r.prev, .string r.txns, .string r.seed]
theorem Hdr.cells_len (r : Hdr) : r.cells.length = 4 := rfl
theorem Hdr.cells_one (r : Hdr) : ∀ u ∈ r.cells, u.oneCell' = true := by intro u hu; simp only [Hdr.cells, List.mem_cons, List.not_mem_nil, or_false] at hu; rcases hu with rfl | rfl | rfl | rfl <;> rfl
def Hdr.zero : Hdr := ⟨0, ByteArray.empty, ByteArray.empty, ByteArray.empty⟩
def hnth (l : List Hdr) (i : Nat) : Hdr := l.getD i Hdr.zero
theorem hnth_eq (l : List Hdr) (i : Nat) (h : i < l.length) : hnth l i = l[i] := by unfold hnth; rw [List.getD_eq_getElem?_getD, List.getElem?_eq_getElem h]; rfl
structure HdrAt (w : World) (b o : Nat) (r : Hdr) : Prop where
  c0 : w.cell? ⟨b, o, none⟩ = some (.int .u64 r.rnd)
  c1 : w.cell? ⟨b, o + 1, none⟩ = some (.string r.prev)
  c2 : w.cell? ⟨b, o + 2, none⟩ = some (.string r.txns)
  c3 : w.cell? ⟨b, o + 3, none⟩ = some (.string r.seed)
theorem HdrAt.below {w w' : World} {b o : Nat} {r : Hdr} (h : HdrAt w b o r) (hb : Below w.heap.size w w') : HdrAt w' b o r := by
  have hl := lt_of_cell h.c0
  have e : ∀ q, w'.cell? ⟨b, q, none⟩ = w.cell? ⟨b, q, none⟩ := fun q => hb.cell (p := ⟨b, q, none⟩) hl
  obtain ⟨c0, c1, c2, c3⟩ := h
  constructor <;> (rw [e]; assumption)
def Hdrs (w : World) (a : Option Addr) (l : List Hdr) : Prop := ∀ i, i < len l → ∃ b off, a = some ⟨b, off, none⟩ ∧ HdrAt w b (off + i * 4) (hnth l i)
theorem Hdrs.nil (w : World) (a : Option Addr) : Hdrs w a [] := fun i hi => absurd hi (by simp [len])
theorem Hdrs.below {w w' : World} {a : Option Addr} {l : List Hdr} (h : Hdrs w a l) (hb : Below w.heap.size w w') : Hdrs w' a l := fun i hi => by
  obtain ⟨b, off, rfl, hc⟩ := h i hi
  exact ⟨b, off, rfl, hc.below hb⟩
theorem Hdrs.drew {w w' : World} {a : Option Addr} {l : List Hdr} (h : Hdrs w a l) (hb : Drew w w') : Hdrs w' a l := h.below (hb.below _)
theorem Hdrs.take {w : World} {a : Option Addr} {l : List Hdr} (h : Hdrs w a l) (k : Nat) : Hdrs w a (l.take k) := fun i hi => by
  have hi2 : i < l.length ∧ i < k := by simp only [len, List.length_take] at hi; omega
  have hi3 : i < (l.take k).length := hi
  have e : hnth (l.take k) i = hnth l i := by rw [hnth_eq l i hi2.1, hnth_eq _ i hi3, List.getElem_take]
  rw [e]; exact h i hi2.1
theorem Hdrs.drop {w : World} {b off : Nat} {l : List Hdr} (h : Hdrs w (some ⟨b, off, none⟩) l) (k : Nat) : Hdrs w (some ⟨b, off + k * 4, none⟩) (l.drop k) := fun i hi => by
  have hi2 : k + i < l.length := by simp only [len, List.length_drop] at hi; omega
  have hi3 : i < (l.drop k).length := hi
  have e : hnth (l.drop k) i = hnth l (k + i) := by rw [hnth_eq l _ hi2, hnth_eq _ i hi3, List.getElem_drop]
  obtain ⟨b', off', e2, hc⟩ := h (k + i) hi2
  cases e2
  exact ⟨b, _, rfl, by rw [e, show off + k * 4 + i * 4 = off + (k + i) * 4 by omega]; exact hc⟩
theorem Hdrs.own {w : World} {base e n : Nat} {v : Value} {l : List Hdr} (h : w.ownsRow base e 4 v n (l.flatMap Hdr.cells)) : ∃ a cap, v = .slice a (len l) cap ∧ Hdrs w a l ∧ len l ≤ cap := by
  have hn : len l = n := by have := h.1; rw [flat_length Hdr.cells 4 Hdr.cells_len] at this; rw [len_eq]; omega
  obtain ⟨h1, h2⟩ := h
  rcases h2 with ⟨rfl, h2⟩ | ⟨g, cap, cur, rfl, hg, hh, hc1, hc2, hc3, hc4⟩
  · obtain rfl : l = [] := List.eq_nil_of_length_eq_zero (by rw [← len_eq]; omega)
    exact ⟨none, 0, rfl, Hdrs.nil _ _, Nat.le_refl _⟩
  · refine ⟨some ⟨g, 0, none⟩, cap, by rw [hn], fun i hi => ⟨g, 0, rfl, ?_⟩, by omega⟩
    have hown : w.ownsRow base e 4 (.slice (some ⟨g, 0, none⟩) n cap) n (l.flatMap Hdr.cells) := ⟨h1, .inr ⟨g, cap, cur, rfl, hg, hh, hc1, hc2, hc3, hc4⟩⟩
    have key : ∀ r, r < 4 → w.cell? ⟨g, 0 + i * 4 + r, none⟩ = (hnth l i).cells[r]? := fun r hr => by
      have := hown.cellAt (i * 4 + r) (by rw [← hn]; omega)
      rw [Nat.zero_add, this, flat_get Hdr.cells 4 Hdr.cells_len l i r hi hr, hnth_eq l i hi]
    exact ⟨key 0 (by decide), key 1 (by decide), key 2 (by decide), key 3 (by decide)⟩
theorem Hdrs.block {w : World} {g : Nat} {l : List Hdr} {t : TypeId} {fr : Nat × Nat} (h : w.heap[g]? = some (.cells (l.flatMap Hdr.cells).toArray t fr)) : Hdrs w (some ⟨g, 0, none⟩) l := fun i hi => ⟨g, 0, rfl, by
  have key : ∀ r, r < 4 → w.cell? ⟨g, 0 + i * 4 + r, none⟩ = (hnth l i).cells[r]? := fun r hr => by
    rw [Nat.zero_add, block_cell h, List.getElem?_toArray, flat_get Hdr.cells 4 Hdr.cells_len l i r hi hr, hnth_eq l i hi]
  exact ⟨key 0 (by decide), key 1 (by decide), key 2 (by decide), key 3 (by decide)⟩⟩
structure Hdr.Ok (r : Hdr) : Prop where
  r0 : U64i r.rnd
  p1 : r.prev.size ≤ 1000000
  t1 : r.txns.size ≤ 1000000
  s1 : r.seed.size ≤ 1000000
theorem Hdr.zero_ok : Hdr.zero.Ok := ⟨⟨by decide, by decide⟩, by decide, by decide, by decide⟩
theorem hoks {L : List Hdr} (h : ∀ p ∈ L, p.Ok) : ∀ i, (hnth L i).Ok := fun i => by
  rcases Nat.lt_or_ge i L.length with hi | hi
  · rw [hnth_eq L i hi]; exact h _ (List.getElem_mem hi)
  · unfold hnth; rw [List.getD_eq_getElem?_getD, List.getElem?_eq_none hi]; exact Hdr.zero_ok
def hsp (r : Hdr) : List FSpec := headerSpecs r.rnd r.prev r.txns r.seed
def hOk (r : Hdr) : Bool := allMay (hsp r)
def hbs (r : Hdr) : ByteArray := layP (hsp r)
theorem hOk_eq (r : Hdr) : hOk r = (decide (r.prev.size = 32) && decide (r.seed.size = 32) && decide (r.txns.size = 32)) := may_header _ _ _ _
theorem hbs_size {r : Hdr} (h : hOk r = true) : (hbs r).size ≤ 1000 := headerSz h
def hdg (r : Hdr) : ByteArray := hashP hdrT [hbs r]
theorem hdg_size (r : Hdr) : (hdg r).size = 32 := hashP_size _ _
def stepH (a b : Hdr) : Bool := decide (a.rnd < b.rnd) && decide (b.rnd - a.rnd = 1)
def followH (R : Hdr → Hdr → Bool) (l : List Hdr) : Bool := (List.range (len l)).all fun i => decide (i = 0) || R (hnth l (i - 1)) (hnth l i)
theorem followH_no {R : Hdr → Hdr → Bool} {l : List Hdr} {i : Nat} (hi : i < len l) (h0 : 0 < i) (h : R (hnth l (i - 1)) (hnth l i) = false) : followH R l = false := by
  unfold followH
  rw [List.all_eq_false]
  exact ⟨i, List.mem_range.2 hi, by rw [h]; simp; omega⟩
theorem followH_yes {R : Hdr → Hdr → Bool} {l : List Hdr} (h : ∀ i, i < len l → 0 < i → R (hnth l (i - 1)) (hnth l i) = true) : followH R l = true := by
  unfold followH
  rw [List.all_eq_true]
  intro i hi
  by_cases h0 : i = 0
  · simp [h0]
  · rw [h i (List.mem_range.1 hi) (by omega)]; simp
def laysH (l : List Hdr) : Bool := l.all hOk
theorem laysH_no {l : List Hdr} {i : Nat} (hi : i < len l) (h : hOk (hnth l i) = false) : laysH l = false := by
  unfold laysH
  rw [List.all_eq_false]
  exact ⟨hnth l i, by rw [hnth_eq l i hi]; exact List.getElem_mem hi, by rw [h]; decide⟩
theorem laysH_yes {l : List Hdr} (h : ∀ i, i < len l → hOk (hnth l i) = true) : laysH l = true := by
  unfold laysH
  rw [List.all_eq_true]
  intro x hx
  obtain ⟨i, hi, rfl⟩ := List.getElem_of_mem hx
  have := h i hi
  rwa [hnth_eq l i hi] at this
theorem laysH_at {l : List Hdr} (h : laysH l = true) {i : Nat} (hi : i < len l) : hOk (hnth l i) = true := by
  unfold laysH at h
  rw [hnth_eq l i hi]
  exact List.all_eq_true.1 h _ (List.getElem_mem hi)
def elOk (l : List Hdr) : Bool := decide (0 < len l) && decide (len l ≤ 64) && followH stepH l && laysH l
def elL (l : List Hdr) : List ByteArray := l.map hbs
theorem elL_len (l : List Hdr) : len (elL l) = len l := by unfold elL; rw [len_eq, len_eq, List.length_map]
theorem elL_snoc (l : List Hdr) (m : Nat) (h : m < len l) : elL (l.take (m + 1)) = elL (l.take m) ++ [hbs (hnth l m)] := by
  unfold elL
  have h2 : m < l.length := h
  rw [List.take_succ_eq_append_getElem h2, List.map_append, hnth_eq l m h2]
  rfl
theorem elL_at (l : List Hdr) (i : Nat) (h : i < len l) : tth (elL l) i = hbs (hnth l i) := by
  have h2 : i < l.length := h
  rw [hnth_eq l i h2]
  unfold tth elL
  rw [List.getD_eq_getElem?_getD, List.getElem?_map, List.getElem?_eq_getElem h2]
  rfl
theorem elOk_at {l : List Hdr} (h : elOk l = true) : 0 < len l ∧ len l ≤ 64 ∧ followH stepH l = true ∧ laysH l = true := by
  unfold elOk at h
  simp only [Bool.and_eq_true, decide_eq_true_eq] at h
  exact ⟨h.1.1.1, h.1.1.2, h.1.2, h.2⟩
theorem elOk_of {l : List Hdr} (h1 : 0 < len l) (h2 : len l ≤ 64) (h3 : followH stepH l = true) (h4 : laysH l = true) : elOk l = true := by
  unfold elOk
  rw [decide_eq_true h1, decide_eq_true h2, h3, h4]; rfl
theorem elL_size {l : List Hdr} (h : elOk l = true) : ∀ i, i < len (elL l) → (tth (elL l) i).size ≤ 1000 := fun i hi => by
  rw [elL_len] at hi
  rw [elL_at l i hi]
  exact hbs_size (laysH_at (elOk_at h).2.2.2 hi)
def hroot (l : List Hdr) : ByteArray := treeR (elL l)
def hangH (a b : Hdr) : Bool := decide (b.prev = hdg a)
def linkedH (l : List Hdr) : Bool := elOk l && followH hangH l
def bodsOk (l : List ByteArray) : Bool := decide (len l ≤ 64) && l.all fun s => decide (0 < s.size) && decide (s.size ≤ 64)
def dgS (r : Hdr) : ByteArray := if hOk r = true then hdg r else ⟨#[]⟩
def dgE (r : Hdr) : Int := if hOk r = true then 0 else 2
def DgIs (r : Hdr) (w : World) (e : Ending) (w' : World) : Prop := e = .returned (.tuple #[.string (dgS r), .int .i64 (dgE r)]) ∧ Below w.heap.size w w'
def rtS (l : List Hdr) : ByteArray := if elOk l = true then hroot l else ⟨#[]⟩
def rtE (l : List Hdr) : Int := if elOk l = true then 0 else 2
def RtIs (l : List Hdr) (w : World) (e : Ending) (w' : World) : Prop := e = .returned (.tuple #[.string (rtS l), .int .i64 (rtE l)]) ∧ Below w.heap.size w w'
def txS (l : List ByteArray) : ByteArray := if bodsOk l = true then treeR l else ⟨#[]⟩
def txE (l : List ByteArray) : Int := if bodsOk l = true then 0 else 2
def TxIs (l : List ByteArray) (w : World) (e : Ending) (w' : World) : Prop := e = .returned (.tuple #[.string (txS l), .int .i64 (txE l)]) ∧ Below w.heap.size w w'
end Go.Proofs.YtpobhbdomldecaaGreatDoor
namespace Go.Proofs.YtpobhbdomldecaaGreatDoor
open Go.RowKit
set_option linter.unusedSimpArgs false
set_option linter.unusedVariables false
def zerT : ByteArray := ⟨#[0, 0, 0, 0, 0, 0, 0, 0, 0, 0, 0, 0, 0, 0, 0, 0, 0, 0, 0, 0, 0, 0, 0, 0, 0, 0, 0, 0, 0, 0, 0, 0]⟩
def hAt (n : Int) (p : ByteArray) : Hdr := ⟨n, p, zerT, zerT⟩
theorem hAt_ok {n : Int} {p : ByteArray} (hp : p.size = 32) : hOk (hAt n p) = true := by
  rw [hOk_eq]
  show (decide (p.size = 32) && decide (zerT.size = 32) && decide (zerT.size = 32)) = true
  rw [hp]; rfl
set_option maxRecDepth 100000 in
theorem five_ne : ((hdg (hAt 5 zerT)).data.toList == zerT.data.toList) = false := by kernel_rfl
theorem five_dg : hdg (hAt 5 zerT) ≠ zerT := fun h => by
  have := five_ne
  rw [h] at this
  simp at this
end Go.Proofs.YtpobhbdomldecaaGreatDoor
namespace Go.Proofs.YtpobhbdomldecaaGreatDoor
open Go.RowKit
set_option linter.unusedSimpArgs false
set_option linter.unusedVariables false
structure PT (B : Nat) (w : World) : Prop where
  p : PTab B w
  s : B ≤ w.heap.size
theorem PT.below {B : Nat} {w w' : World} (h : PT B w) (hb : Below w.heap.size w w') : PT B w' := ⟨h.p.keep hb h.s, Nat.le_trans h.s hb.size⟩
def wrongC : List PanicEntry := [{ v := .iface 154 (.agg #[.int .i64 2]), recovered := false }]
theorem hmust_yes (w : World) : Calls Tryz.prog 75 #[.bool true] w fun e w' => e = .returned (.tuple #[]) ∧ w = w' := by
  go_enter Tryz.func75, Tryz.ntmps75
  go_wp2
  go_end0
  exact ⟨rfl, rfl⟩
theorem hmust_no (w : World) : Calls Tryz.prog 75 #[.bool false] w fun e w' => e = .panicked wrongC ∧ w = w' := by
  go_enter Tryz.func75, Tryz.ntmps75
  go_wp2
  exact ⟨rfl, rfl, rfl⟩
theorem hw_any (B : Nat) (r : Hdr) (w : World) (ht : PT B w) (ho : r.Ok) : Calls Tryz.prog 44 #[r.val] w (LaidIs (hsp r) w) :=
  wheader2_any B r.rnd r.prev r.txns r.seed w ht.p ho.r0 (Nat.le_trans ho.p1 (by decide)) (Nat.le_trans ho.t1 (by decide)) (Nat.le_trans ho.s1 (by decide)) (fun h => Nat.le_trans (headerSz h) (by decide))
theorem hw_yes (B : Nat) (r : Hdr) (w : World) (ht : PT B w) (ho : r.Ok) (h : hOk r = true) : Calls Tryz.prog 44 #[r.val] w fun e w' => e = .returned (.tuple #[.string (hbs r), .int .i64 0]) ∧ Below w.heap.size w w' :=
  (hw_any B r w ht ho).mono fun e w' hh => laid_yes h rfl hh
theorem hw_no (B : Nat) (r : Hdr) (w : World) (ht : PT B w) (ho : r.Ok) (h : hOk r = false) : Calls Tryz.prog 44 #[r.val] w fun e w' => e = .returned (.tuple #[.string ⟨#[]⟩, .int .i64 2]) ∧ Below w.heap.size w w' :=
  (hw_any B r w ht ho).mono fun e w' hh => laid_no h hh
set_option maxRecDepth 100000 in
theorem bytes_yes (B : Nat) (r : Hdr) (w : World) (ht : PT B w) (ho : r.Ok) (h : hOk r = true) : Calls Tryz.prog 128 #[r.val] w fun e w' => e = .returned (.string (hbs r)) ∧ Below w.heap.size w w' := by
  have HW := Lib.hid (fun w9 (hb : Below w.heap.size w w9) => hw_yes B r w9 (ht.below hb) ho h)
  clear ht ho h
  go_enter Tryz.func128, Tryz.ntmps128
  go_wp2_with fail
  refine (HW.out _ (balloc (Below.refl _ _) _)).mono ?_
  rintro e w1 ⟨rfl, hb⟩
  have HB : Hid (Below w.heap.size w w1) := Lib.hid (bnext (balloc (Below.refl _ _) _) hb)
  clear hb
  go_wp2_with fail
  refine (hmust_yes _).mono ?_
  rintro e w2 ⟨rfl, rfl⟩
  go_wp2
  go_ret
  exact ⟨rfl, HB.out⟩
set_option maxRecDepth 100000 in
theorem bytes_no (B : Nat) (r : Hdr) (w : World) (ht : PT B w) (ho : r.Ok) (h : hOk r = false) : Calls Tryz.prog 128 #[r.val] w fun e w' => e = .panicked wrongC ∧ Below w.heap.size w w' := by
  have HW := Lib.hid (fun w9 (hb : Below w.heap.size w w9) => hw_no B r w9 (ht.below hb) ho h)
  clear ht ho h
  go_enter Tryz.func128, Tryz.ntmps128
  go_wp2_with fail
  refine (HW.out _ (balloc (Below.refl _ _) _)).mono ?_
  rintro e w1 ⟨rfl, hb⟩
  have HB : Hid (Below w.heap.size w w1) := Lib.hid (bnext (balloc (Below.refl _ _) _) hb)
  clear hb
  go_wp2_with fail
  refine (hmust_no _).mono ?_
  rintro e w2 ⟨rfl, rfl⟩
  go_wp2
  exact ⟨rfl, rfl, HB.out⟩
set_option maxRecDepth 100000 in
theorem digest_yes (B : Nat) (r : Hdr) (w : World) (ht : PT B w) (ho : r.Ok) (h : hOk r = true) : Calls Tryz.prog 78 #[r.val] w fun e w' => e = .returned (.string (hdg r)) ∧ Below w.heap.size w w' := by
  have HW := Lib.hid (fun w9 (hb : Below w.heap.size w w9) => bytes_yes B r w9 (ht.below hb) ho h)
  have HS : Hid ((hbs r).size ≤ 1000000) := Lib.hid (Nat.le_trans (hbs_size h) (by decide))
  clear ht ho h
  go_enter Tryz.func78, Tryz.ntmps78
  go_wp2_with fail
  refine (HW.out _ (balloc (Below.refl _ _) _)).mono ?_
  rintro e w1 ⟨rfl, hb⟩
  have HB : Hid (Below w.heap.size w w1) := Lib.hid (bnext (balloc (Below.refl _ _) _) hb)
  clear hb
  go_wp2_with fail
  refine (hash1_any hdrT (hbs r) _ (by decide) (by decide) HS.out).mono ?_
  rintro e w2 ⟨rfl, hb⟩
  have HB := Lib.hid (bnext HB.out hb)
  clear hb
  go_wp2
  go_ret
  exact ⟨rfl, HB.out⟩
set_option maxRecDepth 100000 in
theorem digest_no (B : Nat) (r : Hdr) (w : World) (ht : PT B w) (ho : r.Ok) (h : hOk r = false) : Calls Tryz.prog 78 #[r.val] w fun e w' => e = .panicked wrongC ∧ Below w.heap.size w w' := by
  have HW := Lib.hid (fun w9 (hb : Below w.heap.size w w9) => bytes_no B r w9 (ht.below hb) ho h)
  clear ht ho h
  go_enter Tryz.func78, Tryz.ntmps78
  go_wp2_with fail
  refine (HW.out _ (balloc (Below.refl _ _) _)).mono ?_
  rintro e w1 ⟨rfl, hb⟩
  have HB : Hid (Below w.heap.size w w1) := Lib.hid (bnext (balloc (Below.refl _ _) _) hb)
  clear hb
  go_wp2
  exact ⟨rfl, rfl, HB.out⟩
set_option maxRecDepth 100000 in
theorem hrootT_any (l : List ByteArray) (a : Option Addr) (c : Nat) (w : World) (hl : Txts w a l) (hn : len l ≤ 65536) (hz : ∀ i, i < len l → (tth l i).size ≤ 140737488355200) : Calls Tryz.prog 69 #[.slice a (len l) c] w fun e w' => e = .returned (.string (treeR l)) ∧ Below w.heap.size w w' := by
  have HW := Lib.hid (build_any l a c w hl hn hz)
  clear hl hn hz
  go_enter Tryz.func69, Tryz.ntmps69
  go_wp2_with fail
  refine HW.out.mono ?_
  rintro e w1 ⟨b, rfl, hs, ht, hb⟩
  have HB := Lib.hid hb
  have HT := Lib.hid ht
  clear hs ht hb
  go_wp2_with fail
  refine (hmust_yes _).mono ?_
  rintro e w2 ⟨rfl, rfl⟩
  go_wp2_with fail
  refine (root_any l b w1 HT.out).mono ?_
  rintro e w2 ⟨rfl, rfl⟩
  go_wp2
  go_ret
  exact ⟨rfl, HB.out⟩
end Go.Proofs.YtpobhbdomldecaaGreatDoor
namespace Go.Proofs.YtpobhbdomldecaaGreatDoor
open Go.RowKit
set_option linter.unusedSimpArgs false
set_option linter.unusedVariables false
theorem follow_end {R : Hdr → Hdr → Bool} {l : List Hdr} {m : Nat} (hm : m = len l) (h : ∀ i, 0 < i → i < m → R (hnth l (i - 1)) (hnth l i) = true) : followH R l = true := by
  subst hm
  exact followH_yes (fun i hi h0 => h i h0 hi)
set_option maxHeartbeats 4000000 in
set_option maxRecDepth 100000 in
theorem follow_any (F : FuncId) (C : Array Value) (R : Hdr → Hdr → Bool) (a : Option Addr) (cap : Nat) (l : List Hdr) (w : World) (hlen : len l ≤ 100000) (hc : Hdrs w a l)
    (eg : ∀ args w, (callFunc F args).run Tryz.prog w = .ok (.enter F args) w)
    (hF : ∀ i, 0 < i → i < len l → ∀ w', Below w.heap.size w w' → Calls Tryz.prog F (#[(hnth l (i - 1)).val, (hnth l i).val] ++ C) w' fun e w'' => e = .returned (.bool (R (hnth l (i - 1)) (hnth l i))) ∧ Below w'.heap.size w' w'') :
    Calls Tryz.prog 76 #[.slice a (len l) cap, .func (.func F) #[] C] w fun e w' => e = .returned (.bool (followH R l)) ∧ Below w.heap.size w w' := by
  have HC := Lib.hid hc
  have HF := Lib.hid hF
  have HN := Lib.hid hlen
  clear hc hF hlen
  go_enter Tryz.func76, Tryz.ntmps76
  go_wp2
  go_loopg [9] (len l) (fun gg i wr => ∃ m : Nat, gg + m = len l ∧ i = .int .i64 (m : Nat) ∧ Hid (Below w.heap.size w wr) ∧ Hid (∀ j, 0 < j → j < m → R (hnth l (j - 1)) (hnth l j) = true))
  case atStart => exact ⟨0, rfl, rfl, Lib.hid (Below.refl _ _), Lib.hid (fun j _ h => by omega)⟩
  case round =>
    obtain ⟨m, hm, rfl, HW, HI⟩ := hrel
    by_cases hlt : m < len l
    · obtain ⟨b, off, rfl, ⟨e0, e1, e2, e3⟩⟩ := (HC.out.below HW.out) m hlt
      obtain ⟨q, hq⟩ : ∃ q, hnth l m = q := ⟨_, rfl⟩
      rw [hq] at e0 e1 e2 e3
      have HQ := Lib.hid hq
      have HLT := Lib.hid hlt
      have b0 : (m : Int) < len l := by omega
      clear hq
      go_upto_region 4 with fail
      clear e0 e1 e2 e3
      obtain ⟨V, hV⟩ : ∃ V, wr.alloc (.cells #[.int .u64 q.rnd, .string q.prev, .string q.txns, .string q.seed] 33) = V := ⟨_, rfl⟩
      obtain ⟨xb, hxb⟩ : ∃ xb, wr.heap.size = xb := ⟨_, rfl⟩
      have HVB : Hid (Below w.heap.size w V) := Lib.hid (by rw [← hV]; exact balloc HW.out _)
      have HVX : Hid (V.heap[xb]? = some (.cells #[.int .u64 q.rnd, .string q.prev, .string q.txns, .string q.seed] 33 (0, 0))) := Lib.hid (by rw [← hV, ← hxb]; exact heap_alloc_new _ _)
      rw [hV, hxb]
      clear hV hxb
      by_cases hm0 : m = 0
      · subst hm0
        refine wp_region_all 1000 (none) (phis [fun u _ => u = (.int .i64 0), fun u _ => u = (.bool false), fun u _ => u = (.bool false), fun u _ => u = undef, fun u _ => u = undef, fun u _ => u = undef, fun u _ => u = undef, fun u _ => u = undef, fun u _ => u = undef, fun u _ => u = undef, fun u _ => u = undef, fun u _ => u = undef, fun u _ => u = (.bool false)]) rfl (by kernel_rfl) (mono_of ⟨mono_eq, mono_eq, mono_eq, mono_eq, mono_eq, mono_eq, mono_eq, mono_eq, mono_eq, mono_eq, mono_eq, mono_eq, mono_eq, trivial⟩) (steps_of 13 ⟨?s0, ?s1, ?s2, ?s3, ?s4, ?s5, ?s6, ?s7, ?s8, ?s9, ?s10, ?s11, ?s12, trivial⟩) ?_
        case s0 =>
          refine step_val (v := (.int .i64 0)) (fun av wv hE hS hO hD => ?_) (fun _ => rfl)
          have h5 : av.eval (.tmp 5) = (.int .i64 0) := hO.2.2 5 rfl
          have f5 := (ev_form av 5).symm.trans h5
          refine ⟨rfl, ?_⟩
          simp [go_sem, f5]
        case s1 =>
          refine step_val (v := (.bool false)) (fun av wv hE hS hO hD => ?_) (fun _ => rfl)
          have d14 : av.eval (.tmp 14) = (.int .i64 0) := hD.1 rfl _ rfl
          have f14 := (ev_form av 14).symm.trans d14
          refine ⟨rfl, ?_⟩
          simp [go_sem, f14]
        case s2 =>
          refine step_val (v := (.bool false)) (fun av wv hE hS hO hD => ?_) (fun _ => rfl)
          have d15 : av.eval (.tmp 15) = (.bool false) := hD.1 rfl _ rfl
          have f15 := (ev_form av 15).symm.trans d15
          refine ⟨rfl, ?_⟩
          simp [go_sem, f15]
        case s3 =>
          refine step_skip (fun av wv hE hS hO hD => ?_) (fun _ => rfl)
          have h1 : av.eval (.tmp 1) = (.func (.func F) #[] C) := hO.2.2 1 rfl
          have f1 := (ev_form av 1).symm.trans h1
          have d16 : av.eval (.tmp 16) = (.bool false) := hD.1 rfl _ rfl
          have f16 := (ev_form av 16).symm.trans d16
          exact (wanted_of (d := 16) (b := false) (want := true) rfl rfl rfl d16)
        case s4 =>
          refine step_skip (fun av wv hE hS hO hD => ?_) (fun _ => rfl)
          have h0 : av.eval (.tmp 0) = (.slice (some ⟨b, off, none⟩) (len l) cap) := hO.2.2 0 rfl
          have f0 := (ev_form av 0).symm.trans h0
          have d16 : av.eval (.tmp 16) = (.bool false) := hD.1 rfl _ rfl
          have f16 := (ev_form av 16).symm.trans d16
          exact (wanted_of (d := 16) (b := false) (want := true) rfl rfl rfl d16)
        case s5 =>
          refine step_skip (fun av wv hE hS hO hD => ?_) (fun _ => rfl)
          have h5 : av.eval (.tmp 5) = (.int .i64 0) := hO.2.2 5 rfl
          have f5 := (ev_form av 5).symm.trans h5
          have d16 : av.eval (.tmp 16) = (.bool false) := hD.1 rfl _ rfl
          have f16 := (ev_form av 16).symm.trans d16
          exact (wanted_of (d := 16) (b := false) (want := true) rfl rfl rfl d16)
        case s6 =>
          refine step_skip (fun av wv hE hS hO hD => ?_) (fun _ => rfl)
          have d19 : av.eval (.tmp 19) = (undef) := hD.1 rfl _ rfl
          have f19 := (ev_form av 19).symm.trans d19
          have d16 : av.eval (.tmp 16) = (.bool false) := hD.2.1 rfl _ rfl
          have f16 := (ev_form av 16).symm.trans d16
          exact (wanted_of (d := 16) (b := false) (want := true) rfl rfl rfl d16)
        case s7 =>
          refine step_skip (fun av wv hE hS hO hD => ?_) (fun _ => rfl)
          have d18 : av.eval (.tmp 18) = (undef) := hD.1 rfl _ rfl
          have f18 := (ev_form av 18).symm.trans d18
          have d20 : av.eval (.tmp 20) = (undef) := hD.2.1 rfl _ rfl
          have f20 := (ev_form av 20).symm.trans d20
          have d16 : av.eval (.tmp 16) = (.bool false) := hD.2.2.1 rfl _ rfl
          have f16 := (ev_form av 16).symm.trans d16
          exact (wanted_of (d := 16) (b := false) (want := true) rfl rfl rfl d16)
        case s8 =>
          refine step_skip (fun av wv hE hS hO hD => ?_) (fun _ => rfl)
          have d21 : av.eval (.tmp 21) = (undef) := hD.1 rfl _ rfl
          have f21 := (ev_form av 21).symm.trans d21
          have d16 : av.eval (.tmp 16) = (.bool false) := hD.2.1 rfl _ rfl
          have f16 := (ev_form av 16).symm.trans d16
          exact (wanted_of (d := 16) (b := false) (want := true) rfl rfl rfl d16)
        case s9 =>
          refine step_skip (fun av wv hE hS hO hD => ?_) (fun _ => rfl)
          have h6 : av.eval (.tmp 6) = (.pointer (some ⟨xb, 0, none⟩)) := hO.2.2 6 rfl
          have f6 := (ev_form av 6).symm.trans h6
          have d16 : av.eval (.tmp 16) = (.bool false) := hD.1 rfl _ rfl
          have f16 := (ev_form av 16).symm.trans d16
          exact (wanted_of (d := 16) (b := false) (want := true) rfl rfl rfl d16)
        case s10 =>
          refine step_skip (fun av wv hE hS hO hD => ?_) (fun _ => rfl)
          have d17 : av.eval (.tmp 17) = (undef) := hD.1 rfl _ rfl
          have f17 := (ev_form av 17).symm.trans d17
          have d22 : av.eval (.tmp 22) = (undef) := hD.2.1 rfl _ rfl
          have f22 := (ev_form av 22).symm.trans d22
          have d23 : av.eval (.tmp 23) = (undef) := hD.2.2.1 rfl _ rfl
          have f23 := (ev_form av 23).symm.trans d23
          have d16 : av.eval (.tmp 16) = (.bool false) := hD.2.2.2.1 rfl _ rfl
          have f16 := (ev_form av 16).symm.trans d16
          exact (wanted_of (d := 16) (b := false) (want := true) rfl rfl rfl d16)
        case s11 =>
          refine step_skip (fun av wv hE hS hO hD => ?_) (fun _ => rfl)
          have d24 : av.eval (.tmp 24) = (undef) := hD.1 rfl _ rfl
          have f24 := (ev_form av 24).symm.trans d24
          have d16 : av.eval (.tmp 16) = (.bool false) := hD.2.1 rfl _ rfl
          have f16 := (ev_form av 16).symm.trans d16
          exact (wanted_of (d := 16) (b := false) (want := true) rfl rfl rfl d16)
        case s12 =>
          refine step_val (v := (.bool false)) (fun av wv hE hS hO hD => ?_) (fun _ => rfl)
          have d16 : av.eval (.tmp 16) = (.bool false) := hD.1 rfl _ rfl
          have f16 := (ev_form av 16).symm.trans d16
          have d25 : av.eval (.tmp 25) = (undef) := hD.2.1 rfl _ rfl
          have f25 := (ev_form av 25).symm.trans d25
          refine ⟨rfl, ?_⟩
          simp [go_sem, f16, f25]
        intro a' w' hE hO hall
        have hA := act_of_outer (ds := [14, 15, 16, 17, 18, 19, 20, 21, 22, 23, 24, 25, 26]) rfl hO (by kernel_rfl)
        have e14 : (fun u _ => u = (.int .i64 0)) (a'.eval (.tmp 14)) w' := hall.1 _ rfl
        have e15 : (fun u _ => u = (.bool false)) (a'.eval (.tmp 15)) w' := hall.2.1 _ rfl
        have e16 : (fun u _ => u = (.bool false)) (a'.eval (.tmp 16)) w' := hall.2.2.1 _ rfl
        have e17 : (fun u _ => u = undef) (a'.eval (.tmp 17)) w' := hall.2.2.2.1 _ rfl
        have e18 : (fun u _ => u = undef) (a'.eval (.tmp 18)) w' := hall.2.2.2.2.1 _ rfl
        have e19 : (fun u _ => u = undef) (a'.eval (.tmp 19)) w' := hall.2.2.2.2.2.1 _ rfl
        have e20 : (fun u _ => u = undef) (a'.eval (.tmp 20)) w' := hall.2.2.2.2.2.2.1 _ rfl
        have e21 : (fun u _ => u = undef) (a'.eval (.tmp 21)) w' := hall.2.2.2.2.2.2.2.1 _ rfl
        have e22 : (fun u _ => u = undef) (a'.eval (.tmp 22)) w' := hall.2.2.2.2.2.2.2.2.1 _ rfl
        have e23 : (fun u _ => u = undef) (a'.eval (.tmp 23)) w' := hall.2.2.2.2.2.2.2.2.2.1 _ rfl
        have e24 : (fun u _ => u = undef) (a'.eval (.tmp 24)) w' := hall.2.2.2.2.2.2.2.2.2.2.1 _ rfl
        have e25 : (fun u _ => u = undef) (a'.eval (.tmp 25)) w' := hall.2.2.2.2.2.2.2.2.2.2.2.1 _ rfl
        have e26 : (fun u _ => u = (.bool false)) (a'.eval (.tmp 26)) w' := hall.2.2.2.2.2.2.2.2.2.2.2.2.1 _ rfl
        simp only [List.foldl_cons, List.foldl_nil, Act.put, List.setIfInBounds_toArray, List.set_cons_succ, List.set_cons_zero, e14, e15, e16, e17, e18, e19, e20, e21, e22, e23, e24, e25, e26] at hA
        clear hO hall e14 e15 e16 e17 e18 e19 e20 e21 e22 e23 e24 e25 e26
        subst hA
        have HB2 : Hid (Below w.heap.size w w') := Lib.hid (bnext HVB.out (of_drew hE))
        have HNN := HN.out
        clear hE
        go_wp2
        go_roundg (gk - 1)
        case rel => exact ⟨1, by omega, by go_num, HB2, Lib.hid (fun j h0 h => by omega)⟩
        case measure => omega
      · obtain ⟨k, hk⟩ : ∃ k, m = k + 1 := ⟨m - 1, by omega⟩
        obtain ⟨b', off', he, ⟨c0, c1, c2, c3⟩⟩ := (HC.out.below HVB.out) k (by omega)
        cases he
        obtain ⟨p, hp⟩ : ∃ p, hnth l k = p := ⟨_, rfl⟩
        obtain ⟨x, hx⟩ : ∃ x, R p q = x := ⟨_, rfl⟩
        have HF2 := Lib.hid (fun w9 (hb : Below V.heap.size V w9) => HF.out m (by omega) hlt w9 (bnext HVB.out hb))
        rw [show m - 1 = k by omega, hp, HQ.out, hx] at HF2
        rw [hp] at c0 c1 c2 c3
        have HXX : Hid (R (hnth l (m - 1)) (hnth l m) = x) := Lib.hid (by rw [show m - 1 = k by omega, hp, HQ.out, hx])
        have d0 : V.cell? ⟨xb, 0, none⟩ = some (.int .u64 q.rnd) := block_cell HVX.out 0
        have d1 : V.cell? ⟨xb, 1, none⟩ = some (.string q.prev) := block_cell HVX.out 1
        have d2 : V.cell? ⟨xb, 2, none⟩ = some (.string q.txns) := block_cell HVX.out 2
        have d3 : V.cell? ⟨xb, 3, none⟩ = some (.string q.seed) := block_cell HVX.out 3
        have i1 : 0 < m := by omega
        have i2 : k < len l := by omega
        have i3 : IntKind.i64.wrap ((m : Int) - 1) = (k : Int) := by have := HN.out; rw [IntWalk.i64_in _ (by omega)]; omega
        have i4 : (k : Int) < len l := by omega
        have HK := Lib.hid hk
        clear hp hx hm0 hk hlt
        refine wp_region_all 1000 (none) (phis [fun u _ => u = (.int .i64 (m : Nat)), fun u _ => u = (.bool true), fun u _ => u = (.bool true), fun u _ => u = (.func (.func F) #[] C), fun u _ => u = (.slice (some ⟨b, off, none⟩) (len l) cap), fun u _ => u = (.int .i64 (m : Nat)), fun u _ => u = (.int .i64 (k : Nat)), fun u _ => u = (.pointer (some ⟨b, off + k * 4, none⟩)), fun u _ => u = ((Hdr.val p)), fun u _ => u = ((Hdr.val q)), fun u _ => u = (.bool x), fun u _ => u = (.bool (!x)), fun u _ => u = (.bool (!x))]) rfl (by kernel_rfl) (mono_of ⟨mono_eq, mono_eq, mono_eq, mono_eq, mono_eq, mono_eq, mono_eq, mono_eq, mono_eq, mono_eq, mono_eq, mono_eq, mono_eq, trivial⟩) (steps_of 13 ⟨?s0, ?s1, ?s2, ?s3, ?s4, ?s5, ?s6, ?s7, ?s8, ?s9, ?s10, ?s11, ?s12, trivial⟩) ?_
        case s0 =>
          refine step_val (v := (.int .i64 (m : Nat))) (fun av wv hE hS hO hD => ?_) (fun _ => rfl)
          have h5 : av.eval (.tmp 5) = (.int .i64 (m : Nat)) := hO.2.2 5 rfl
          have f5 := (ev_form av 5).symm.trans h5
          refine ⟨rfl, ?_⟩
          simp [go_sem, f5, i1, i2, i3, i4]
        case s1 =>
          refine step_val (v := (.bool true)) (fun av wv hE hS hO hD => ?_) (fun _ => rfl)
          have d14 : av.eval (.tmp 14) = (.int .i64 (m : Nat)) := hD.1 rfl _ rfl
          have f14 := (ev_form av 14).symm.trans d14
          refine ⟨rfl, ?_⟩
          simp [go_sem, f14, i1, i2, i3, i4]
        case s2 =>
          refine step_val (v := (.bool true)) (fun av wv hE hS hO hD => ?_) (fun _ => rfl)
          have d15 : av.eval (.tmp 15) = (.bool true) := hD.1 rfl _ rfl
          have f15 := (ev_form av 15).symm.trans d15
          refine ⟨rfl, ?_⟩
          simp [go_sem, f15, i1, i2, i3, i4]
        case s3 =>
          refine step_val (v := (.func (.func F) #[] C)) (fun av wv hE hS hO hD => ?_) (fun _ => rfl)
          have h1 : av.eval (.tmp 1) = (.func (.func F) #[] C) := hO.2.2 1 rfl
          have f1 := (ev_form av 1).symm.trans h1
          have d16 : av.eval (.tmp 16) = (.bool true) := hD.1 rfl _ rfl
          have f16 := (ev_form av 16).symm.trans d16
          refine ⟨(wanted_of (d := 16) (b := true) (want := true) rfl rfl rfl d16), ?_⟩
          simp [go_sem, f1, f16, i1, i2, i3, i4]
        case s4 =>
          refine step_val (v := (.slice (some ⟨b, off, none⟩) (len l) cap)) (fun av wv hE hS hO hD => ?_) (fun _ => rfl)
          have h0 : av.eval (.tmp 0) = (.slice (some ⟨b, off, none⟩) (len l) cap) := hO.2.2 0 rfl
          have f0 := (ev_form av 0).symm.trans h0
          have d16 : av.eval (.tmp 16) = (.bool true) := hD.1 rfl _ rfl
          have f16 := (ev_form av 16).symm.trans d16
          refine ⟨(wanted_of (d := 16) (b := true) (want := true) rfl rfl rfl d16), ?_⟩
          simp [go_sem, f0, f16, i1, i2, i3, i4]
        case s5 =>
          refine step_val (v := (.int .i64 (m : Nat))) (fun av wv hE hS hO hD => ?_) (fun _ => rfl)
          have h5 : av.eval (.tmp 5) = (.int .i64 (m : Nat)) := hO.2.2 5 rfl
          have f5 := (ev_form av 5).symm.trans h5
          have d16 : av.eval (.tmp 16) = (.bool true) := hD.1 rfl _ rfl
          have f16 := (ev_form av 16).symm.trans d16
          refine ⟨(wanted_of (d := 16) (b := true) (want := true) rfl rfl rfl d16), ?_⟩
          simp [go_sem, f5, f16, i1, i2, i3, i4]
        case s6 =>
          refine step_val (v := (.int .i64 (k : Nat))) (fun av wv hE hS hO hD => ?_) (fun _ => rfl)
          have d19 : av.eval (.tmp 19) = (.int .i64 (m : Nat)) := hD.1 rfl _ rfl
          have f19 := (ev_form av 19).symm.trans d19
          have d16 : av.eval (.tmp 16) = (.bool true) := hD.2.1 rfl _ rfl
          have f16 := (ev_form av 16).symm.trans d16
          refine ⟨(wanted_of (d := 16) (b := true) (want := true) rfl rfl rfl d16), ?_⟩
          simp [go_sem, f19, f16, i1, i2, i3, i4]
        case s7 =>
          refine step_val (v := (.pointer (some ⟨b, off + k * 4, none⟩))) (fun av wv hE hS hO hD => ?_) (fun _ => rfl)
          have d18 : av.eval (.tmp 18) = (.slice (some ⟨b, off, none⟩) (len l) cap) := hD.1 rfl _ rfl
          have f18 := (ev_form av 18).symm.trans d18
          have d20 : av.eval (.tmp 20) = (.int .i64 (k : Nat)) := hD.2.1 rfl _ rfl
          have f20 := (ev_form av 20).symm.trans d20
          have d16 : av.eval (.tmp 16) = (.bool true) := hD.2.2.1 rfl _ rfl
          have f16 := (ev_form av 16).symm.trans d16
          refine ⟨(wanted_of (d := 16) (b := true) (want := true) rfl rfl rfl d16), ?_⟩
          simp [go_sem, f18, f20, f16, i1, i2, i3, i4]
        case s8 =>
          refine step_val (v := ((Hdr.val p))) (fun av wv hE hS hO hD => ?_) (fun _ => rfl)
          have d21 : av.eval (.tmp 21) = (.pointer (some ⟨b, off + k * 4, none⟩)) := hD.1 rfl _ rfl
          have f21 := (ev_form av 21).symm.trans d21
          have d16 : av.eval (.tmp 16) = (.bool true) := hD.2.1 rfl _ rfl
          have f16 := (ev_form av 16).symm.trans d16
          have c0 := extB_cell hE (by simp) c0
          have c1 := extB_cell hE (by simp) c1
          have c2 := extB_cell hE (by simp) c2
          have c3 := extB_cell hE (by simp) c3
          have d0 := extB_cell hE (by simp) d0
          have d1 := extB_cell hE (by simp) d1
          have d2 := extB_cell hE (by simp) d2
          have d3 := extB_cell hE (by simp) d3
          refine ⟨(wanted_of (d := 16) (b := true) (want := true) rfl rfl rfl d16), ?_⟩
          simp [go_sem, f21, f16, c0, c1, c2, c3, d0, d1, d2, d3, i1, i2, i3, i4]
        case s9 =>
          refine step_val (v := ((Hdr.val q))) (fun av wv hE hS hO hD => ?_) (fun _ => rfl)
          have h6 : av.eval (.tmp 6) = (.pointer (some ⟨xb, 0, none⟩)) := hO.2.2 6 rfl
          have f6 := (ev_form av 6).symm.trans h6
          have d16 : av.eval (.tmp 16) = (.bool true) := hD.1 rfl _ rfl
          have f16 := (ev_form av 16).symm.trans d16
          have c0 := extB_cell hE (by simp) c0
          have c1 := extB_cell hE (by simp) c1
          have c2 := extB_cell hE (by simp) c2
          have c3 := extB_cell hE (by simp) c3
          have d0 := extB_cell hE (by simp) d0
          have d1 := extB_cell hE (by simp) d1
          have d2 := extB_cell hE (by simp) d2
          have d3 := extB_cell hE (by simp) d3
          refine ⟨(wanted_of (d := 16) (b := true) (want := true) rfl rfl rfl d16), ?_⟩
          simp [go_sem, f6, f16, c0, c1, c2, c3, d0, d1, d2, d3, i1, i2, i3, i4]
        case s10 =>
          refine step_wp (fun av wv hE hS hO hD => ?_)
          have d17 : av.eval (.tmp 17) = (.func (.func F) #[] C) := hD.1 rfl _ rfl
          have f17 := (ev_form av 17).symm.trans d17
          have d22 : av.eval (.tmp 22) = ((Hdr.val p)) := hD.2.1 rfl _ rfl
          have f22 := (ev_form av 22).symm.trans d22
          have d23 : av.eval (.tmp 23) = ((Hdr.val q)) := hD.2.2.1 rfl _ rfl
          have f23 := (ev_form av 23).symm.trans d23
          have d16 : av.eval (.tmp 16) = (.bool true) := hD.2.2.2.1 rfl _ rfl
          have f16 := (ev_form av 16).symm.trans d16
          refine ⟨(wanted_of (d := 16) (b := true) (want := true) rfl rfl rfl d16), ?_⟩
          refine wp_of_call (v := .bool x) (by simp [go_sem, f17, f22, f23]; exact eg _ _) (HF2.out wv (of_drew hE)) (fun w2 hb => ⟨_, rfl, es_of_ext hb, rfl⟩)
        case s11 =>
          refine step_val (v := (.bool (!x))) (fun av wv hE hS hO hD => ?_) (fun _ => rfl)
          have d24 : av.eval (.tmp 24) = (.bool x) := hD.1 rfl _ rfl
          have f24 := (ev_form av 24).symm.trans d24
          have d16 : av.eval (.tmp 16) = (.bool true) := hD.2.1 rfl _ rfl
          have f16 := (ev_form av 16).symm.trans d16
          refine ⟨(wanted_of (d := 16) (b := true) (want := true) rfl rfl rfl d16), ?_⟩
          simp [go_sem, f24, f16, i1, i2, i3, i4]
        case s12 =>
          refine step_val (v := (.bool (!x))) (fun av wv hE hS hO hD => ?_) (fun _ => rfl)
          have d16 : av.eval (.tmp 16) = (.bool true) := hD.1 rfl _ rfl
          have f16 := (ev_form av 16).symm.trans d16
          have d25 : av.eval (.tmp 25) = (.bool (!x)) := hD.2.1 rfl _ rfl
          have f25 := (ev_form av 25).symm.trans d25
          refine ⟨rfl, ?_⟩
          simp [go_sem, f16, f25, i1, i2, i3, i4]
        intro a' w' hE hO hall
        have hA := act_of_outer (ds := [14, 15, 16, 17, 18, 19, 20, 21, 22, 23, 24, 25, 26]) rfl hO (by kernel_rfl)
        have e14 : (fun u _ => u = (.int .i64 (m : Nat))) (a'.eval (.tmp 14)) w' := hall.1 _ rfl
        have e15 : (fun u _ => u = (.bool true)) (a'.eval (.tmp 15)) w' := hall.2.1 _ rfl
        have e16 : (fun u _ => u = (.bool true)) (a'.eval (.tmp 16)) w' := hall.2.2.1 _ rfl
        have e17 : (fun u _ => u = (.func (.func F) #[] C)) (a'.eval (.tmp 17)) w' := hall.2.2.2.1 _ rfl
        have e18 : (fun u _ => u = (.slice (some ⟨b, off, none⟩) (len l) cap)) (a'.eval (.tmp 18)) w' := hall.2.2.2.2.1 _ rfl
        have e19 : (fun u _ => u = (.int .i64 (m : Nat))) (a'.eval (.tmp 19)) w' := hall.2.2.2.2.2.1 _ rfl
        have e20 : (fun u _ => u = (.int .i64 (k : Nat))) (a'.eval (.tmp 20)) w' := hall.2.2.2.2.2.2.1 _ rfl
        have e21 : (fun u _ => u = (.pointer (some ⟨b, off + k * 4, none⟩))) (a'.eval (.tmp 21)) w' := hall.2.2.2.2.2.2.2.1 _ rfl
        have e22 : (fun u _ => u = ((Hdr.val p))) (a'.eval (.tmp 22)) w' := hall.2.2.2.2.2.2.2.2.1 _ rfl
        have e23 : (fun u _ => u = ((Hdr.val q))) (a'.eval (.tmp 23)) w' := hall.2.2.2.2.2.2.2.2.2.1 _ rfl
        have e24 : (fun u _ => u = (.bool x)) (a'.eval (.tmp 24)) w' := hall.2.2.2.2.2.2.2.2.2.2.1 _ rfl
        have e25 : (fun u _ => u = (.bool (!x))) (a'.eval (.tmp 25)) w' := hall.2.2.2.2.2.2.2.2.2.2.2.1 _ rfl
        have e26 : (fun u _ => u = (.bool (!x))) (a'.eval (.tmp 26)) w' := hall.2.2.2.2.2.2.2.2.2.2.2.2.1 _ rfl
        simp only [List.foldl_cons, List.foldl_nil, Act.put, List.setIfInBounds_toArray, List.set_cons_succ, List.set_cons_zero, e14, e15, e16, e17, e18, e19, e20, e21, e22, e23, e24, e25, e26] at hA
        clear hO hall e14 e15 e16 e17 e18 e19 e20 e21 e22 e23 e24 e25 e26
        subst hA
        have HB2 : Hid (Below w.heap.size w w') := Lib.hid (bnext HVB.out (of_drew hE))
        have HNN := HN.out
        clear hE c0 c1 c2 c3 d0 d1 d2 d3 i1 i2 i3 i4
        cases x
        · have HNO : Hid (followH R l = false) := Lib.hid (followH_no HLT.out (by have := HK.out; omega) HXX.out)
          go_wp2
          go_ret
          exact ⟨ret_bool (by rw [HNO.out]; try rfl), HB2.out⟩
        · go_wp2
          go_roundg (gk - 1)
          case rel => exact ⟨m + 1, by omega, by go_num, HB2, Lib.hid (fun j h0 h => by
            by_cases e : j = m
            · subst e; exact HXX.out
            · exact HI.out j h0 (by omega))⟩
          case measure => omega
    · have b0 : ¬ (m : Int) < len l := by omega
      have HYE : Hid (followH R l = true) := Lib.hid (follow_end (m := m) (by omega) HI.out)
      go_wp2
      go_ret
      exact ⟨ret_bool (by rw [HYE.out]; try rfl), HW.out⟩
theorem step_val2 (p q : Hdr) : stepH p q = (decide (p.rnd < q.rnd) && (q.rnd - p.rnd == 1)) := by
  unfold stepH
  by_cases e : q.rnd - p.rnd = 1 <;> simp [e]
set_option maxRecDepth 100000 in
theorem step_any (p q : Hdr) (w : World) (hp : p.Ok) (hq : q.Ok) : Calls Tryz.prog 127 #[p.val, q.val] w fun e w' => e = .returned (.bool (stepH p q)) ∧ Below w.heap.size w w' := by
  have HS := Lib.hid (step_val2 p q)
  have hp0 := hp.r0
  have hq0 := hq.r0
  unfold U64i at hp0 hq0
  obtain ⟨x, hx⟩ : ∃ x, p.rnd = x := ⟨_, rfl⟩
  obtain ⟨y, hy⟩ : ∃ y, q.rnd = y := ⟨_, rfl⟩
  rw [hx, hy] at HS
  rw [hx] at hp0
  rw [hy] at hq0
  have HX := Lib.hid hx
  have HY := Lib.hid hy
  by_cases h : x < y
  · have i1 : IntKind.u64.wrap (y - x) = y - x := IntWalk.u64_in _ (by omega)
    have HE : Hid (stepH p q = (y - x == 1)) := Lib.hid (by rw [HS.out, decide_eq_true h]; rfl)
    have h2 := HX.out
    have h3 := HY.out
    clear hp hq hp0 hq0 hx hy
    go_enter Tryz.func127, Tryz.ntmps127
    go_wp2
    go_ret
    refine ⟨ret_bool ?_, by (repeat (first | exact Below.refl _ _ | assumption | (refine bdrew ?_) | (refine bdrewN ?_ _) | (refine balloc ?_ _) | (refine bset ?_ (by first | omega | (simp; done) | (simp; omega)) _) | (refine bnext ?_ (by assumption))))⟩
    rw [HE.out]
    try rfl
  · have HE : Hid (stepH p q = false) := Lib.hid (by rw [HS.out, decide_eq_false h]; rfl)
    have h2 := HX.out
    have h3 := HY.out
    clear hp hq hp0 hq0 hx hy
    go_enter Tryz.func127, Tryz.ntmps127
    go_wp2
    go_ret
    refine ⟨ret_bool ?_, by (repeat (first | exact Below.refl _ _ | assumption | (refine bdrew ?_) | (refine bdrewN ?_ _) | (refine balloc ?_ _) | (refine bset ?_ (by first | omega | (simp; done) | (simp; omega)) _) | (refine bnext ?_ (by assumption))))⟩
    rw [HE.out]
    try rfl
theorem len_appH {α : Type} (a b : List α) : len (a ++ b) = len a + len b := by rw [len_eq, List.length_append]; rfl
def ElemIs (l : List Hdr) (w : World) (e : Ending) (w' : World) : Prop := Below w.heap.size w w' ∧ ((elOk l = true ∧ ∃ v, e = .returned v ∧ TextsAre (elL l) v w') ∨ (elOk l = false ∧ e = .panicked wrongC))
structure ElPr (B : Nat) (l : List Hdr) (w wr : World) (v : Value) (m : Nat) : Prop where
  b : Below w.heap.size w wr
  o : wr.ownsRow w.heap.size 9 1 v (len (elL (l.take m))) ((elL (l.take m)).map Value.string)
  y : ∀ j, j < m → hOk (hnth l j) = true
theorem lenT2 (l : List Hdr) (m : Nat) (h : m ≤ len l) : len (elL (l.take m)) = m := by rw [elL_len, len_eq, List.length_take]; rw [len_eq] at h; omega
set_option maxRecDepth 100000 in
set_option maxHeartbeats 4000000 in
theorem elements_any (B : Nat) (l : List Hdr) (a : Option Addr) (cap : Nat) (w : World) (ht : PT B w) (hc : Hdrs w a l) (ho : ∀ i, (hnth l i).Ok) (hn : len l ≤ 100000) :
    Calls Tryz.prog 70 #[.slice a (len l) cap] w (ElemIs l w) := by
  have HT := Lib.hid ht
  have HC := Lib.hid hc
  have HO := Lib.hid ho
  have HN := Lib.hid hn
  clear ht hc ho hn
  obtain ⟨i0, hi, hz0, hz1, hz2⟩ := info_parts info_str
  have HZ := Lib.hid hz0
  clear hz0
  by_cases h64 : 0 < len l ∧ len l ≤ 64
  · have a1 : 0 < len l := h64.1
    have a2 : (len l : Int) ≤ 64 := by omega
    have H64 := Lib.hid h64
    clear h64
    go_enter Tryz.func70, Tryz.ntmps70
    go_wp2_with fail
    refine (hmust_yes _).mono ?_
    rintro e w1 ⟨rfl, rfl⟩
    clear a1 a2
    go_wp2_with fail
    refine (follow_any 127 #[] stepH a cap l w HN.out HC.out (fun _ _ => rfl) (fun i h0 h1 w9 hb => step_any _ _ w9 (HO.out _) (HO.out _))).mono ?_
    rintro e w1 ⟨rfl, hb⟩
    have HB := Lib.hid hb
    clear hb
    cases hf : followH stepH l with
    | false =>
      have HNO : Hid (elOk l = false) := Lib.hid (by unfold elOk; rw [hf]; simp)
      clear hf
      go_wp2_with fail
      refine (hmust_no _).mono ?_
      rintro e w2 ⟨rfl, rfl⟩
      go_wp2
      exact ⟨rfl, HB.out, .inr ⟨HNO.out, rfl⟩⟩
    | true =>
      have HF := Lib.hid hf
      clear hf
      go_wp2_with fail
      refine (hmust_yes _).mono ?_
      rintro e w2 ⟨rfl, rfl⟩
      go_wp2
      go_loopg [3, 20] (len l) (fun gg v i wr => ∃ m : Nat, gg + m = len l ∧ i = .int .i64 (m : Nat) ∧ Hid (ElPr B l w wr v m))
      case atStart => exact ⟨0, rfl, rfl, Lib.hid ⟨HB.out, World.ownsRow_nil _ _ _ _, fun j h => by omega⟩⟩
      case round =>
        obtain ⟨m, hm, rfl, HS⟩ := hrel
        by_cases hlt : m < len l
        · obtain ⟨b, off, rfl, ⟨e0, e1, e2, e3⟩⟩ := (HC.out.below HS.out.b) m hlt
          have HRO := Lib.hid (HO.out m)
          obtain ⟨r, hr⟩ : ∃ r, hnth l m = r := ⟨_, rfl⟩
          rw [hr] at e0 e1 e2 e3 HRO
          have HRE := Lib.hid hr
          have b0 : (m : Int) < len l := by omega
          have HLT := Lib.hid hlt
          have HB := Lib.hid (HS.out.b)
          have HTR := Lib.hid (HT.out.below HS.out.b)
          clear hr hlt
          by_cases hok : hOk r = true
          · have HOK := Lib.hid hok
            clear hok
            go_wp2_with fail
            refine (bytes_yes B r _ (HTR.out.below (balloc (Below.refl _ _) _)) HRO.out HOK.out).mono ?_
            rintro e w1 ⟨rfl, hb⟩
            have HB2 : Hid (Below w.heap.size w w1) := Lib.hid (bnext (balloc HB.out _) hb)
            have HO2 := Lib.hid (own_below (HS.out.o.alloc (.cells #[.int .u64 r.rnd, .string r.prev, .string r.txns, .string r.seed] 33)) hb)
            have hd0 := HO2.out
            obtain ⟨w', hw'⟩ : ∃ w', w1 = w' := ⟨_, rfl⟩
            subst hw'
            have HD := Lib.hid hd0
            clear hb e0 e1 e2 e3 hd0
            go_wp2_with (at_builtin; refine wpList_append_own _ rfl _ _ 36 rfl w.heap.size 9 i0 (.string ⟨#[]⟩) 1 16 Tryz.underlying36 hi HZ.out hz1 hz2 rfl (by decide) _ _ _ rfl (HO2.out.alloc _) ⟨w1.heap.size, 0, none⟩ 1 1 [.string (hbs r)] rfl rfl ?c1 ?c2 ?c3 ?c4 ?c5 ?_)
            case c1 => exact World.news_of_block (alloc_new_at _ rfl)
            case c2 => intro u hu; simp at hu; subst hu; rfl
            case c3 => unfold maxLen; have := HN.out; have := lenT2 l m (Nat.le_of_lt HLT.out); have := HLT.out; omega
            case c4 => have := HN.out; have := lenT2 l m (Nat.le_of_lt HLT.out); have := HLT.out; omega
            case c5 => have := HB2.out.size; simp; omega
            intro v' w2 hown' hgrow _
            have HB3 : Hid (Below w.heap.size w w2) := Lib.hid (grownBy_below (balloc HB2.out _) hgrow (fun k hk => (HO2.out.lt k hk).1))
            have HO3 : Hid (w2.ownsRow w.heap.size 9 1 v' (len (elL (l.take (m + 1)))) ((elL (l.take (m + 1))).map Value.string)) := Lib.hid (by
              rw [elL_snoc l m HLT.out, HRE.out, List.map_append, len_appH, show len [hbs r] = 1 from rfl]; exact hown')
            clear hown' hgrow HD
            have HNN := HN.out
            go_wp2
            go_roundg (gk - 1)
            case rel => exact ⟨m + 1, by omega, by go_num, Lib.hid ⟨HB3.out, HO3.out, fun j hj => by
              by_cases e : j = m
              · subst e; rw [HRE.out]; exact HOK.out
              · exact HS.out.y j (by omega)⟩⟩
            case measure => omega
          · have hok : hOk r = false := by simpa using hok
            have HNO : Hid (elOk l = false) := Lib.hid (by unfold elOk; rw [laysH_no HLT.out (by rw [HRE.out]; exact hok)]; simp)
            go_wp2_with fail
            refine (bytes_no B r _ (HTR.out.below (balloc (Below.refl _ _) _)) HRO.out hok).mono ?_
            rintro e w1 ⟨rfl, hb⟩
            have HB2 : Hid (Below w.heap.size w w1) := Lib.hid (bnext (balloc HB.out _) hb)
            clear hb e0 e1 e2 e3
            go_wp2
            exact ⟨rfl, HB2.out, .inr ⟨HNO.out, rfl⟩⟩
        · obtain rfl : m = len l := by omega
          have b0 : ¬ ((len l : Nat) : Int) < (len l : Nat) := by omega
          have HYE : Hid (elOk l = true) := Lib.hid (elOk_of H64.out.1 H64.out.2 HF.out (laysH_yes (fun i hi => HS.out.y i hi)))
          have HTK : Hid (l.take (len l) = l) := Lib.hid (take_len l)
          have HSO := Lib.hid HS.out.o
          rw [HTK.out] at HSO
          have HSB := Lib.hid HS.out.b
          go_wp2
          go_ret
          exact ⟨HSB.out, .inl ⟨HYE.out, _, rfl, TextsAre.own HSO.out⟩⟩
  · have HNO : Hid (elOk l = false) := Lib.hid (by
      unfold elOk
      by_cases h1 : 0 < len l
      · rw [decide_eq_false (show ¬ len l ≤ 64 from fun h => h64 ⟨h1, h⟩)]; simp
      · rw [decide_eq_false h1]; simp)
    by_cases a1 : 0 < len l
    · have a2 : ¬ (len l : Int) ≤ 64 := by omega
      clear h64
      go_enter Tryz.func70, Tryz.ntmps70
      go_wp2_with fail
      refine (hmust_no _).mono ?_
      rintro e w1 ⟨rfl, rfl⟩
      go_wp2
      exact ⟨rfl, Below.refl _ _, .inr ⟨HNO.out, rfl⟩⟩
    · clear h64
      go_enter Tryz.func70, Tryz.ntmps70
      go_wp2_with fail
      refine (hmust_no _).mono ?_
      rintro e w1 ⟨rfl, rfl⟩
      go_wp2
      exact ⟨rfl, Below.refl _ _, .inr ⟨HNO.out, rfl⟩⟩
theorem elements_yes (B : Nat) (l : List Hdr) (a : Option Addr) (cap : Nat) (w : World) (ht : PT B w) (hc : Hdrs w a l) (ho : ∀ i, (hnth l i).Ok) (hn : len l ≤ 100000) (h : elOk l = true) :
    Calls Tryz.prog 70 #[.slice a (len l) cap] w fun e w' => ∃ v, e = .returned v ∧ TextsAre (elL l) v w' ∧ Below w.heap.size w w' :=
  (elements_any B l a cap w ht hc ho hn).mono (fun e w' hh => by
    rcases hh.2 with ⟨_, v, h1, h2⟩ | ⟨h1, _⟩
    · exact ⟨v, h1, h2, hh.1⟩
    · rw [h] at h1; cases h1)
theorem elements_no (B : Nat) (l : List Hdr) (a : Option Addr) (cap : Nat) (w : World) (ht : PT B w) (hc : Hdrs w a l) (ho : ∀ i, (hnth l i).Ok) (hn : len l ≤ 100000) (h : elOk l = false) :
    Calls Tryz.prog 70 #[.slice a (len l) cap] w fun e w' => e = .panicked wrongC ∧ Below w.heap.size w w' :=
  (elements_any B l a cap w ht hc ho hn).mono (fun e w' hh => by
    rcases hh.2 with ⟨h1, _⟩ | ⟨_, h1⟩
    · rw [h] at h1; cases h1
    · exact ⟨h1, hh.1⟩)
set_option maxRecDepth 100000 in
theorem hang_any (B : Nat) (p q : Hdr) (w : World) (ht : PT B w) (hp : p.Ok) (hq : q.Ok) (h : hOk p = true) : Calls Tryz.prog 77 #[p.val, q.val] w fun e w' => e = .returned (.bool (hangH p q)) ∧ Below w.heap.size w w' := by
  obtain ⟨X, hX⟩ : ∃ X, hdg p = X := ⟨_, rfl⟩
  obtain ⟨x, hx⟩ : ∃ x, (q.prev.toList == X.toList) = x := ⟨_, rfl⟩
  have HE : Hid (hangH p q = x) := Lib.hid (by unfold hangH; rw [hX, ← hx, str_beq])
  have HD0 := Lib.hid (fun w9 (hb : Below w.heap.size w w9) => digest_yes B p w9 (ht.below hb) hp h)
  rw [hX] at HD0
  have HHX := Lib.hid hx
  clear ht hp hq h hX hx
  go_enter Tryz.func77, Tryz.ntmps77
  go_upto_region 1 with fail
  obtain ⟨V, hV⟩ : ∃ V, (w.alloc (.cells #[.int .u64 p.rnd, .string p.prev, .string p.txns, .string p.seed] 33)).alloc (.cells #[.int .u64 q.rnd, .string q.prev, .string q.txns, .string q.seed] 33) = V := ⟨_, rfl⟩
  have HVB : Hid (Below w.heap.size w V) := Lib.hid (by rw [← hV]; (repeat (first | exact Below.refl _ _ | assumption | (refine bdrew ?_) | (refine bdrewN ?_ _) | (refine balloc ?_ _) | (refine bset ?_ (by first | omega | (simp; done) | (simp; omega)) _) | (refine bnext ?_ (by assumption)))))
  have HV0 : Hid (V.heap[w.heap.size]? = some (.cells #[.int .u64 p.rnd, .string p.prev, .string p.txns, .string p.seed] 33 (0, 0))) := Lib.hid (by rw [← hV]; exact block_alloc (heap_alloc_new _ _) _)
  have HV1 : Hid (V.heap[w.heap.size + 1]? = some (.cells #[.int .u64 q.rnd, .string q.prev, .string q.txns, .string q.seed] 33 (0, 0))) := Lib.hid (by rw [← hV]; exact alloc_new_at _ (alloc_size _ rfl))
  rw [hV]
  have HD := Lib.hid (fun w9 (hb : Below V.heap.size V w9) => HD0.out w9 (bnext HVB.out hb))
  have c0 : V.cell? ⟨w.heap.size, 0, none⟩ = some (.int .u64 p.rnd) := block_cell HV0.out 0
  have c1 : V.cell? ⟨w.heap.size, 1, none⟩ = some (.string p.prev) := block_cell HV0.out 1
  have c2 : V.cell? ⟨w.heap.size, 2, none⟩ = some (.string p.txns) := block_cell HV0.out 2
  have c3 : V.cell? ⟨w.heap.size, 3, none⟩ = some (.string p.seed) := block_cell HV0.out 3
  have d1 : V.cell? ⟨w.heap.size + 1, 1, none⟩ = some (.string q.prev) := block_cell HV1.out 1
  have hx := HHX.out
  clear hV
  refine wp_region_all 1000 (none) (phis [fun u _ => u = (.pointer (some ⟨w.heap.size + 1, 1, none⟩)), fun u _ => u = (.string q.prev), fun u _ => u = ((Hdr.val p)), fun u _ => u = (.string X), fun u _ => u = (.bool x), fun u _ => u = (.bool x)]) rfl (by kernel_rfl) (mono_of ⟨mono_eq, mono_eq, mono_eq, mono_eq, mono_eq, mono_eq, trivial⟩) (steps_of 6 ⟨?s0, ?s1, ?s2, ?s3, ?s4, ?s5, trivial⟩) ?_
  case s0 =>
    refine step_val (v := (.pointer (some ⟨w.heap.size + 1, 1, none⟩))) (fun av wv hE hS hO hD => ?_) (fun _ => rfl)
    have h3 : av.eval (.tmp 3) = (.pointer (some ⟨w.heap.size + 1, 0, none⟩)) := hO.2.2 3 rfl
    have f3 := (ev_form av 3).symm.trans h3
    refine ⟨rfl, ?_⟩
    simp [go_sem, f3, hx]
  case s1 =>
    refine step_val (v := (.string q.prev)) (fun av wv hE hS hO hD => ?_) (fun _ => rfl)
    have d5 : av.eval (.tmp 5) = (.pointer (some ⟨w.heap.size + 1, 1, none⟩)) := hD.1 rfl _ rfl
    have f5 := (ev_form av 5).symm.trans d5
    have c0 := extB_cell hE (by simp) c0
    have c1 := extB_cell hE (by simp) c1
    have c2 := extB_cell hE (by simp) c2
    have c3 := extB_cell hE (by simp) c3
    have d1 := extB_cell hE (by simp) d1
    refine ⟨rfl, ?_⟩
    simp [go_sem, f5, c0, c1, c2, c3, d1, hx]
  case s2 =>
    refine step_val (v := ((Hdr.val p))) (fun av wv hE hS hO hD => ?_) (fun _ => rfl)
    have h2 : av.eval (.tmp 2) = (.pointer (some ⟨w.heap.size, 0, none⟩)) := hO.2.2 2 rfl
    have f2 := (ev_form av 2).symm.trans h2
    have c0 := extB_cell hE (by simp) c0
    have c1 := extB_cell hE (by simp) c1
    have c2 := extB_cell hE (by simp) c2
    have c3 := extB_cell hE (by simp) c3
    have d1 := extB_cell hE (by simp) d1
    refine ⟨rfl, ?_⟩
    simp [go_sem, f2, c0, c1, c2, c3, d1, hx]
  case s3 =>
    refine step_wp (fun av wv hE hS hO hD => ?_)
    have d7 : av.eval (.tmp 7) = ((Hdr.val p)) := hD.1 rfl _ rfl
    have f7 := (ev_form av 7).symm.trans d7
    refine ⟨rfl, ?_⟩
    refine wp_of_call (v := .string X) (by simp [go_sem, f7]) (HD.out wv (of_drew hE)) (fun w2 hb => ⟨_, rfl, es_of_ext hb, rfl⟩)
  case s4 =>
    refine step_val (v := (.bool x)) (fun av wv hE hS hO hD => ?_) (fun _ => rfl)
    have d6 : av.eval (.tmp 6) = (.string q.prev) := hD.1 rfl _ rfl
    have f6 := (ev_form av 6).symm.trans d6
    have d8 : av.eval (.tmp 8) = (.string X) := hD.2.1 rfl _ rfl
    have f8 := (ev_form av 8).symm.trans d8
    refine ⟨rfl, ?_⟩
    simp [go_sem, f6, f8, hx]
  case s5 =>
    refine step_val (v := (.bool x)) (fun av wv hE hS hO hD => ?_) (fun _ => rfl)
    have d9 : av.eval (.tmp 9) = (.bool x) := hD.1 rfl _ rfl
    have f9 := (ev_form av 9).symm.trans d9
    refine ⟨rfl, ?_⟩
    simp [go_sem, f9, hx]
  intro a' w' hE hO hall
  have hA := act_of_outer (ds := [5, 6, 7, 8, 9, 4]) rfl hO (by kernel_rfl)
  have e5 : (fun u _ => u = (.pointer (some ⟨w.heap.size + 1, 1, none⟩))) (a'.eval (.tmp 5)) w' := hall.1 _ rfl
  have e6 : (fun u _ => u = (.string q.prev)) (a'.eval (.tmp 6)) w' := hall.2.1 _ rfl
  have e7 : (fun u _ => u = ((Hdr.val p))) (a'.eval (.tmp 7)) w' := hall.2.2.1 _ rfl
  have e8 : (fun u _ => u = (.string X)) (a'.eval (.tmp 8)) w' := hall.2.2.2.1 _ rfl
  have e9 : (fun u _ => u = (.bool x)) (a'.eval (.tmp 9)) w' := hall.2.2.2.2.1 _ rfl
  have e4 : (fun u _ => u = (.bool x)) (a'.eval (.tmp 4)) w' := hall.2.2.2.2.2.1 _ rfl
  simp only [List.foldl_cons, List.foldl_nil, Act.put, List.setIfInBounds_toArray, List.set_cons_succ, List.set_cons_zero, e5, e6, e7, e8, e9, e4] at hA
  clear hO hall e5 e6 e7 e8 e9 e4
  subst hA
  have HB2 : Hid (Below w.heap.size w w') := Lib.hid (bnext HVB.out (of_drew hE))
  clear hE c0 c1 c2 c3 d1 hx
  go_wp2
  go_ret
  exact ⟨ret_bool (by rw [HE.out]; try rfl), HB2.out⟩
end Go.Proofs.YtpobhbdomldecaaGreatDoor
namespace Go.Proofs.YtpobhbdomldecaaGreatDoor
open Go.RowKit
set_option linter.unusedSimpArgs false
set_option linter.unusedVariables false
set_option maxRecDepth 100000 in
theorem safe_frame (p q x : Value) : #[p, q] ++ ((Array.replicate 16 undef).setIfInBounds 3 x).setIfInBounds 0 x = #[p, q, x, undef, undef, x, undef, undef, undef, undef, undef, undef, undef, undef, undef, undef, undef, undef] := by
  simp [Array.replicate, List.replicate]
set_option maxRecDepth 100000 in
theorem safe_idle (p q : Value) (w : World) :
    CallsD Tryz.prog 126 #[p, q] .returning w fun e u' w' => e = .returned (.tuple #[]) ∧ u' = .returning ∧ w' = w := by
  refine callsD_of_wpS Tryz.func126 rfl fun c₀ cs hu => ?_
  apply wpS_seq
  apply wpS_region
  simp [wpOpsS, go_sem, recoverD, hu, Tryz.ntmps126, Exit.thenS]
  refine wpS_of_wp ?_
  obtain ⟨Q, hQ⟩ : ∃ Q : Exit → Act → World → Prop, (fun e a' w' => bodyPostS Tryz.prog Tryz.f126 c₀ cs (fun e u' w' => e = Ending.returned (.tuple #[]) ∧ u' = .returning ∧ w' = w) e a' (c₀ :: cs) w') = Q := ⟨_, rfl⟩
  rw [hQ, safe_frame]
  have HQ := Lib.hid hQ
  clear hQ
  go_wp2
  rw [← HQ.out]
  simp [bodyPostS, results, Tryz.results126]
  cases c₀; simp_all
theorem assert_wrong (k : Int) (w : World) : (Instr.typeAssert (.iface 154 (.agg #[.int .i64 k])) 20 154 true).run Tryz.prog w = .ok (.tuple #[.agg #[.int .i64 k], .bool true]) w := by kernel_rfl
structure Boxes (w : World) (sb eb : Nat) (s : ByteArray) (k : Int) : Prop where
  s_ : w.heap[sb]? = some (.cells #[.string s] 9 (0, 0))
  e_ : w.heap[eb]? = some (.cells #[.int .i64 k] 27 (0, 0))
set_option maxRecDepth 100000 in
set_option maxHeartbeats 1000000 in
theorem safe_some (older : List PanicEntry) (sb eb : Nat) (s : ByteArray) (k : Int) (w : World) (h : Boxes w sb eb s k) (hne : sb ≠ eb) (B : Nat) (hs : B ≤ sb) (he : B ≤ eb) (hB : B ≤ w.heap.size) :
    CallsD Tryz.prog 126 #[.pointer (some ⟨sb, 0, none⟩), .pointer (some ⟨eb, 0, none⟩)] (.panicking ({ v := .iface 154 (.agg #[.int .i64 2]), recovered := false } :: older)) w fun e u' w' =>
      e = .returned (.tuple #[]) ∧ u' = .panicking ({ v := .iface 154 (.agg #[.int .i64 2]), recovered := true } :: older) ∧ Boxes w' sb eb ⟨#[]⟩ 2 ∧ Below B w w' := by
  refine callsD_of_wpS Tryz.func126 rfl fun c₀ cs hu => ?_
  apply wpS_seq
  apply wpS_region
  simp [wpOpsS, go_sem, recoverD, hu, Tryz.ntmps126, Exit.thenS]
  refine wpS_of_wp ?_
  obtain ⟨Q, hQ⟩ : ∃ Q : Exit → Act → World → Prop, (fun e a' w' => bodyPostS Tryz.prog Tryz.f126 c₀ cs (fun e u' w' => e = Ending.returned (.tuple #[]) ∧ u' = .panicking ({ v := .iface 154 (.agg #[.int .i64 2]), recovered := true } :: older) ∧ Boxes w' sb eb ⟨#[]⟩ 2 ∧ Below B w w') e a' ({ c₀ with mode := .panicking ({ v := .iface 154 (.agg #[.int .i64 2]), recovered := true } :: older) } :: cs) w') = Q := ⟨_, rfl⟩
  rw [hQ, safe_frame]
  have HQ := Lib.hid hQ
  have HX := Lib.hid h
  have ha := assert_wrong 2
  clear hQ hu h
  go_upto_region 5 with fail
  obtain ⟨V, hV⟩ : ∃ V, w.alloc (.cells #[.int .i64 2] 154) = V := ⟨_, rfl⟩
  obtain ⟨xb, hxb⟩ : ∃ xb, w.heap.size = xb := ⟨_, rfl⟩
  have HBV : Hid (Below w.heap.size w V) := Lib.hid (by rw [← hV]; exact balloc (Below.refl _ _) _)
  have HVS := Lib.hid ((HBV.out.block _ (lt_of_block HX.out.s_)).trans HX.out.s_)
  have HVE := Lib.hid ((HBV.out.block _ (lt_of_block HX.out.e_)).trans HX.out.e_)
  have HXB : Hid (V.heap[xb]? = some (.cells #[.int .i64 2] 154 (0, 0))) := Lib.hid (by rw [← hV, ← hxb]; exact heap_alloc_new _ _)
  have n1 : sb ≠ xb := by have := lt_of_block HX.out.s_; omega
  have n2 : eb ≠ xb := by have := lt_of_block HX.out.e_; omega
  have cx : V.cell? ⟨xb, 0, none⟩ = some (.int .i64 2) := block_cell HXB.out 0
  have cs : V.cell? ⟨sb, 0, none⟩ = some (.string s) := block_cell HVS.out 0
  have ce : V.cell? ⟨eb, 0, none⟩ = some (.int .i64 k) := block_cell HVE.out 0
  have fs : V.frozen? ⟨sb, 0, none⟩ = false := block_free HVS.out 0
  have fe : V.frozen? ⟨eb, 0, none⟩ = false := block_free HVE.out 0
  have HBB : Hid (Below B w V) := Lib.hid (HBV.out.mono (by omega))
  rw [hV, hxb]
  clear hV hxb ha
  go_region
  rw [← HQ.out]
  exact ⟨rfl, _, rfl, .tuple #[], by simp [results, Tryz.results126], rfl, rfl, ⟨block_setCell_ne (block_setCell HVS.out _) hne _, block_setCell (block_setCell_ne HVE.out (fun e => hne e.symm) _) _⟩, ((HBB.out.setCell hs _).setCell he _).drew⟩
set_option maxRecDepth 100000 in
set_option maxHeartbeats 1000000 in
theorem safely_yes (F : FuncId) (C : Array Value) (s : ByteArray) (w : World) (eg : ∀ args w, (callFunc F args).run Tryz.prog w = .ok (.enter F args) w) (h : ∀ w', Below w.heap.size w w' → Calls Tryz.prog F C w' fun e w'' => e = .returned (.string s) ∧ Below w'.heap.size w' w'') :
    Calls Tryz.prog 67 #[.func (.func F) #[] C] w fun e w' => e = .returned (.tuple #[.string s, .int .i64 0]) ∧ Below w.heap.size w w' := by
  have HF := Lib.hid h
  clear h
  go_enter_defers Tryz.func67, Tryz.ntmps67
  go_wp2_with fail
  obtain ⟨V, hV⟩ : ∃ V, (w.alloc (.cells #[.string ⟨#[]⟩] 9)).alloc (.cells #[.int .i64 0] 27) = V := ⟨_, rfl⟩
  have HBV : Hid (Below w.heap.size w V) := Lib.hid (by rw [← hV]; (repeat (first | exact Below.refl _ _ | assumption | (refine bdrew ?_) | (refine bdrewN ?_ _) | (refine balloc ?_ _) | (refine bset ?_ (by first | omega | (simp; done) | (simp; omega)) _) | (refine bnext ?_ (by assumption)))))
  have HV0 : Hid (V.heap[w.heap.size]? = some (.cells #[.string ⟨#[]⟩] 9 (0, 0))) := Lib.hid (by rw [← hV]; (repeat (first | exact alloc_new_at _ (by repeat (first | rfl | refine alloc_size _ ?_)) | refine block_alloc ?_ _)))
  have HV1 : Hid (V.heap[w.heap.size + 1]? = some (.cells #[.int .i64 0] 27 (0, 0))) := Lib.hid (by rw [← hV]; (repeat (first | exact alloc_new_at _ (by repeat (first | rfl | refine alloc_size _ ?_)) | refine block_alloc ?_ _)))
  rw [hV]
  clear hV
  refine (HF.out V HBV.out).mono ?_
  rintro e w1 ⟨rfl, hb⟩
  have HB : Hid (Below w.heap.size w w1) := Lib.hid (bnext HBV.out hb)
  have HW0 := Lib.hid ((hb.block _ (lt_of_block HV0.out)).trans HV0.out)
  have HW1 := Lib.hid ((hb.block _ (lt_of_block HV1.out)).trans HV1.out)
  have c0 : w1.cell? ⟨w.heap.size, 0, none⟩ = some (.string ⟨#[]⟩) := block_cell HW0.out 0
  have c1 : w1.cell? ⟨w.heap.size + 1, 0, none⟩ = some (.int .i64 0) := block_cell HW1.out 0
  have f0 : w1.frozen? ⟨w.heap.size, 0, none⟩ = false := block_free HW0.out 0
  have f1 : w1.frozen? ⟨w.heap.size + 1, 0, none⟩ = false := block_free HW1.out 0
  clear hb
  go_wp2
  obtain ⟨X, hX⟩ : ∃ X, (w1.setCell ⟨w.heap.size, 0, none⟩ (.string s)).setCell ⟨w.heap.size + 1, 0, none⟩ (.int .i64 0) = X := ⟨_, rfl⟩
  have HX0 : Hid (X.heap[w.heap.size]? = some (.cells #[.string s] 9 (0, 0))) := Lib.hid (by rw [← hX]; exact block_setCell_ne (block_setCell HW0.out _) (by simp) _)
  have HX1 : Hid (X.heap[w.heap.size + 1]? = some (.cells #[.int .i64 0] 27 (0, 0))) := Lib.hid (by rw [← hX]; exact block_setCell (block_setCell_ne HW1.out (by simp) _) _)
  have HXB : Hid (Below w.heap.size w X) := Lib.hid (by rw [← hX]; exact bset (bset HB.out (Nat.le_refl _) _) (by simp) _)
  rw [hX]
  clear hX
  refine leaves_cons (f := 126) (args := #[.pointer (some ⟨w.heap.size, 0, none⟩), .pointer (some ⟨w.heap.size + 1, 0, none⟩)]) (by simp) (by simp [go_sem]) ?_
  refine (safe_idle (.pointer (some ⟨w.heap.size, 0, none⟩)) (.pointer (some ⟨w.heap.size + 1, 0, none⟩)) _).mono ?_
  rintro e u' w'' ⟨rfl, rfl, rfl⟩
  have x0 : w''.cell? ⟨w.heap.size, 0, none⟩ = some (.string s) := block_cell HX0.out 0
  have x1 : w''.cell? ⟨w.heap.size + 1, 0, none⟩ = some (.int .i64 0) := block_cell HX1.out 0
  exact ⟨_, by simp [results, Tryz.results67, go_sem, x0, x1], rfl, HXB.out⟩
set_option maxRecDepth 100000 in
set_option maxHeartbeats 1000000 in
theorem safely_no (F : FuncId) (C : Array Value) (w : World) (eg : ∀ args w, (callFunc F args).run Tryz.prog w = .ok (.enter F args) w) (h : ∀ w', Below w.heap.size w w' → Calls Tryz.prog F C w' fun e w'' => e = .panicked wrongC ∧ Below w'.heap.size w' w'') :
    Calls Tryz.prog 67 #[.func (.func F) #[] C] w fun e w' => e = .returned (.tuple #[.string ⟨#[]⟩, .int .i64 2]) ∧ Below w.heap.size w w' := by
  have HF := Lib.hid h
  clear h
  go_enter_defers Tryz.func67, Tryz.ntmps67
  go_wp2_with fail
  obtain ⟨V, hV⟩ : ∃ V, (w.alloc (.cells #[.string ⟨#[]⟩] 9)).alloc (.cells #[.int .i64 0] 27) = V := ⟨_, rfl⟩
  have HBV : Hid (Below w.heap.size w V) := Lib.hid (by rw [← hV]; (repeat (first | exact Below.refl _ _ | assumption | (refine bdrew ?_) | (refine bdrewN ?_ _) | (refine balloc ?_ _) | (refine bset ?_ (by first | omega | (simp; done) | (simp; omega)) _) | (refine bnext ?_ (by assumption)))))
  have HV0 : Hid (V.heap[w.heap.size]? = some (.cells #[.string ⟨#[]⟩] 9 (0, 0))) := Lib.hid (by rw [← hV]; (repeat (first | exact alloc_new_at _ (by repeat (first | rfl | refine alloc_size _ ?_)) | refine block_alloc ?_ _)))
  have HV1 : Hid (V.heap[w.heap.size + 1]? = some (.cells #[.int .i64 0] 27 (0, 0))) := Lib.hid (by rw [← hV]; (repeat (first | exact alloc_new_at _ (by repeat (first | rfl | refine alloc_size _ ?_)) | refine block_alloc ?_ _)))
  rw [hV]
  clear hV
  refine (HF.out V HBV.out).mono ?_
  rintro e w1 ⟨rfl, hb⟩
  have HB : Hid (Below w.heap.size w w1) := Lib.hid (bnext HBV.out hb)
  have HW0 := Lib.hid ((hb.block _ (lt_of_block HV0.out)).trans HV0.out)
  have HW1 := Lib.hid ((hb.block _ (lt_of_block HV1.out)).trans HV1.out)
  clear hb
  go_wp2
  refine leaves_cons (f := 126) (args := #[.pointer (some ⟨w.heap.size, 0, none⟩), .pointer (some ⟨w.heap.size + 1, 0, none⟩)]) (by simp) (by simp [go_sem]) ?_
  refine (safe_some [] w.heap.size (w.heap.size + 1) ⟨#[]⟩ 0 w1 ⟨HW0.out, HW1.out⟩ (by simp) w.heap.size (Nat.le_refl _) (by simp) HB.out.size).mono ?_
  rintro e u' w'' ⟨rfl, rfl, hx, hb⟩
  have x0 : w''.cell? ⟨w.heap.size, 0, none⟩ = some (.string ⟨#[]⟩) := block_cell hx.s_ 0
  have x1 : w''.cell? ⟨w.heap.size + 1, 0, none⟩ = some (.int .i64 2) := block_cell hx.e_ 0
  exact ⟨_, by simp [results, Tryz.results67, go_sem, x0, x1], rfl, HB.out.trans hb⟩
end Go.Proofs.YtpobhbdomldecaaGreatDoor
namespace Go.Proofs.YtpobhbdomldecaaGreatDoor
open Go.RowKit
set_option linter.unusedSimpArgs false
set_option linter.unusedVariables false
set_option maxRecDepth 100000 in
theorem digest1_yes (B : Nat) (r : Hdr) (xb : Nat) (w : World) (ht : PT B w) (ho : r.Ok) (h : hOk r = true) (hx : w.heap[xb]? = some (.cells #[.int .u64 r.rnd, .string r.prev, .string r.txns, .string r.seed] 33 (0, 0))) :
    Calls Tryz.prog 79 #[.pointer (some ⟨xb, 0, none⟩)] w fun e w' => e = .returned (.string (hdg r)) ∧ Below w.heap.size w w' := by
  have HW := Lib.hid (digest_yes B r w ht ho h)
  have c : ∀ o, w.cell? ⟨xb, o, none⟩ = _ := block_cell hx
  clear ht ho h hx
  go_enter Tryz.func79, Tryz.ntmps79
  go_wp2_with fail
  refine HW.out.mono ?_
  rintro e w1 ⟨rfl, hb⟩
  have HB := Lib.hid hb
  clear hb c
  go_wp2
  go_ret
  exact ⟨rfl, HB.out⟩
set_option maxRecDepth 100000 in
theorem digest1_no (B : Nat) (r : Hdr) (xb : Nat) (w : World) (ht : PT B w) (ho : r.Ok) (h : hOk r = false) (hx : w.heap[xb]? = some (.cells #[.int .u64 r.rnd, .string r.prev, .string r.txns, .string r.seed] 33 (0, 0))) :
    Calls Tryz.prog 79 #[.pointer (some ⟨xb, 0, none⟩)] w fun e w' => e = .panicked wrongC ∧ Below w.heap.size w w' := by
  have HW := Lib.hid (digest_no B r w ht ho h)
  have c : ∀ o, w.cell? ⟨xb, o, none⟩ = _ := block_cell hx
  clear ht ho h hx
  go_enter Tryz.func79, Tryz.ntmps79
  go_wp2_with fail
  refine HW.out.mono ?_
  rintro e w1 ⟨rfl, hb⟩
  have HB := Lib.hid hb
  clear hb c
  go_wp2
  exact ⟨rfl, rfl, HB.out⟩
set_option maxRecDepth 100000 in
theorem hdig_any (B : Nat) (r : Hdr) (w : World) (ht : PT B w) (ho : r.Ok) : Calls Tryz.prog 21 #[r.val] w (DgIs r w) := by
  have HT := Lib.hid ht
  have HO := Lib.hid ho
  clear ht ho
  by_cases h : hOk r = true
  · have HE : Hid (dgS r = hdg r ∧ dgE r = 0) := Lib.hid ⟨if_pos h, if_pos h⟩
    go_enter Tryz.func21, Tryz.ntmps21
    go_wp2_with fail
    refine (safely_yes 79 #[.pointer (some ⟨w.heap.size, 0, none⟩)] (hdg r) _ (fun _ _ => rfl) (fun w' hb => digest1_yes B r w.heap.size w' ((HT.out.below (balloc (Below.refl _ _) _)).below hb) HO.out h ((hb.block _ (by simp)).trans (heap_alloc_new _ _)))).mono ?_
    rintro e w1 ⟨rfl, hb⟩
    have HB : Hid (Below w.heap.size w w1) := Lib.hid (bnext (balloc (Below.refl _ _) _) hb)
    clear hb
    go_wp2
    go_ret2
    exact ⟨by rw [HE.out.1, HE.out.2]; rfl, HB.out⟩
  · have h : hOk r = false := by simpa using h
    have HE : Hid (dgS r = ⟨#[]⟩ ∧ dgE r = 2) := Lib.hid ⟨if_neg (by rw [h]; decide), if_neg (by rw [h]; decide)⟩
    go_enter Tryz.func21, Tryz.ntmps21
    go_wp2_with fail
    refine (safely_no 79 #[.pointer (some ⟨w.heap.size, 0, none⟩)] _ (fun _ _ => rfl) (fun w' hb => digest1_no B r w.heap.size w' ((HT.out.below (balloc (Below.refl _ _) _)).below hb) HO.out h ((hb.block _ (by simp)).trans (heap_alloc_new _ _)))).mono ?_
    rintro e w1 ⟨rfl, hb⟩
    have HB : Hid (Below w.heap.size w w1) := Lib.hid (bnext (balloc (Below.refl _ _) _) hb)
    clear hb
    go_wp2
    go_ret2
    exact ⟨by rw [HE.out.1, HE.out.2]; rfl, HB.out⟩
def BoxL (w : World) (xb : Nat) (a : Option Addr) (n cap : Nat) : Prop := w.heap[xb]? = some (.cells #[.slice a n cap] 22 (0, 0))
theorem BoxL.below {w w' : World} {xb : Nat} {a : Option Addr} {n cap : Nat} (h : BoxL w xb a n cap) (hb : Below w.heap.size w w') : BoxL w' xb a n cap := (hb.block _ (lt_of_block h)).trans h
set_option maxRecDepth 100000 in
theorem root1_yes (B : Nat) (l : List Hdr) (a : Option Addr) (cap xb : Nat) (w : World) (ht : PT B w) (hc : Hdrs w a l) (ho : ∀ i, (hnth l i).Ok) (hn : len l ≤ 100000) (h : elOk l = true) (hx : BoxL w xb a (len l) cap) :
    Calls Tryz.prog 68 #[.pointer (some ⟨xb, 0, none⟩)] w fun e w' => e = .returned (.string (hroot l)) ∧ Below w.heap.size w w' := by
  have HW := Lib.hid (elements_yes B l a cap w ht hc ho hn h)
  have HS := Lib.hid (elL_size h)
  have HL : Hid (len (elL l) ≤ 65536) := Lib.hid (by rw [elL_len]; have := (elOk_at h).2.1; omega)
  have c0 : w.cell? ⟨xb, 0, none⟩ = some (.slice a (len l) cap) := block_cell hx 0
  clear ht ho h hx hn hc
  go_enter Tryz.func68, Tryz.ntmps68
  go_wp2_with fail
  refine HW.out.mono ?_
  rintro e w1 ⟨v, rfl, ⟨a1, c1, rfl, hx, _, _⟩, hb⟩
  have HB := Lib.hid hb
  have HX := Lib.hid hx
  clear hb c0 hx
  go_wp2_with fail
  refine (hrootT_any (elL l) a1 c1 w1 HX.out HL.out (fun i hi => Nat.le_trans (HS.out i hi) (by decide))).mono ?_
  rintro e w2 ⟨rfl, hb⟩
  have HB := Lib.hid (bnext HB.out hb)
  clear hb
  go_wp2
  go_ret
  exact ⟨rfl, HB.out⟩
set_option maxRecDepth 100000 in
theorem root1_no (B : Nat) (l : List Hdr) (a : Option Addr) (cap xb : Nat) (w : World) (ht : PT B w) (hc : Hdrs w a l) (ho : ∀ i, (hnth l i).Ok) (hn : len l ≤ 100000) (h : elOk l = false) (hx : BoxL w xb a (len l) cap) :
    Calls Tryz.prog 68 #[.pointer (some ⟨xb, 0, none⟩)] w fun e w' => e = .panicked wrongC ∧ Below w.heap.size w w' := by
  have HW := Lib.hid (elements_no B l a cap w ht hc ho hn h)
  have c0 : w.cell? ⟨xb, 0, none⟩ = some (.slice a (len l) cap) := block_cell hx 0
  clear ht ho h hx hn hc
  go_enter Tryz.func68, Tryz.ntmps68
  go_wp2_with fail
  refine HW.out.mono ?_
  rintro e w1 ⟨rfl, hb⟩
  have HB := Lib.hid hb
  clear hb c0
  go_wp2
  exact ⟨rfl, rfl, HB.out⟩
set_option maxRecDepth 100000 in
theorem hroot_any (B : Nat) (l : List Hdr) (a : Option Addr) (cap : Nat) (w : World) (ht : PT B w) (hc : Hdrs w a l) (ho : ∀ i, (hnth l i).Ok) (hn : len l ≤ 100000) : Calls Tryz.prog 17 #[.slice a (len l) cap] w (RtIs l w) := by
  have HT := Lib.hid ht
  have HO := Lib.hid ho
  have HC := Lib.hid hc
  have HN := Lib.hid hn
  clear ht ho hc hn
  by_cases h : elOk l = true
  · have HE : Hid (rtS l = hroot l ∧ rtE l = 0) := Lib.hid ⟨if_pos h, if_pos h⟩
    go_enter Tryz.func17, Tryz.ntmps17
    go_wp2_with fail
    refine (safely_yes 68 #[.pointer (some ⟨w.heap.size, 0, none⟩)] (hroot l) _ (fun _ _ => rfl) (fun w' hb => root1_yes B l a cap w.heap.size w' ((HT.out.below (balloc (Below.refl _ _) _)).below hb) ((HC.out.below (balloc (Below.refl _ _) _)).below hb) HO.out HN.out h ((hb.block _ (by simp)).trans (heap_alloc_new _ _)))).mono ?_
    rintro e w1 ⟨rfl, hb⟩
    have HB : Hid (Below w.heap.size w w1) := Lib.hid (bnext (balloc (Below.refl _ _) _) hb)
    clear hb
    go_wp2
    go_ret2
    exact ⟨by rw [HE.out.1, HE.out.2]; rfl, HB.out⟩
  · have h : elOk l = false := by simpa using h
    have HE : Hid (rtS l = ⟨#[]⟩ ∧ rtE l = 2) := Lib.hid ⟨if_neg (by rw [h]; decide), if_neg (by rw [h]; decide)⟩
    go_enter Tryz.func17, Tryz.ntmps17
    go_wp2_with fail
    refine (safely_no 68 #[.pointer (some ⟨w.heap.size, 0, none⟩)] _ (fun _ _ => rfl) (fun w' hb => root1_no B l a cap w.heap.size w' ((HT.out.below (balloc (Below.refl _ _) _)).below hb) ((HC.out.below (balloc (Below.refl _ _) _)).below hb) HO.out HN.out h ((hb.block _ (by simp)).trans (heap_alloc_new _ _)))).mono ?_
    rintro e w1 ⟨rfl, hb⟩
    have HB : Hid (Below w.heap.size w w1) := Lib.hid (bnext (balloc (Below.refl _ _) _) hb)
    clear hb
    go_wp2
    go_ret2
    exact ⟨by rw [HE.out.1, HE.out.2]; rfl, HB.out⟩
set_option maxRecDepth 100000 in
theorem link1_any (B : Nat) (l : List Hdr) (a : Option Addr) (cap xb : Nat) (w : World) (ht : PT B w) (hc : Hdrs w a l) (ho : ∀ i, (hnth l i).Ok) (hn : len l ≤ 100000) (hx : BoxL w xb a (len l) cap) :
    Calls Tryz.prog 74 #[.pointer (some ⟨xb, 0, none⟩)] w fun e w' => (linkedH l = true ∧ e = .returned (.string ⟨#[]⟩) ∨ linkedH l = false ∧ e = .panicked wrongC) ∧ Below w.heap.size w w' := by
  have HT := Lib.hid ht
  have HC := Lib.hid hc
  have HO := Lib.hid ho
  have HN := Lib.hid hn
  have HX := Lib.hid hx
  have HE := Lib.hid (elements_any B l a cap w ht hc ho hn)
  have c0 : w.cell? ⟨xb, 0, none⟩ = some (.slice a (len l) cap) := block_cell hx 0
  clear ht hc ho hn hx
  go_enter Tryz.func74, Tryz.ntmps74
  go_wp2_with fail
  refine HE.out.mono ?_
  rintro e w1 ⟨hb, hh⟩
  have HB := Lib.hid hb
  rcases hh with ⟨hel, v, rfl, -⟩ | ⟨hel, rfl⟩
  · have HEL := Lib.hid hel
    have c1 : w1.cell? ⟨xb, 0, none⟩ = some (.slice a (len l) cap) := block_cell (HX.out.below hb) 0
    clear hb hel c0
    go_wp2_with fail
    refine (follow_any 77 #[] hangH a cap l w1 HN.out (HC.out.below HB.out) (fun _ _ => rfl) (fun i h0 h1 w9 hb => hang_any B _ _ w9 ((HT.out.below HB.out).below hb) (HO.out _) (HO.out _) (laysH_at (elOk_at HEL.out).2.2.2 (by omega)))).mono ?_
    rintro e w2 ⟨rfl, hb⟩
    have HB2 : Hid (Below w.heap.size w w2) := Lib.hid (bnext HB.out hb)
    clear hb c1
    cases hf : followH hangH l with
    | false =>
      have HL : Hid (linkedH l = false) := Lib.hid (by unfold linkedH; rw [hf]; simp)
      clear hf
      go_wp2_with fail
      refine (hmust_no _).mono ?_
      rintro e w3 ⟨rfl, rfl⟩
      go_wp2
      exact ⟨rfl, .inr ⟨HL.out, rfl⟩, HB2.out⟩
    | true =>
      have HL : Hid (linkedH l = true) := Lib.hid (by unfold linkedH; rw [hf, HEL.out]; rfl)
      clear hf
      go_wp2_with fail
      refine (hmust_yes _).mono ?_
      rintro e w3 ⟨rfl, rfl⟩
      go_wp2
      go_ret
      exact ⟨.inl ⟨HL.out, rfl⟩, HB2.out⟩
  · have HL : Hid (linkedH l = false) := Lib.hid (by unfold linkedH; rw [hel]; rfl)
    clear hb hel c0
    go_wp2
    exact ⟨rfl, .inr ⟨HL.out, rfl⟩, HB.out⟩
set_option maxRecDepth 100000 in
theorem hlinked_any (B : Nat) (l : List Hdr) (a : Option Addr) (cap : Nat) (w : World) (ht : PT B w) (hc : Hdrs w a l) (ho : ∀ i, (hnth l i).Ok) (hn : len l ≤ 100000) :
    Calls Tryz.prog 19 #[.slice a (len l) cap] w fun e w' => e = .returned (.bool (linkedH l)) ∧ Below w.heap.size w w' := by
  have H1 := Lib.hid (fun w' (hb : Below (w.alloc (.cells #[.slice a (len l) cap] 22)).heap.size (w.alloc (.cells #[.slice a (len l) cap] 22)) w') => link1_any B l a cap w.heap.size w' ((ht.below (balloc (Below.refl _ _) _)).below hb) ((hc.below (balloc (Below.refl _ _) _)).below hb) ho hn ((hb.block _ (by simp)).trans (heap_alloc_new _ _)))
  clear ht hc ho hn
  cases hl : linkedH l with
  | true =>
    go_enter Tryz.func19, Tryz.ntmps19
    go_wp2_with fail
    refine (safely_yes 74 #[.pointer (some ⟨w.heap.size, 0, none⟩)] ⟨#[]⟩ _ (fun _ _ => rfl) (fun w' hb => (H1.out w' hb).mono (fun e w2 hh => ⟨hh.1.elim (fun h => h.2) (fun h => absurd h.1 (by rw [hl]; decide)), hh.2⟩))).mono ?_
    rintro e w1 ⟨rfl, hb⟩
    have HB : Hid (Below w.heap.size w w1) := Lib.hid (bnext (balloc (Below.refl _ _) _) hb)
    clear hb hl
    go_wp2
    go_ret
    exact ⟨rfl, HB.out⟩
  | false =>
    go_enter Tryz.func19, Tryz.ntmps19
    go_wp2_with fail
    refine (safely_no 74 #[.pointer (some ⟨w.heap.size, 0, none⟩)] _ (fun _ _ => rfl) (fun w' hb => (H1.out w' hb).mono (fun e w2 hh => ⟨hh.1.elim (fun h => absurd h.1 (by rw [hl]; decide)) (fun h => h.2), hh.2⟩))).mono ?_
    rintro e w1 ⟨rfl, hb⟩
    have HB : Hid (Below w.heap.size w w1) := Lib.hid (bnext (balloc (Below.refl _ _) _) hb)
    clear hb hl
    go_wp2
    go_ret
    exact ⟨rfl, HB.out⟩
def BoxT (w : World) (xb : Nat) (a : Option Addr) (n cap : Nat) : Prop := w.heap[xb]? = some (.cells #[.slice a n cap] 36 (0, 0))
theorem BoxT.below {w w' : World} {xb : Nat} {a : Option Addr} {n cap : Nat} (h : BoxT w xb a n cap) (hb : Below w.heap.size w w') : BoxT w' xb a n cap := (hb.block _ (lt_of_block h)).trans h
theorem bods_no {l : List ByteArray} {m : Nat} (hm : m < len l) (h : ¬ (0 < (tth l m).size ∧ (tth l m).size ≤ 64)) : bodsOk l = false := by
  unfold bodsOk
  have : (l.all fun s => decide (0 < s.size) && decide (s.size ≤ 64)) = false := by
    rw [List.all_eq_false]
    refine ⟨tth l m, by rw [tth_eq l m hm]; exact List.getElem_mem hm, ?_⟩
    simp only [Bool.and_eq_true, decide_eq_true_eq]
    exact h
  rw [this]; simp
theorem bods_yes {l : List ByteArray} (hn : len l ≤ 64) (h : ∀ m, m < len l → 0 < (tth l m).size ∧ (tth l m).size ≤ 64) : bodsOk l = true := by
  unfold bodsOk
  rw [decide_eq_true hn, Bool.true_and, List.all_eq_true]
  intro x hx
  obtain ⟨i, hi, rfl⟩ := List.getElem_of_mem hx
  have := h i hi
  rw [tth_eq l i hi] at this
  simp [this.1, this.2]
set_option maxRecDepth 100000 in
set_option maxHeartbeats 4000000 in
theorem txns1_any (l : List ByteArray) (a : Option Addr) (cap xb : Nat) (w : World) (hn : len l ≤ 65536) (hc : Txts w a l) (hz : ∀ i, i < len l → (tth l i).size ≤ 1000000) (hx : BoxT w xb a (len l) cap) :
    Calls Tryz.prog 82 #[.pointer (some ⟨xb, 0, none⟩)] w fun e w' => (bodsOk l = true ∧ e = .returned (.string (treeR l)) ∨ bodsOk l = false ∧ e = .panicked wrongC) ∧ Below w.heap.size w w' := by
  have HC := Lib.hid hc
  have HN := Lib.hid hn
  have HZ := Lib.hid hz
  have c0 : w.cell? ⟨xb, 0, none⟩ = some (.slice a (len l) cap) := block_cell hx 0
  have HCX := Lib.hid c0
  clear hc hz hn hx
  by_cases h64 : len l ≤ 64
  · have c1 : (len l : Int) ≤ 64 := by omega
    have H64 := Lib.hid h64
    go_enter Tryz.func82, Tryz.ntmps82
    go_wp2_with fail
    refine (hmust_yes _).mono ?_
    rintro e w1 ⟨rfl, rfl⟩
    go_wp2
    go_loopg [10] (len l) (fun gg i wr => ∃ m : Nat, gg + m = len l ∧ i = .int .i64 (m : Nat) ∧ wr = w ∧ Hid (∀ j, j < m → 0 < (tth l j).size ∧ (tth l j).size ≤ 64))
    case atStart => exact ⟨0, rfl, rfl, rfl, Lib.hid (fun j hj => by omega)⟩
    case round =>
      obtain ⟨m, hm, rfl, rfl, HI⟩ := hrel
      by_cases hlt : m < len l
      · obtain ⟨b, off, rfl, e0⟩ := HC.out m hlt
        have hz := HZ.out m hlt
        have HLT := Lib.hid hlt
        obtain ⟨s, hs⟩ : ∃ s, tth l m = s := ⟨_, rfl⟩
        rw [hs] at e0 hz
        have HS := Lib.hid hs
        have b0 : (m : Int) < len l := by omega
        clear hs
        by_cases q1 : 0 < s.size ∧ s.size ≤ 64
        · have HG := Lib.hid q1
          have q2 : 0 < s.size := q1.1
          have q3 : (s.size : Int) ≤ 64 := by omega
          have HNN := HN.out
          clear q1
          go_wp2_with fail
          refine (hmust_yes _).mono ?_
          rintro e w1 ⟨rfl, rfl⟩
          clear q2 q3
          go_wp2
          go_roundg (gk - 1)
          case rel => exact ⟨m + 1, by omega, by go_num, rfl, Lib.hid (fun j hj => by
            by_cases e : j = m
            · subst e; rw [HS.out]; exact HG.out
            · exact HI.out j (by omega))⟩
          case measure => omega
        · have HNO : Hid (bodsOk l = false) := Lib.hid (bods_no HLT.out (by rw [HS.out]; exact q1))
          by_cases q2 : 0 < s.size
          · have q3 : ¬ (s.size : Int) ≤ 64 := by omega
            clear q1
            go_wp2_with fail
            refine (hmust_no _).mono ?_
            rintro e w1 ⟨rfl, rfl⟩
            go_wp2
            exact ⟨rfl, .inr ⟨HNO.out, rfl⟩, Below.refl _ _⟩
          · clear q1
            go_wp2_with fail
            refine (hmust_no _).mono ?_
            rintro e w1 ⟨rfl, rfl⟩
            go_wp2
            exact ⟨rfl, .inr ⟨HNO.out, rfl⟩, Below.refl _ _⟩
      · have b0 : ¬ (m : Int) < len l := by omega
        have HYE : Hid (bodsOk l = true) := Lib.hid (bods_yes H64.out (fun j hj => HI.out j (by omega)))
        go_wp2_with fail
        refine (hrootT_any l a cap _ HC.out HN.out (fun i hi => Nat.le_trans (HZ.out i hi) (by decide))).mono ?_
        rintro e w2 ⟨rfl, hb⟩
        have HB := Lib.hid hb
        clear hb
        go_wp2
        go_ret
        exact ⟨.inl ⟨HYE.out, rfl⟩, HB.out⟩
  · have c1 : ¬ (len l : Int) ≤ 64 := by omega
    have HNO : Hid (bodsOk l = false) := Lib.hid (by unfold bodsOk; rw [decide_eq_false h64]; rfl)
    go_enter Tryz.func82, Tryz.ntmps82
    go_wp2_with fail
    refine (hmust_no _).mono ?_
    rintro e w1 ⟨rfl, rfl⟩
    go_wp2
    exact ⟨rfl, .inr ⟨HNO.out, rfl⟩, Below.refl _ _⟩
set_option maxRecDepth 100000 in
theorem htxns_any (l : List ByteArray) (a : Option Addr) (cap : Nat) (w : World) (hn : len l ≤ 65536) (hc : Txts w a l) (hz : ∀ i, i < len l → (tth l i).size ≤ 1000000) :
    Calls Tryz.prog 24 #[.slice a (len l) cap] w (TxIs l w) := by
  have H1 := Lib.hid (fun w' (hb : Below (w.alloc (.cells #[.slice a (len l) cap] 36)).heap.size (w.alloc (.cells #[.slice a (len l) cap] 36)) w') => txns1_any l a cap w.heap.size w' hn ((hc.below (balloc (Below.refl _ _) _)).below hb) hz ((hb.block _ (by simp)).trans (heap_alloc_new _ _)))
  clear hc hz hn
  cases hl : bodsOk l with
  | true =>
    have HE : Hid (txS l = treeR l ∧ txE l = 0) := Lib.hid ⟨if_pos hl, if_pos hl⟩
    go_enter Tryz.func24, Tryz.ntmps24
    go_wp2_with fail
    refine (safely_yes 82 #[.pointer (some ⟨w.heap.size, 0, none⟩)] (treeR l) _ (fun _ _ => rfl) (fun w' hb => (H1.out w' hb).mono (fun e w2 hh => ⟨hh.1.elim (fun h => h.2) (fun h => absurd h.1 (by rw [hl]; decide)), hh.2⟩))).mono ?_
    rintro e w1 ⟨rfl, hb⟩
    have HB : Hid (Below w.heap.size w w1) := Lib.hid (bnext (balloc (Below.refl _ _) _) hb)
    clear hb hl
    go_wp2
    go_ret2
    exact ⟨by rw [HE.out.1, HE.out.2]; rfl, HB.out⟩
  | false =>
    have HE : Hid (txS l = ⟨#[]⟩ ∧ txE l = 2) := Lib.hid ⟨if_neg (by rw [hl]; decide), if_neg (by rw [hl]; decide)⟩
    go_enter Tryz.func24, Tryz.ntmps24
    go_wp2_with fail
    refine (safely_no 82 #[.pointer (some ⟨w.heap.size, 0, none⟩)] _ (fun _ _ => rfl) (fun w' hb => (H1.out w' hb).mono (fun e w2 hh => ⟨hh.1.elim (fun h => absurd h.1 (by rw [hl]; decide)) (fun h => h.2), hh.2⟩))).mono ?_
    rintro e w1 ⟨rfl, hb⟩
    have HB : Hid (Below w.heap.size w w1) := Lib.hid (bnext (balloc (Below.refl _ _) _) hb)
    clear hb hl
    go_wp2
    go_ret2
    exact ⟨by rw [HE.out.1, HE.out.2]; rfl, HB.out⟩
end Go.Proofs.YtpobhbdomldecaaGreatDoor
namespace Go.Proofs.YtpobhbdomldecaaGreatDoor
open Go.RowKit
set_option linter.unusedSimpArgs false
set_option linter.unusedVariables false
theorem own_at {base n c : Nat} {w : World} {a : Option Addr} {l : List ByteArray} (h : w.ownsRow base 9 1 (.slice a n c) n (l.map Value.string)) (m : Nat) (hm : m < n) : ∃ g, a = some ⟨g, 0, none⟩ ∧ base ≤ g ∧ w.cell? ⟨g, m, none⟩ = some (.string (tth l m)) ∧ w.frozen? ⟨g, m, none⟩ = false ∧ g < w.heap.size := by
  have hn : l.length = n := by have := h.1; simpa using this
  rcases h.2 with ⟨hz, h9⟩ | ⟨g9, cap, cur, hv, hg, hh, h1, h2, h3, h4⟩
  · omega
  · cases hv
    refine ⟨g9, rfl, hg, ?_, block_free hh m, lt_of_block hh⟩
    have h5 := h.cellAt m (by omega)
    have hi2 : m < l.length := by omega
    rw [h5, List.getElem?_map, List.getElem?_eq_getElem hi2, tth_eq l m hi2]; rfl
end Go.Proofs.YtpobhbdomldecaaGreatDoor
namespace Go.Proofs.YtpobhbdomldecaaGreatDoor
open Go.RowKit
set_option linter.unusedSimpArgs false
set_option linter.unusedVariables false
def Apart (u v : Value) : Prop := ∀ k, u.ownBlock = some k → v.ownBlock ≠ some k
theorem Apart.symm {u v : Value} (h : Apart u v) : Apart v u := fun k h1 h2 => h k h2 h1
theorem Apart.keep {w w1 : World} {u v : Value} {base e size n : Nat} {xs : List Value} (h : Apart u v) (ho : w.ownsRow base e size u n xs) (hg : w.grownBy w1 v.ownBlock) : w1.ownsRow base e size u n xs :=
  ho.kept hg (by
    cases hp : Value.ownBlock u with
    | none => exact .inl rfl
    | some k => exact .inr (fun e => h k hp e.symm))
end Go.Proofs.YtpobhbdomldecaaGreatDoor
namespace Go.Proofs.YtpobhbdomldecaaGreatDoor
open Go.RowKit
set_option linter.unusedSimpArgs false
set_option linter.unusedVariables false
def Ref9At (els : List ByteArray) (b : Nat) (w : World) : Prop := ∃ a c, w.heap[b]? = some (.cells #[.slice a (len els) c] 157 (0, 0)) ∧ Txts w a els
theorem Ref9At.below {els : List ByteArray} {b : Nat} {w w' : World} (h : Ref9At els b w) (hb : Below w.heap.size w w') : Ref9At els b w' := by
  obtain ⟨a, c, h1, h2⟩ := h
  exact ⟨a, c, (hb.block _ (lt_of_block h1)).trans h1, h2.below hb⟩
end Go.Proofs.YtpobhbdomldecaaGreatDoor
namespace Go.Proofs.YtpobhbdomldecaaGreatDoor
open Go.RowKit
set_option linter.unusedSimpArgs false
set_option linter.unusedVariables false
def zerN (k : Nat) : ByteArray := ⟨(List.replicate k (0 : UInt8)).toArray⟩
theorem zerN_size (k : Nat) : (zerN k).size = k := by
  show (List.replicate k (0 : UInt8)).toArray.size = k
  simp
def digT (s : ByteArray) : ByteArray := s.extract 0 (min s.size 32) ++ zerN (32 - min s.size 32)
theorem digT_size (s : ByteArray) : (digT s).size = 32 := by
  unfold digT
  rw [ByteArray.size_append, ByteArray.size_extract, zerN_size]
  omega
theorem digT_nil : digT ⟨#[]⟩ = zerT := by decide
theorem info_u8h : (Tryz.prog.info? 5).map (fun i => (i.zero, i.size, i.bytes)) = some (some (.int .u8 0), 1, 1) := by kernel_rfl
set_option maxRecDepth 100000 in
theorem make_zb (k : Nat) (kI : Int) (hkI : kI = (k : Int)) (hk : k ≤ 100) (W : World) : ∃ W', (Instr.makeSlice 41 (.int .i64 kI) (.int .i64 kI)).run Tryz.prog W = .ok (.slice (some ⟨W.heap.size, 0, none⟩) k k) W' ∧ Below W.heap.size W W' ∧ (convert 41 9 (.slice (some ⟨W.heap.size, 0, none⟩) k k)).run Tryz.prog W' = .ok (.string (zerN k)) W' := by
  subst hkI
  obtain ⟨i0, hi, hz0, hz1, hz2⟩ := info_parts info_u8h
  have hr := run_make (P := Tryz.prog) W 41 5 i0 (.int .u8 0) Tryz.underlying41 hi hz0 .i64 .i64 k k (by omega) (Int.le_refl _) (by rw [hz2]; omega) (by omega)
  refine ⟨_, hr, balloc (Below.refl _ _) _, ?_⟩
  refine conv_block _ W.heap.size 0 k k (List.replicate k 0) (by simp) (fun i hi2 => ?_)
  rw [Nat.zero_add, block_cell (heap_alloc_new _ _)]
  have e : (List.replicate k (0 : UInt8)).getD i 0 = 0 := by
    rw [List.getD_eq_getElem?_getD, List.getElem?_replicate]
    split <;> rfl
  rw [e, hz1]
  have h2 : (madeCells (Value.int .u8 0).cells (k * 1)).toList[i]? = some (.int .u8 0) := by
    show (madeCells #[.int .u8 0] (k * 1)).toList[i]? = _
    rw [toList_madeCells_one, List.getElem?_replicate]; simp; omega
  rw [Array.getElem?_toList] at h2
  exact h2
set_option maxRecDepth 100000 in
theorem dig23_any (s : ByteArray) (w : World) (hs : s.size ≤ 1000000) : Calls Tryz.prog 26 #[.string s] w fun e w' => e = .returned (.string (digT s)) ∧ Below w.heap.size w w' := by
  obtain ⟨q, hq⟩ : ∃ q : Nat, min s.size 32 = q := ⟨_, rfl⟩
  obtain ⟨t, ht⟩ : ∃ t, s.extract 0 q = t := ⟨_, rfl⟩
  have hts : t.size = q := by rw [← ht, ByteArray.size_extract]; omega
  have HE : Hid (digT s = t ++ zerN (32 - q)) := Lib.hid (by unfold digT; rw [hq, ht])
  obtain ⟨k, hk⟩ : ∃ k, 32 - q = k := ⟨_, rfl⟩
  rw [hk] at HE
  have hk32 : k ≤ 32 := by omega
  obtain ⟨W', mk, hb, cv⟩ := make_zb k ((k : Nat) : Int) rfl (by omega) w
  have HB := Lib.hid hb
  have mn : min ((s.size : Nat) : Int) 32 = ((q : Nat) : Int) := by omega
  have qs : q ≤ s.size := by omega
  have qs2 : ¬ s.size < q := by omega
  have sb : IntKind.i64.wrap (32 - ((q : Nat) : Int)) = ((k : Nat) : Int) := by rw [IntWalk.i64_in _ (by omega)]; omega
  have hzs : (zerN k).size = k := zerN_size k
  clear hq hk hb
  go_enter Tryz.func26, Tryz.ntmps26
  go_wp2
  go_ret
  exact ⟨by rw [HE.out]; rfl, HB.out⟩
set_option maxRecDepth 100000 in
theorem at23_any (n : Int) (p : ByteArray) (w : World) : Calls Tryz.prog 27 #[.int .u64 n, .string p] w fun e w' => e = .returned (hAt n p).val ∧ Below w.heap.size w w' := by
  go_enter Tryz.func27, Tryz.ntmps27
  go_wp2_with fail
  refine (dig23_any ⟨#[]⟩ _ (by decide)).mono ?_
  rintro e w1 ⟨rfl, hb⟩
  rw [digT_nil]
  have H0 := Lib.hid ((hb.block _ (by simp)).trans (heap_alloc_new w _))
  have HB : Hid (Below w.heap.size w w1) := Lib.hid (bnext (balloc (Below.refl _ _) _) hb)
  have c : ∀ o, w1.cell? ⟨w.heap.size, o, none⟩ = _ := block_cell H0.out
  have f : ∀ o, w1.frozen? ⟨w.heap.size, o, none⟩ = false := block_free H0.out
  obtain ⟨z, hz⟩ : ∃ z, zerT = z := ⟨_, rfl⟩
  have HZ := Lib.hid hz
  rw [hz]
  clear hb hz
  go_wp2
  obtain ⟨X, hX⟩ : ∃ X, (((w1.setCell ⟨w.heap.size, 0, none⟩ (.int .u64 n)).setCell ⟨w.heap.size, 1, none⟩ (.string p)).setCell ⟨w.heap.size, 2, none⟩ (.string z)).setCell ⟨w.heap.size, 3, none⟩ (.string z) = X := ⟨_, rfl⟩
  have HX : Hid (X.heap[w.heap.size]? = some (.cells #[.int .u64 n, .string p, .string z, .string z] 33 (0, 0))) := Lib.hid (by rw [← hX]; exact block_setCell (block_setCell (block_setCell (block_setCell H0.out _) _) _) _)
  have HXB : Hid (Below w.heap.size w X) := Lib.hid (by rw [← hX]; exact bset (bset (bset (bset HB.out (Nat.le_refl _) _) (Nat.le_refl _) _) (Nat.le_refl _) _) (Nat.le_refl _) _)
  rw [hX]
  clear hX c f
  have d : ∀ o, X.cell? ⟨w.heap.size, o, none⟩ = _ := block_cell HX.out
  refine bodyPost_ret (v := .agg #[.int .u64 n, .string p, .string z, .string z]) (by simp [results, Tryz.results27, go_sem, d]) rfl ?_
  exact ⟨by rw [← HZ.out]; rfl, HXB.out⟩
set_option maxRecDepth 100000 in
theorem refused_any (B : Nat) (l : List Hdr) (a : Option Addr) (cap : Nat) (w : World) (ht : PT B w) (hc : Hdrs w a l) (ho : ∀ i, (hnth l i).Ok) (hn : len l ≤ 100000) :
    Calls Tryz.prog 28 #[.slice a (len l) cap] w fun e w' => e = .returned (.bool (!elOk l)) ∧ Below w.heap.size w w' := by
  have HT := Lib.hid ht
  have HC := Lib.hid hc
  have HO := Lib.hid ho
  have HN := Lib.hid hn
  have HR := Lib.hid (hroot_any B l a cap w ht hc ho hn)
  clear ht hc ho hn
  cases hel : elOk l with
  | true =>
    have HE : Hid (rtE l = 0) := Lib.hid (if_pos hel)
    clear hel
    go_enter Tryz.func28, Tryz.ntmps28
    go_wp2_with fail
    refine HR.out.mono ?_
    rintro e w1 ⟨rfl, hb⟩
    rw [HE.out]
    have HB := Lib.hid hb
    clear hb
    go_wp2
    go_ret
    exact ⟨rfl, HB.out⟩
  | false =>
    have HE : Hid (rtE l = 2 ∧ rtS l = ⟨#[]⟩) := Lib.hid ⟨if_neg (by rw [hel]; decide), if_neg (by rw [hel]; decide)⟩
    have HL : Hid (linkedH l = false) := Lib.hid (by unfold linkedH; rw [hel]; rfl)
    clear hel
    go_enter Tryz.func28, Tryz.ntmps28
    go_wp2_with fail
    refine HR.out.mono ?_
    rintro e w1 ⟨rfl, hb⟩
    rw [HE.out.1, HE.out.2]
    have HB := Lib.hid hb
    clear hb
    go_wp2_with fail
    refine (hlinked_any B l a cap w1 (HT.out.below HB.out) (HC.out.below HB.out) HO.out HN.out).mono ?_
    rintro e w2 ⟨rfl, hb⟩
    rw [HL.out]
    have HB2 := Lib.hid (bnext HB.out hb)
    clear hb
    go_wp2
    go_ret
    exact ⟨rfl, HB2.out⟩
def cut40 (s : ByteArray) : ByteArray := s.extract 0 (min s.size 40)
theorem cut40_size (s : ByteArray) : (cut40 s).size ≤ 40 := by unfold cut40; rw [ByteArray.size_extract]; omega
def cutH (r : Hdr) : Hdr := ⟨r.rnd, cut40 r.prev, cut40 r.txns, cut40 r.seed⟩
theorem cutH_ok {r : Hdr} (h : U64i r.rnd) : (cutH r).Ok := ⟨h, Nat.le_trans (cut40_size _) (by decide), Nat.le_trans (cut40_size _) (by decide), Nat.le_trans (cut40_size _) (by decide)⟩
def shortH (l : List Hdr) : List Hdr := (l.take 70).map cutH
theorem shortH_len (l : List Hdr) : len (shortH l) = min (len l) 70 := by unfold shortH; rw [len_eq, len_eq, List.length_map, List.length_take]; omega
theorem info_hdr : (Tryz.prog.info? 33).map (fun i => (i.zero, i.size, i.bytes)) = some (some Hdr.zero.val, 4, 56) := by kernel_rfl
def HShIs (l : List Hdr) (w : World) (e : Ending) (w' : World) : Prop := ∃ v, e = .returned v ∧ w'.ownsRow w.heap.size 33 4 v (len (shortH l)) ((shortH l).flatMap Hdr.cells) ∧ Below w.heap.size w w'
set_option maxRecDepth 100000 in
set_option maxHeartbeats 4000000 in
theorem hshort_any (a : Option Addr) (cap : Nat) (l : List Hdr) (w : World) (hlen : len l ≤ 9223372036854775807) (hc : Hdrs w a l) (hz : ∀ i, (hnth l i).prev.size ≤ 9223372036854775807 ∧ (hnth l i).txns.size ≤ 9223372036854775807 ∧ (hnth l i).seed.size ≤ 9223372036854775807) :
    Calls Tryz.prog 15 #[.slice a (len l) cap] w (HShIs l w) := by
  have HC := Lib.hid hc
  have HN := Lib.hid hlen
  have HS := Lib.hid hz
  clear hc hz
  obtain ⟨i0, hi, hz0, hz1, hz2⟩ := info_parts info_hdr
  have HZ0 := Lib.hid hz0
  obtain ⟨M, hM⟩ : ∃ M, M = min (len l) 70 := ⟨_, rfl⟩
  clear hz0
  go_enter Tryz.func15, Tryz.ntmps15
  go_wp2
  go_loopg [3, 4] M (fun g v i wr => ∃ k : Nat, g + k = M ∧ i = .int .i64 k ∧ Hid (Below w.heap.size w wr) ∧ Hid (wr.ownsRow w.heap.size 33 4 v k (((l.take k).map cutH).flatMap Hdr.cells)))
  case atStart => exact ⟨0, rfl, rfl, Lib.hid (Below.refl _ _), Lib.hid (World.ownsRow_nil _ _ _ _)⟩
  case round =>
    obtain ⟨k, hk0, rfl, HB, HOWN⟩ := hrel
    by_cases hlt : k < M
    · obtain ⟨b, off, rfl, ⟨e0, e1, e2, e3⟩⟩ := HC.out.below HB.out k (by omega)
      have hs := HS.out k
      obtain ⟨r, hr⟩ : ∃ r, hnth l k = r := ⟨_, rfl⟩
      rw [hr] at e0 e1 e2 e3 hs
      have HR := Lib.hid hr
      have b0 : (k : Int) < len l := (by omega)
      have b1 : (k : Int) < 70 := (by omega)
      have b2 : k < len l := (by omega)
      have HK := Lib.hid b2
      obtain ⟨q1, hq1⟩ : ∃ q : Nat, min r.prev.size 40 = q := ⟨_, rfl⟩
      obtain ⟨q2, hq2⟩ : ∃ q : Nat, min r.txns.size 40 = q := ⟨_, rfl⟩
      obtain ⟨q3, hq3⟩ : ∃ q : Nat, min r.seed.size 40 = q := ⟨_, rfl⟩
      have m1 : min ((r.prev.size : Nat) : Int) 40 = (q1 : Int) := by omega
      have m2 : min ((r.txns.size : Nat) : Int) 40 = (q2 : Int) := by omega
      have m3 : min ((r.seed.size : Nat) : Int) 40 = (q3 : Int) := by omega
      have n1 : q1 ≤ r.prev.size := by omega
      have n2 : q2 ≤ r.txns.size := by omega
      have n3 : q3 ≤ r.seed.size := by omega
      have HQ : Hid (cutH r = ⟨r.rnd, r.prev.extract 0 q1, r.txns.extract 0 q2, r.seed.extract 0 q3⟩) := Lib.hid (by unfold cutH cut40; rw [hq1, hq2, hq3])
      clear hr hq1 hq2 hq3
      go_upto_region 9 with fail
      clear e0 e1 e2 e3 n1 n2 n3 m1 m2 m3 hs
      go_wp2_with (at_builtin; refine wpList_append_lies _ rfl _ _ 22 rfl w.heap.size 33 i0 Hdr.zero.val 4 56 Tryz.underlying22 hi HZ0.out hz1 hz2 rfl (by decide) _ k _ rfl ((HOWN.out.alloc _).alloc _) ⟨wr.heap.size + 1, 0, none⟩ 1 1 (Hdr.cells ⟨r.rnd, r.prev.extract 0 q1, r.txns.extract 0 q2, r.seed.extract 0 q3⟩) rfl rfl ?d1 (Hdr.cells_one _) (by decide) ?d4 ?d5 ?d6 _ rfl ?_)
      case d1 => exact World.news_of_block (alloc_new_at _ (alloc_size _ rfl))
      case d4 => unfold maxLen; omega
      case d5 => omega
      case d6 => have := HB.out.size; simp; omega
      intro g cp w2 hown hgrow hat hgl
      have HB2 := Lib.hid (grownBy_below (balloc (balloc HB.out _) _) hgrow (fun q hq => (HOWN.out.lt q hq).1))
      have HO2 : Hid (w2.ownsRow w.heap.size 33 4 (.slice (some ⟨g, 0, none⟩) (k + 1) cp) (k + 1) (((l.take (k + 1)).map cutH).flatMap Hdr.cells)) := Lib.hid (by
        have hsn : l.take (k + 1) = l.take k ++ [r] := (by rw [List.take_succ_eq_append_getElem HK.out, ← HR.out, hnth_eq l k HK.out])
        rw [hsn, List.map_append, List.flatMap_append]
        have e : [r].map cutH = [⟨r.rnd, r.prev.extract 0 q1, r.txns.extract 0 q2, r.seed.extract 0 q3⟩] := by rw [← HQ.out]; rfl
        rw [e]
        simpa using hown)
      clear hown hgrow hat hgl HOWN
      go_wp2
      go_roundg (gk - 1)
      case rel => exact ⟨k + 1, by omega, by go_num, HB2, HO2⟩
      case measure => omega
    · have hex : (¬ (k : Int) < len l) ∨ ((k : Int) < len l ∧ ¬ (k : Int) < 70) := by omega
      have hL : len (shortH l) = k := by rw [shortH_len]; omega
      have HO : Hid (wr.ownsRow w.heap.size 33 4 u3 (len (shortH l)) ((shortH l).flatMap Hdr.cells)) := Lib.hid (by
        have e : l.take k = l.take 70 := by
          rw [len_eq] at hM
          rcases Nat.lt_or_ge l.length 70 with h | h
          · rw [List.take_of_length_le (by omega), List.take_of_length_le (by omega)]
          · rw [show k = 70 by omega]
        have h := HOWN.out
        rw [e] at h
        rw [hL]; exact h)
      have HBB := Lib.hid HB.out
      clear HOWN hL hM hlt
      rcases hex with h1 | ⟨h1, h2⟩
      all_goals
        go_wp2
        go_ret
        exact ⟨_, rfl, HO.out, HBB.out⟩
end Go.Proofs.YtpobhbdomldecaaGreatDoor
namespace Go.Proofs.YtpobhbdomldecaaGreatDoor
open Go.RowKit
set_option linter.unusedSimpArgs false
set_option linter.unusedVariables false
theorem own_setk {base n c g m k : Nat} {w : World} {e : TypeId} {xs : List Value} {u : Value} (h : w.ownsRow base e k (.slice (some ⟨g, 0, none⟩) n c) n xs) : (w.setCell ⟨g, m, none⟩ u).ownsRow base e k (.slice (some ⟨g, 0, none⟩) n c) n (xs.set m u) := by
  refine ⟨by rw [List.length_set]; exact h.1, ?_⟩
  rcases h.2 with ⟨hz, _⟩ | ⟨g9, cap, cur, hv, hg, hh, h1, h2, h3, h4⟩
  · cases hz
  · cases hv
    refine Or.inr ⟨g, c, cur.setIfInBounds m u, rfl, hg, block_setCell hh u, h1, h2, by rw [Array.size_setIfInBounds]; exact h3, ?_⟩
    rw [Array.toList_setIfInBounds, ← h4, List.take_set]
theorem flat_set {α β : Type} (f : α → List β) (k : Nat) (hf : ∀ x, (f x).length = k) {u : β} {x' : α} : ∀ (l : List α) (i j : Nat) (hi : i < l.length), j < k → f x' = (f l[i]).set j u → (l.flatMap f).set (i * k + j) u = (l.set i x').flatMap f
  | x :: l, 0, j, _, hj, hx => by
    simp only [List.flatMap_cons, Nat.zero_mul, Nat.zero_add, List.getElem_cons_zero, List.set_cons_zero] at hx ⊢
    rw [List.set_append_left _ _ (by rw [hf]; exact hj), hx]
  | x :: l, i + 1, j, hi, hj, hx => by
    simp only [List.flatMap_cons, List.getElem_cons_succ, List.set_cons_succ] at hx ⊢
    rw [List.set_append_right _ _ (by rw [hf, Nat.add_mul]; omega), hf, show (i + 1) * k + j - k = i * k + j by rw [Nat.add_mul]; omega]
    rw [flat_set f k hf l i j (by simpa using hi) hj hx]
def OwnH (base g c : Nat) (L : List Hdr) (w : World) : Prop := w.ownsRow base 33 4 (.slice (some ⟨g, 0, none⟩) (len L) c) (len L) (L.flatMap Hdr.cells)
theorem OwnH.below {base g c : Nat} {L : List Hdr} {w w' : World} (h : OwnH base g c L w) (hb : Below w.heap.size w w') : OwnH base g c L w' := own_below h hb
theorem OwnH.set {base g c : Nat} {L : List Hdr} {w : World} (h : OwnH base g c L w) {i j : Nat} {u : Value} {r' : Hdr} (hi : i < len L) (hj : j < 4) (hr : r'.cells = (hnth L i).cells.set j u) : OwnH base g c (L.set i r') (w.setCell ⟨g, i * 4 + j, none⟩ u) := by
  unfold OwnH
  have hl : len (L.set i r') = len L := by rw [len_eq, len_eq, List.length_set]
  rw [hl, ← flat_set Hdr.cells 4 Hdr.cells_len L i j hi hj (by rw [hr, hnth_eq L i hi])]
  exact own_setk h
theorem hset_len (L : List Hdr) (i : Nat) (r : Hdr) : len (L.set i r) = len L := by rw [len_eq, len_eq, List.length_set]
theorem hset_at (L : List Hdr) (i j : Nat) (r : Hdr) (hi : i < len L) : hnth (L.set i r) j = if i = j then r else hnth L j := by
  unfold hnth
  rw [List.getD_eq_getElem?_getD, List.getElem?_set, List.getD_eq_getElem?_getD]
  have hi2 : i < L.length := hi
  by_cases e : i = j
  · subst e; simp [hi2]
  · simp [e]
theorem OwnH.lt {base g c : Nat} {L : List Hdr} {w : World} (h : OwnH base g c L w) : base ≤ g ∧ g < w.heap.size := h.1 |> fun _ => World.ownsRow.lt h g rfl
structure HCells (w : World) (g i : Nat) (r : Hdr) : Prop where
  c0 : w.cell? ⟨g, i * 4, none⟩ = some (.int .u64 r.rnd)
  c1 : w.cell? ⟨g, i * 4 + 1, none⟩ = some (.string r.prev)
  c2 : w.cell? ⟨g, i * 4 + 2, none⟩ = some (.string r.txns)
  c3 : w.cell? ⟨g, i * 4 + 3, none⟩ = some (.string r.seed)
  f : ∀ o, w.frozen? ⟨g, o, none⟩ = false
theorem OwnH.at {base g c : Nat} {L : List Hdr} {w : World} (h : OwnH base g c L w) {i : Nat} (hi : i < len L) : HCells w g i (hnth L i) := by
  obtain ⟨a, cap, e, hh, _⟩ := Hdrs.own h
  cases e
  obtain ⟨b, off, e, ⟨h0, h1, h2, h3⟩⟩ := hh i hi
  cases e
  rw [Nat.zero_add] at h0 h1 h2 h3
  rcases h.2 with ⟨hz, _⟩ | ⟨g9, cap, cur, hv, hg, hb, _⟩
  · cases hz
  · cases hv
    exact ⟨h0, h1, h2, h3, block_free hb⟩
theorem OwnH.hdrs {base g c : Nat} {L : List Hdr} {w : World} (h : OwnH base g c L w) : Hdrs w (some ⟨g, 0, none⟩) L := by
  obtain ⟨a, cap, e, hh, _⟩ := Hdrs.own h
  cases e
  exact hh
theorem ownH_of {base n : Nat} {v : Value} {L : List Hdr} {w : World} (h : w.ownsRow base 33 4 v n (L.flatMap Hdr.cells)) : (v = .slice none 0 0 ∧ L = []) ∨ ∃ g c, v = .slice (some ⟨g, 0, none⟩) (len L) c ∧ OwnH base g c L w := by
  have hn : len L = n := by have := h.1; rw [flat_length Hdr.cells 4 Hdr.cells_len] at this; rw [len_eq]; omega
  rcases h.2 with ⟨hv, h0⟩ | ⟨g, cap, cur, hv, hr⟩
  · exact .inl ⟨hv, List.eq_nil_of_length_eq_zero (by rw [← len_eq]; omega)⟩
  · exact .inr ⟨g, cap, by rw [hn]; exact hv, by unfold OwnH; rw [hn, ← hv]; exact h⟩
theorem ok_set {L : List Hdr} (h : ∀ i, (hnth L i).Ok) {i : Nat} {r : Hdr} (hi : i < len L) (hr : r.Ok) : ∀ j, (hnth (L.set i r) j).Ok := fun j => by
  rw [hset_at L i j r hi]
  split
  · exact hr
  · exact h j
end Go.Proofs.YtpobhbdomldecaaGreatDoor
namespace Go.Proofs.YtpobhbdomldecaaGreatDoor
open Go.RowKit
set_option linter.unusedSimpArgs false
set_option linter.unusedVariables false
def abT : List ByteArray := [⟨#[97]⟩, ⟨#[98]⟩]
theorem abT_txts {w : World} {b : Nat} {t : TypeId} {fr : Nat × Nat} (h : w.heap[b]? = some (.cells #[.string ⟨#[97]⟩, .string ⟨#[98]⟩] t fr)) : Txts w (some ⟨b, 0, none⟩) abT := fun i hi => ⟨b, 0, rfl, by
  have hi : i < 2 := hi
  rw [block_cell h, Nat.zero_add]
  have : i = 0 ∨ i = 1 := by omega
  rcases this with rfl | rfl <;> rfl⟩
theorem abT_size : ∀ i, i < len abT → (tth abT i).size ≤ 1 := fun i hi => by
  have hi : i < 2 := hi
  have : i = 0 ∨ i = 1 := by omega
  rcases this with rfl | rfl <;> decide
theorem one_txts1 {w : World} {b : Nat} {t : TypeId} {fr : Nat × Nat} {s : ByteArray} (h : w.heap[b]? = some (.cells #[.string s] t fr)) : Txts w (some ⟨b, 0, none⟩) [s] := fun i hi => ⟨b, 0, rfl, by
  have hi : i < 1 := hi
  obtain rfl : i = 0 := by omega
  rw [block_cell h]; rfl⟩
theorem bods_nil : bodsOk [] = true := by decide
theorem bods_ab : bodsOk abT = true := by decide
theorem bods_65 : bodsOk [zerN 65] = false := by decide
theorem tree_nil : treeR [] = hashP noneT [] := by
  unfold treeR
  have : depN [] = 0 := by decide
  rw [this]
  rfl
theorem step_h (n : Int) (p : ByteArray) (m : Int) (q : ByteArray) : stepH (hAt n p) (hAt m q) = (decide (n < m) && decide (m - n = 1)) := rfl
theorem follow2 (R : Hdr → Hdr → Bool) (x y : Hdr) : followH R [x, y] = R x y := by
  cases h : R x y with
  | true => exact followH_yes (fun i hi h0 => by
      have hi : i < 2 := hi
      obtain rfl : i = 1 := by omega
      exact h)
  | false => exact followH_no (i := 1) (show 1 < 2 by decide) (by decide) h
theorem follow1 (R : Hdr → Hdr → Bool) (x : Hdr) : followH R [x] = true := followH_yes (fun i hi h0 => by
  have hi : i < 1 := hi
  omega)
theorem elOk2 (n m : Int) (p q : ByteArray) (hp : p.size = 32) (hq : q.size = 32) : elOk [hAt n p, hAt m q] = stepH (hAt n p) (hAt m q) := by
  unfold elOk laysH
  rw [follow2]
  simp [hAt_ok hp, hAt_ok hq, len]
theorem elOk1 (n : Int) (p : ByteArray) (hp : p.size = 32) : elOk [hAt n p] = true := by
  unfold elOk laysH
  rw [follow1]
  simp [hAt_ok hp, len]
theorem linked2 (n m : Int) (p q : ByteArray) (hp : p.size = 32) (hq : q.size = 32) : linkedH [hAt n p, hAt m q] = (stepH (hAt n p) (hAt m q) && decide (q = hdg (hAt n p))) := by
  unfold linkedH
  rw [elOk2 n m p q hp hq, follow2]
  rfl
theorem linked1 (n : Int) (p : ByteArray) (hp : p.size = 32) : linkedH [hAt n p] = true := by
  unfold linkedH
  rw [elOk1 n p hp, follow1]
  rfl
theorem hAt_Ok {n : Int} {p : ByteArray} (hn : U64i n) (hp : p.size = 32) : (hAt n p).Ok := ⟨hn, by show p.size ≤ _; rw [hp]; decide, by show zerT.size ≤ _; decide, by show zerT.size ≤ _; decide⟩
theorem oks2 {x y : Hdr} (hx : x.Ok) (hy : y.Ok) : ∀ i, (hnth [x, y] i).Ok := hoks (fun p hp => by
  rcases List.mem_cons.1 hp with rfl | hp
  · exact hx
  · rw [List.mem_singleton.1 hp]; exact hy)
theorem oks1 {x : Hdr} (hx : x.Ok) : ∀ i, (hnth [x] i).Ok := hoks (fun p hp => by
  rw [List.mem_singleton.1 hp]; exact hx)
set_option maxRecDepth 100000 in
set_option maxHeartbeats 8000000 in
theorem works23_any (B : Nat) (w : World) (ht : PT B w) : Calls Tryz.prog 23 #[] w fun e w' => e = .returned (.bool true) ∧ Below w.heap.size w w' := by
  have HT := Lib.hid ht
  clear ht
  go_enter Tryz.func23, Tryz.ntmps23
  go_wp2_with fail
  refine (dig23_any ⟨#[]⟩ w (by decide)).mono ?_
  rintro e w1 ⟨rfl, hb⟩
  rw [digT_nil]
  have HB1 := Lib.hid hb
  clear hb
  go_wp2_with fail
  refine (at23_any 5 zerT w1).mono ?_
  rintro e w2 ⟨rfl, hb⟩
  have HB2 : Hid (Below w.heap.size w w2) := Lib.hid (bnext HB1.out hb)
  clear hb
  have ok5 : ∀ n p, U64i n → p.size = 32 → (hAt n p).Ok := fun n p => hAt_Ok
  have HW := Lib.hid (fun w9 (h : PT B w9) => hw_yes B (hAt 5 zerT) w9 h (ok5 5 zerT ⟨by decide, by decide⟩ rfl) (hAt_ok rfl))
  have HG := Lib.hid (fun w9 (h : PT B w9) => hdig_any B (hAt 5 zerT) w9 h (ok5 5 zerT ⟨by decide, by decide⟩ rfl))
  unfold DgIs at HG
  have e1 : dgS (hAt 5 zerT) = hdg (hAt 5 zerT) := if_pos (hAt_ok rfl)
  have e2 : dgE (hAt 5 zerT) = 0 := if_pos (hAt_ok rfl)
  rw [e1, e2] at HG
  obtain ⟨d, hd⟩ : ∃ d, hdg (hAt 5 zerT) = d := ⟨_, rfl⟩
  have HDS : Hid (d.size = 32) := Lib.hid (by rw [← hd]; exact hdg_size _)
  have HDN : Hid (¬ zerT = d) := Lib.hid (fun h => five_dg (hd.trans h.symm))
  have HHASH : Hid (hashP hdrT [hbs (hAt 5 zerT)] = d) := Lib.hid hd
  have HBZ : Hid ((hbs (hAt 5 zerT)).size ≤ 1000000) := Lib.hid (Nat.le_trans (hbs_size (hAt_ok rfl)) (by decide))
  obtain ⟨S, hS⟩ : ∃ S, hbs (hAt 5 zerT) = S := ⟨_, rfl⟩
  rw [hS] at HW HHASH HBZ
  rw [hd] at HG
  have lift : ∀ {F : FuncId} (L : List Hdr) (v : Bool) (cs : Array Value), (L.flatMap Hdr.cells).toArray = cs → (∀ (a : Option Addr) (c : Nat) (w9 : World), PT B w9 → Hdrs w9 a L → Calls Tryz.prog F #[.slice a (len L) c] w9 fun e w' => e = .returned (.bool v) ∧ Below w9.heap.size w9 w') →
      ∀ (w9 : World) (b : Nat), PT B w9 → w9.heap[b]? = some (.cells cs 33 (0, 0)) → Calls Tryz.prog F #[.slice (some ⟨b, 0, none⟩) (len L) (len L)] w9 fun e w' => e = .returned (.bool v) ∧ Below w9.heap.size w9 w' :=
    fun L v cs hcs hh w9 b hp hb => hh _ _ w9 hp (Hdrs.block (by rw [hcs]; exact hb))
  have u5 : U64i 5 := ⟨by decide, by decide⟩
  have u6 : U64i 6 := ⟨by decide, by decide⟩
  have u7 : U64i 7 := ⟨by decide, by decide⟩
  have HF7 := Lib.hid (lift (F := 28) [hAt 5 zerT, hAt 7 zerT] true _ rfl (fun a c w9 hp hh => by
    have := refused_any B _ a c w9 hp hh (oks2 (ok5 5 zerT u5 rfl) (ok5 7 zerT u7 rfl)) (by decide)
    rw [elOk2 5 7 zerT zerT rfl rfl, step_h] at this
    exact this))
  have HF5 := Lib.hid (lift (F := 28) [hAt 5 zerT, hAt 5 zerT] true _ rfl (fun a c w9 hp hh => by
    have := refused_any B _ a c w9 hp hh (oks2 (ok5 5 zerT u5 rfl) (ok5 5 zerT u5 rfl)) (by decide)
    rw [elOk2 5 5 zerT zerT rfl rfl, step_h] at this
    exact this))
  have HL1 := Lib.hid (lift (F := 19) [hAt 5 zerT] true _ rfl (fun a c w9 hp hh => by
    have := hlinked_any B _ a c w9 hp hh (oks1 (ok5 5 zerT u5 rfl)) (by decide)
    rw [linked1 5 zerT rfl] at this
    exact this))
  have HL2 := Lib.hid (lift (F := 19) [hAt 5 zerT, hAt 6 zerT] false _ rfl (fun a c w9 hp hh => by
    have := hlinked_any B _ a c w9 hp hh (oks2 (ok5 5 zerT u5 rfl) (ok5 6 zerT u6 rfl)) (by decide)
    rw [linked2 5 6 zerT zerT rfl rfl, step_h, hd, decide_eq_false HDN.out] at this
    exact this))
  have HL3 := Lib.hid (lift (F := 19) [hAt 5 zerT, hAt 6 d] true _ rfl (fun a c w9 hp hh => by
    have := hlinked_any B _ a c w9 hp hh (oks2 (ok5 5 zerT u5 rfl) (ok5 6 d u6 HDS.out)) (show 2 ≤ 100000 by decide)
    rw [linked2 5 6 zerT d rfl HDS.out, step_h, hd, decide_eq_true rfl] at this
    exact this))
  have HR0 := Lib.hid (fun w9 (hp : PT B w9) => refused_any B [] none 0 w9 hp (Hdrs.nil _ _) (hoks (fun p hp => by cases hp)) (by decide))
  have el0 : (!elOk []) = true := by decide
  rw [el0] at HR0
  have HA7 := Lib.hid (fun w9 => at23_any 7 zerT w9)
  have HA5 := Lib.hid (fun w9 => at23_any 5 zerT w9)
  have HA6 := Lib.hid (fun w9 => at23_any 6 zerT w9)
  have HD6 := Lib.hid (fun w9 => at23_any 6 d w9)
  unfold hAt at HW HG HF7 HF5 HL1 HL2 HL3 HA7 HA5 HA6 HD6 ⊢
  obtain ⟨z, hz⟩ : ∃ z, zerT = z := ⟨_, rfl⟩
  rw [hz] at HW HG HF7 HF5 HL1 HL2 HL3 HA7 HA5 HA6 HD6 ⊢
  clear hz lift u5 u6 u7 ok5 e1 e2 hd hS HDN
  go_wp2_with fail
  obtain ⟨V, hV⟩ : ∃ V, w2.alloc (.cells #[.int .u64 5, .string z, .string z, .string z] 33) = V := ⟨_, rfl⟩
  obtain ⟨hb, hhb⟩ : ∃ hb, w2.heap.size = hb := ⟨_, rfl⟩
  have HBV : Hid (Below w.heap.size w V) := Lib.hid (by rw [← hV]; exact balloc HB2.out _)
  have HHB : Hid (V.heap[hb]? = some (.cells #[.int .u64 5, .string z, .string z, .string z] 33 (0, 0))) := Lib.hid (by rw [← hV, ← hhb]; exact heap_alloc_new _ _)
  rw [hV, hhb]
  clear hV hhb
  refine (HW.out V (HT.out.below HBV.out)).mono ?_
  rintro e w3 ⟨rfl, hb3⟩
  have HB3 : Hid (Below w.heap.size w w3) := Lib.hid (bnext HBV.out hb3)
  have HH3 := Lib.hid ((hb3.block _ (lt_of_block HHB.out)).trans HHB.out)
  have c : ∀ o, w3.cell? ⟨hb, o, none⟩ = _ := block_cell HH3.out
  clear hb3
  go_wp2_with fail
  refine (HG.out w3 (HT.out.below HB3.out)).mono ?_
  rintro e w4 ⟨rfl, hb4⟩
  have HB4 : Hid (Below w.heap.size w w4) := Lib.hid (bnext HB3.out hb4)
  have HH4 := Lib.hid ((hb4.block _ (lt_of_block HH3.out)).trans HH3.out)
  clear hb4 c el0
  go_wp2_with fail
  refine (hdig_any B Hdr.zero w4 (HT.out.below HB4.out) Hdr.zero_ok).mono ?_
  rintro e w5 ⟨rfl, hb5⟩
  have z1 : dgS Hdr.zero = ⟨#[]⟩ := if_neg (by decide)
  have z2 : dgE Hdr.zero = 2 := if_neg (by decide)
  rw [z1, z2]
  have HB5 : Hid (Below w.heap.size w w5) := Lib.hid (bnext HB4.out hb5)
  have HH5 := Lib.hid ((hb5.block _ (lt_of_block HH4.out)).trans HH4.out)
  clear hb5 z1 z2
  go_wp2_with fail
  refine (htxns_any [] none 0 w5 (by decide) (Txts.nil _ _) (fun i hi => absurd hi (by simp [len]))).mono ?_
  rintro e w6 ⟨rfl, hb6⟩
  have z1 : txS [] = hashP noneT [] := by rw [← tree_nil]; exact if_pos bods_nil
  have z2 : txE [] = 0 := if_pos bods_nil
  rw [z1, z2]
  obtain ⟨ta, hta⟩ : ∃ ta, hashP noneT [] = ta := ⟨_, rfl⟩
  have HTA := Lib.hid hta
  rw [hta]
  have HB6 : Hid (Below w.heap.size w w6) := Lib.hid (bnext HB5.out hb6)
  have HH6 := Lib.hid ((hb6.block _ (lt_of_block HH5.out)).trans HH5.out)
  clear hb6 z1 z2 hta
  go_wp2_with fail
  refine (htxns_any abT (some ⟨w6.heap.size, 0, none⟩) 2 _ (by decide) (abT_txts (heap_alloc_new _ _)) (fun i hi => Nat.le_trans (abT_size i hi) (by decide))).mono ?_
  rintro e w7 ⟨rfl, hb7⟩
  have z1 : txS abT = treeR abT := if_pos bods_ab
  have z2 : txE abT = 0 := if_pos bods_ab
  rw [z1, z2]
  obtain ⟨tb, htb⟩ : ∃ tb, treeR abT = tb := ⟨_, rfl⟩
  have HTB := Lib.hid htb
  rw [htb]
  have HX7 := Lib.hid (bnext (balloc (Below.refl w6.heap.size w6) _) hb7)
  have HB7 : Hid (Below w.heap.size w w7) := Lib.hid (bnext HB6.out HX7.out)
  have HH7 := Lib.hid ((HX7.out.block _ (lt_of_block HH6.out)).trans HH6.out)
  clear hb7 z1 z2 htb
  obtain ⟨W8, mk, hb8, cv⟩ := make_zb 65 65 rfl (by decide) w7
  obtain ⟨z65, hz65⟩ : ∃ z65, zerN 65 = z65 := ⟨_, rfl⟩
  have HZ65 : Hid (bodsOk [z65] = false ∧ z65.size = 65) := Lib.hid (by rw [← hz65]; exact ⟨bods_65, zerN_size 65⟩)
  rw [hz65] at cv
  have HX8 := Lib.hid hb8
  clear hz65 hb8
  go_wp2_with fail
  refine (htxns_any [z65] (some ⟨W8.heap.size, 0, none⟩) 1 _ (show 1 ≤ 65536 by decide) (one_txts1 (heap_alloc_new _ _)) (fun i hi => by
    have hi : i < 1 := hi
    obtain rfl : i = 0 := by omega
    show z65.size ≤ _
    rw [HZ65.out.2]; decide)).mono ?_
  rintro e w9 ⟨rfl, hb9⟩
  have z1 : txS [z65] = ⟨#[]⟩ := if_neg (by rw [HZ65.out.1]; decide)
  have z2 : txE [z65] = 2 := if_neg (by rw [HZ65.out.1]; decide)
  rw [z1, z2]
  have HX9 := Lib.hid (bnext (balloc HX8.out _) hb9)
  have HB9 : Hid (Below w.heap.size w w9) := Lib.hid (bnext HB7.out HX9.out)
  have HH9 := Lib.hid ((HX9.out.block _ (lt_of_block HH7.out)).trans HH7.out)
  clear hb9 z1 z2 mk cv
  go_wp2_with fail
  refine (build_any abT (some ⟨w9.heap.size, 0, none⟩) 2 _ (abT_txts (heap_alloc_new _ _)) (by decide) (fun i hi => Nat.le_trans (abT_size i hi) (by decide))).mono ?_
  rintro e w10 ⟨tp, rfl, htp, htr, hb10⟩
  have HX10 := Lib.hid (bnext (balloc (Below.refl w9.heap.size w9) _) hb10)
  have HB10 : Hid (Below w.heap.size w w10) := Lib.hid (bnext HB9.out HX10.out)
  have HH10 := Lib.hid ((HX10.out.block _ (lt_of_block HH9.out)).trans HH9.out)
  have HTR := Lib.hid htr
  clear hb10 htp htr
  go_wp2_with fail
  refine (hash1_any hdrT S w10 (by decide) (by decide) HBZ.out).mono ?_
  rintro e w11 ⟨rfl, hb11⟩
  rw [HHASH.out]
  have HB11 : Hid (Below w.heap.size w w11) := Lib.hid (bnext HB10.out hb11)
  have HH11 := Lib.hid ((hb11.block _ (lt_of_block HH10.out)).trans HH10.out)
  have HTR11 := Lib.hid (HTR.out.below hb11)
  have sd : (d.toList != d.toList) = false := by unfold bne; rw [str_beq, decide_eq_true rfl]; rfl
  clear hb11
  go_upto_region 12 with fail
  clear sd
  have c0 : w11.cell? ⟨hb, 0, none⟩ = some (.int .u64 5) := block_cell HH11.out 0
  have c1 : w11.cell? ⟨hb, 1, none⟩ = some (.string z) := block_cell HH11.out 1
  have c2 : w11.cell? ⟨hb, 2, none⟩ = some (.string z) := block_cell HH11.out 2
  have c3 : w11.cell? ⟨hb, 3, none⟩ = some (.string z) := block_cell HH11.out 3
  have sa : (ta.toList == ta.toList) = true := by rw [str_beq]; exact decide_eq_true rfl
  have sb : (tb.toList == tb.toList) = true := by rw [str_beq]; exact decide_eq_true rfl
  have HTW := Lib.hid (HT.out.below HB11.out)
  have HF7 := Lib.hid (fun w9 b (hw : Below w11.heap.size w11 w9) => HF7.out w9 b (HTW.out.below hw))
  have HF5 := Lib.hid (fun w9 b (hw : Below w11.heap.size w11 w9) => HF5.out w9 b (HTW.out.below hw))
  have HL1 := Lib.hid (fun w9 b (hw : Below w11.heap.size w11 w9) => HL1.out w9 b (HTW.out.below hw))
  have HL2 := Lib.hid (fun w9 b (hw : Below w11.heap.size w11 w9) => HL2.out w9 b (HTW.out.below hw))
  have HL3 := Lib.hid (fun w9 b (hw : Below w11.heap.size w11 w9) => HL3.out w9 b (HTW.out.below hw))
  have HR0 := Lib.hid (fun w9 (hw : Below w11.heap.size w11 w9) => HR0.out w9 (HTW.out.below hw))
  have HNO := Lib.hid (fun w9 => hash0_any noneT w9 (by decide) (by decide))
  rw [HTA.out] at HNO
  have HRT := Lib.hid (fun w9 (hw : Below w11.heap.size w11 w9) => (root_any abT tp w9 (HTR11.out.below hw)).mono (fun e w' hh => (⟨hh.1, by rw [hh.2]; exact Below.refl _ _⟩ : e = .returned (.string (treeR abT)) ∧ Below w9.heap.size w9 w')))
  rw [HTB.out] at HRT
  refine wp_region_all 1000 (none) (phis [fun u _ => u = (.bool true), fun u _ => u = (.bool true), fun u _ => u = (.agg #[.int .u64 5, .string z, .string z, .string z]), fun u _ => u = (.string z), fun u _ => u = (.agg #[.int .u64 7, .string z, .string z, .string z]), fun u w' => ∃ b, u = .slice (some ⟨b, 0, none⟩) 2 2 ∧ w'.heap[b]? = some (.cells #[.int .u64 5, .string z, .string z, .string z, .int .u64 7, .string z, .string z, .string z] 33 (0, 0)), fun u _ => u = (.bool true), fun u _ => u = (.bool true), fun u _ => u = (.bool true), fun u _ => u = (.agg #[.int .u64 5, .string z, .string z, .string z]), fun u _ => u = (.string z), fun u _ => u = (.agg #[.int .u64 5, .string z, .string z, .string z]), fun u w' => ∃ b, u = .slice (some ⟨b, 0, none⟩) 2 2 ∧ w'.heap[b]? = some (.cells #[.int .u64 5, .string z, .string z, .string z, .int .u64 5, .string z, .string z, .string z] 33 (0, 0)), fun u _ => u = (.bool true), fun u _ => u = (.bool true), fun u _ => u = (.bool true), fun u _ => u = (.agg #[.int .u64 5, .string z, .string z, .string z]), fun u w' => ∃ b, u = .slice (some ⟨b, 0, none⟩) 1 1 ∧ w'.heap[b]? = some (.cells #[.int .u64 5, .string z, .string z, .string z] 33 (0, 0)), fun u _ => u = (.bool true), fun u _ => u = (.bool true), fun u _ => u = (.bool true), fun u _ => u = (.agg #[.int .u64 5, .string z, .string z, .string z]), fun u _ => u = (.string z), fun u _ => u = (.agg #[.int .u64 6, .string z, .string z, .string z]), fun u w' => ∃ b, u = .slice (some ⟨b, 0, none⟩) 2 2 ∧ w'.heap[b]? = some (.cells #[.int .u64 5, .string z, .string z, .string z, .int .u64 6, .string z, .string z, .string z] 33 (0, 0)), fun u _ => u = (.bool false), fun u _ => u = (.bool true), fun u _ => u = (.bool true), fun u _ => u = (.bool true), fun u _ => u = (.agg #[.int .u64 5, .string z, .string z, .string z]), fun u _ => u = (.string d), fun u _ => u = (.agg #[.int .u64 6, .string d, .string z, .string z]), fun u w' => ∃ b, u = .slice (some ⟨b, 0, none⟩) 2 2 ∧ w'.heap[b]? = some (.cells #[.int .u64 5, .string z, .string z, .string z, .int .u64 6, .string d, .string z, .string z] 33 (0, 0)), fun u _ => u = (.bool true), fun u _ => u = (.bool true), fun u _ => u = (.bool true), fun u _ => u = (.int .i64 0), fun u _ => u = (.bool true), fun u _ => u = (.bool true), fun u _ => u = (.bool true), fun u _ => u = (.string ta), fun u _ => u = (.string ta), fun u _ => u = (.bool true), fun u _ => u = (.bool true), fun u _ => u = (.bool true), fun u _ => u = (.int .i64 0), fun u _ => u = (.bool true), fun u _ => u = (.bool true), fun u _ => u = (.bool true), fun u _ => u = (.string tb), fun u _ => u = (.pointer (some ⟨tp, 0, none⟩)), fun u _ => u = (.string tb), fun u _ => u = (.bool true), fun u _ => u = (.bool true), fun u _ => u = (.bool true), fun u _ => u = (.int .i64 2), fun u _ => u = (.bool true), fun u _ => u = (.bool true), fun u _ => u = (.bool true)]) rfl (by kernel_rfl) (mono_of ⟨mono_eq, mono_eq, mono_eq, mono_eq, mono_eq, ?m5, mono_eq, mono_eq, mono_eq, mono_eq, mono_eq, mono_eq, ?m12, mono_eq, mono_eq, mono_eq, mono_eq, ?m17, mono_eq, mono_eq, mono_eq, mono_eq, mono_eq, mono_eq, ?m24, mono_eq, mono_eq, mono_eq, mono_eq, mono_eq, mono_eq, mono_eq, ?m32, mono_eq, mono_eq, mono_eq, mono_eq, mono_eq, mono_eq, mono_eq, mono_eq, mono_eq, mono_eq, mono_eq, mono_eq, mono_eq, mono_eq, mono_eq, mono_eq, mono_eq, mono_eq, mono_eq, mono_eq, mono_eq, mono_eq, mono_eq, mono_eq, mono_eq, mono_eq, trivial⟩) (steps_of 59 ⟨?s0, ?s1, ?s2, ?s3, ?s4, ?s5, ?s6, ?s7, ?s8, ?s9, ?s10, ?s11, ?s12, ?s13, ?s14, ?s15, ?s16, ?s17, ?s18, ?s19, ?s20, ?s21, ?s22, ?s23, ?s24, ?s25, ?s26, ?s27, ?s28, ?s29, ?s30, ?s31, ?s32, ?s33, ?s34, ?s35, ?s36, ?s37, ?s38, ?s39, ?s40, ?s41, ?s42, ?s43, ?s44, ?s45, ?s46, ?s47, ?s48, ?s49, ?s50, ?s51, ?s52, ?s53, ?s54, ?s55, ?s56, ?s57, ?s58, trivial⟩) ?_
  case m5 =>
    exact ⟨fun u w1 w' h ⟨b, h1, hb⟩ => ⟨b, h1, ext_block h hb⟩, fun _ u w1 w' h ⟨b, h1, hb⟩ => ⟨b, h1, extB_block h (by simp) hb⟩⟩
  case m12 =>
    exact ⟨fun u w1 w' h ⟨b, h1, hb⟩ => ⟨b, h1, ext_block h hb⟩, fun _ u w1 w' h ⟨b, h1, hb⟩ => ⟨b, h1, extB_block h (by simp) hb⟩⟩
  case m17 =>
    exact ⟨fun u w1 w' h ⟨b, h1, hb⟩ => ⟨b, h1, ext_block h hb⟩, fun _ u w1 w' h ⟨b, h1, hb⟩ => ⟨b, h1, extB_block h (by simp) hb⟩⟩
  case m24 =>
    exact ⟨fun u w1 w' h ⟨b, h1, hb⟩ => ⟨b, h1, ext_block h hb⟩, fun _ u w1 w' h ⟨b, h1, hb⟩ => ⟨b, h1, extB_block h (by simp) hb⟩⟩
  case m32 =>
    exact ⟨fun u w1 w' h ⟨b, h1, hb⟩ => ⟨b, h1, ext_block h hb⟩, fun _ u w1 w' h ⟨b, h1, hb⟩ => ⟨b, h1, extB_block h (by simp) hb⟩⟩
  case s0 =>
    refine step_wp (fun av wv hE hS hO hD => ?_)
    refine ⟨rfl, ?_⟩
    refine wp_of_call (v := .bool true) (by simp [go_sem]; rfl) (HR0.out wv (of_drew hE)) (fun w2 hb => ⟨_, rfl, es_of_ext hb, rfl⟩)
  case s1 =>
    refine step_val (v := (.bool true)) (fun av wv hE hS hO hD => ?_) (fun _ => rfl)
    have d81 : av.eval (.tmp 81) = (.bool true) := hD.1 rfl _ rfl
    have f81 := (ev_form av 81).symm.trans d81
    refine ⟨rfl, ?_⟩
    simp [go_sem, f81, sa, sb]
  case s2 =>
    refine step_val (v := (.agg #[.int .u64 5, .string z, .string z, .string z])) (fun av wv hE hS hO hD => ?_) (fun _ => rfl)
    have h2 : av.eval (.tmp 2) = (.pointer (some ⟨hb, 0, none⟩)) := hO.2.2 2 rfl
    have f2 := (ev_form av 2).symm.trans h2
    have d82 : av.eval (.tmp 82) = (.bool true) := hD.1 rfl _ rfl
    have f82 := (ev_form av 82).symm.trans d82
    have c0 := extB_cell hE (by simp) c0
    have c1 := extB_cell hE (by simp) c1
    have c2 := extB_cell hE (by simp) c2
    have c3 := extB_cell hE (by simp) c3
    refine ⟨(wanted_of (d := 82) (b := true) (want := true) rfl rfl rfl d82), ?_⟩
    simp [go_sem, f2, f82, c0, c1, c2, c3, sa, sb]
  case s3 =>
    refine step_val (v := (.string z)) (fun av wv hE hS hO hD => ?_) (fun _ => rfl)
    have h1 : av.eval (.tmp 1) = (.string z) := hO.2.2 1 rfl
    have f1 := (ev_form av 1).symm.trans h1
    have d82 : av.eval (.tmp 82) = (.bool true) := hD.1 rfl _ rfl
    have f82 := (ev_form av 82).symm.trans d82
    refine ⟨(wanted_of (d := 82) (b := true) (want := true) rfl rfl rfl d82), ?_⟩
    simp [go_sem, f1, f82, sa, sb]
  case s4 =>
    refine step_wp (fun av wv hE hS hO hD => ?_)
    have d84 : av.eval (.tmp 84) = (.string z) := hD.1 rfl _ rfl
    have f84 := (ev_form av 84).symm.trans d84
    have d82 : av.eval (.tmp 82) = (.bool true) := hD.2.1 rfl _ rfl
    have f82 := (ev_form av 82).symm.trans d82
    refine ⟨(wanted_of (d := 82) (b := true) (want := true) rfl rfl rfl d82), ?_⟩
    refine wp_of_call (v := .agg #[.int .u64 7, .string z, .string z, .string z]) (by simp [go_sem, f84]) (HA7.out wv) (fun w2 hb => ⟨_, rfl, es_of_ext hb, rfl⟩)
  case s5 =>
    refine step_wp (fun av wv hE hS hO hD => ?_)
    have d83 : av.eval (.tmp 83) = (.agg #[.int .u64 5, .string z, .string z, .string z]) := hD.1 rfl _ rfl
    have f83 := (ev_form av 83).symm.trans d83
    have d85 : av.eval (.tmp 85) = (.agg #[.int .u64 7, .string z, .string z, .string z]) := hD.2.1 rfl _ rfl
    have f85 := (ev_form av 85).symm.trans d85
    have d82 : av.eval (.tmp 82) = (.bool true) := hD.2.2.1 rfl _ rfl
    have f82 := (ev_form av 82).symm.trans d82
    refine ⟨(wanted_of (d := 82) (b := true) (want := true) rfl rfl rfl d82), ?_⟩
    exact wp_of_run (v := .slice (some ⟨wv.heap.size, 0, none⟩) 2 2) (w' := wv.alloc (.cells #[.int .u64 5, .string z, .string z, .string z, .int .u64 7, .string z, .string z, .string z] 33)) (by simp [go_sem, f83, f85]) ⟨_, rfl, es_of_ext (balloc (Ext_refl _) _), wv.heap.size, rfl, heap_alloc_new _ _⟩
  case s6 =>
    refine step_wp (fun av wv hE hS hO hD => ?_)
    have d86 : (fun u w' => ∃ b, u = .slice (some ⟨b, 0, none⟩) 2 2 ∧ w'.heap[b]? = some (.cells #[.int .u64 5, .string z, .string z, .string z, .int .u64 7, .string z, .string z, .string z] 33 (0, 0))) (av.eval (.tmp 86)) wv := hD.1 rfl _ rfl
    have d82 : av.eval (.tmp 82) = (.bool true) := hD.2.2.1 rfl _ rfl
    have f82 := (ev_form av 82).symm.trans d82
    refine ⟨(wanted_of (d := 82) (b := true) (want := true) rfl rfl rfl d82), ?_⟩
    obtain ⟨bq, hq, hcq⟩ := d86
    have fq := (ev_form av 86).symm.trans hq
    refine wp_of_call (v := .bool true) (by simp [go_sem, fq]; rfl) (HF7.out wv bq (of_drew hE) hcq) (fun w2 hb => ⟨_, rfl, es_of_ext hb, rfl⟩)
  case s7 =>
    refine step_val (v := (.bool true)) (fun av wv hE hS hO hD => ?_) (fun _ => rfl)
    have d82 : av.eval (.tmp 82) = (.bool true) := hD.1 rfl _ rfl
    have f82 := (ev_form av 82).symm.trans d82
    have d87 : av.eval (.tmp 87) = (.bool true) := hD.2.1 rfl _ rfl
    have f87 := (ev_form av 87).symm.trans d87
    refine ⟨rfl, ?_⟩
    simp [go_sem, f82, f87, sa, sb]
  case s8 =>
    refine step_val (v := (.bool true)) (fun av wv hE hS hO hD => ?_) (fun _ => rfl)
    have d88 : av.eval (.tmp 88) = (.bool true) := hD.1 rfl _ rfl
    have f88 := (ev_form av 88).symm.trans d88
    refine ⟨rfl, ?_⟩
    simp [go_sem, f88, sa, sb]
  case s9 =>
    refine step_val (v := (.agg #[.int .u64 5, .string z, .string z, .string z])) (fun av wv hE hS hO hD => ?_) (fun _ => rfl)
    have h2 : av.eval (.tmp 2) = (.pointer (some ⟨hb, 0, none⟩)) := hO.2.2 2 rfl
    have f2 := (ev_form av 2).symm.trans h2
    have d89 : av.eval (.tmp 89) = (.bool true) := hD.1 rfl _ rfl
    have f89 := (ev_form av 89).symm.trans d89
    have c0 := extB_cell hE (by simp) c0
    have c1 := extB_cell hE (by simp) c1
    have c2 := extB_cell hE (by simp) c2
    have c3 := extB_cell hE (by simp) c3
    refine ⟨(wanted_of (d := 89) (b := true) (want := true) rfl rfl rfl d89), ?_⟩
    simp [go_sem, f2, f89, c0, c1, c2, c3, sa, sb]
  case s10 =>
    refine step_val (v := (.string z)) (fun av wv hE hS hO hD => ?_) (fun _ => rfl)
    have h1 : av.eval (.tmp 1) = (.string z) := hO.2.2 1 rfl
    have f1 := (ev_form av 1).symm.trans h1
    have d89 : av.eval (.tmp 89) = (.bool true) := hD.1 rfl _ rfl
    have f89 := (ev_form av 89).symm.trans d89
    refine ⟨(wanted_of (d := 89) (b := true) (want := true) rfl rfl rfl d89), ?_⟩
    simp [go_sem, f1, f89, sa, sb]
  case s11 =>
    refine step_wp (fun av wv hE hS hO hD => ?_)
    have d91 : av.eval (.tmp 91) = (.string z) := hD.1 rfl _ rfl
    have f91 := (ev_form av 91).symm.trans d91
    have d89 : av.eval (.tmp 89) = (.bool true) := hD.2.1 rfl _ rfl
    have f89 := (ev_form av 89).symm.trans d89
    refine ⟨(wanted_of (d := 89) (b := true) (want := true) rfl rfl rfl d89), ?_⟩
    refine wp_of_call (v := .agg #[.int .u64 5, .string z, .string z, .string z]) (by simp [go_sem, f91]) (HA5.out wv) (fun w2 hb => ⟨_, rfl, es_of_ext hb, rfl⟩)
  case s12 =>
    refine step_wp (fun av wv hE hS hO hD => ?_)
    have d90 : av.eval (.tmp 90) = (.agg #[.int .u64 5, .string z, .string z, .string z]) := hD.1 rfl _ rfl
    have f90 := (ev_form av 90).symm.trans d90
    have d92 : av.eval (.tmp 92) = (.agg #[.int .u64 5, .string z, .string z, .string z]) := hD.2.1 rfl _ rfl
    have f92 := (ev_form av 92).symm.trans d92
    have d89 : av.eval (.tmp 89) = (.bool true) := hD.2.2.1 rfl _ rfl
    have f89 := (ev_form av 89).symm.trans d89
    refine ⟨(wanted_of (d := 89) (b := true) (want := true) rfl rfl rfl d89), ?_⟩
    exact wp_of_run (v := .slice (some ⟨wv.heap.size, 0, none⟩) 2 2) (w' := wv.alloc (.cells #[.int .u64 5, .string z, .string z, .string z, .int .u64 5, .string z, .string z, .string z] 33)) (by simp [go_sem, f90, f92]) ⟨_, rfl, es_of_ext (balloc (Ext_refl _) _), wv.heap.size, rfl, heap_alloc_new _ _⟩
  case s13 =>
    refine step_wp (fun av wv hE hS hO hD => ?_)
    have d93 : (fun u w' => ∃ b, u = .slice (some ⟨b, 0, none⟩) 2 2 ∧ w'.heap[b]? = some (.cells #[.int .u64 5, .string z, .string z, .string z, .int .u64 5, .string z, .string z, .string z] 33 (0, 0))) (av.eval (.tmp 93)) wv := hD.1 rfl _ rfl
    have d89 : av.eval (.tmp 89) = (.bool true) := hD.2.2.1 rfl _ rfl
    have f89 := (ev_form av 89).symm.trans d89
    refine ⟨(wanted_of (d := 89) (b := true) (want := true) rfl rfl rfl d89), ?_⟩
    obtain ⟨bq, hq, hcq⟩ := d93
    have fq := (ev_form av 93).symm.trans hq
    refine wp_of_call (v := .bool true) (by simp [go_sem, fq]; rfl) (HF5.out wv bq (of_drew hE) hcq) (fun w2 hb => ⟨_, rfl, es_of_ext hb, rfl⟩)
  case s14 =>
    refine step_val (v := (.bool true)) (fun av wv hE hS hO hD => ?_) (fun _ => rfl)
    have d89 : av.eval (.tmp 89) = (.bool true) := hD.1 rfl _ rfl
    have f89 := (ev_form av 89).symm.trans d89
    have d94 : av.eval (.tmp 94) = (.bool true) := hD.2.1 rfl _ rfl
    have f94 := (ev_form av 94).symm.trans d94
    refine ⟨rfl, ?_⟩
    simp [go_sem, f89, f94, sa, sb]
  case s15 =>
    refine step_val (v := (.bool true)) (fun av wv hE hS hO hD => ?_) (fun _ => rfl)
    have d95 : av.eval (.tmp 95) = (.bool true) := hD.1 rfl _ rfl
    have f95 := (ev_form av 95).symm.trans d95
    refine ⟨rfl, ?_⟩
    simp [go_sem, f95, sa, sb]
  case s16 =>
    refine step_val (v := (.agg #[.int .u64 5, .string z, .string z, .string z])) (fun av wv hE hS hO hD => ?_) (fun _ => rfl)
    have h2 : av.eval (.tmp 2) = (.pointer (some ⟨hb, 0, none⟩)) := hO.2.2 2 rfl
    have f2 := (ev_form av 2).symm.trans h2
    have d96 : av.eval (.tmp 96) = (.bool true) := hD.1 rfl _ rfl
    have f96 := (ev_form av 96).symm.trans d96
    have c0 := extB_cell hE (by simp) c0
    have c1 := extB_cell hE (by simp) c1
    have c2 := extB_cell hE (by simp) c2
    have c3 := extB_cell hE (by simp) c3
    refine ⟨(wanted_of (d := 96) (b := true) (want := true) rfl rfl rfl d96), ?_⟩
    simp [go_sem, f2, f96, c0, c1, c2, c3, sa, sb]
  case s17 =>
    refine step_wp (fun av wv hE hS hO hD => ?_)
    have d97 : av.eval (.tmp 97) = (.agg #[.int .u64 5, .string z, .string z, .string z]) := hD.1 rfl _ rfl
    have f97 := (ev_form av 97).symm.trans d97
    have d96 : av.eval (.tmp 96) = (.bool true) := hD.2.1 rfl _ rfl
    have f96 := (ev_form av 96).symm.trans d96
    refine ⟨(wanted_of (d := 96) (b := true) (want := true) rfl rfl rfl d96), ?_⟩
    exact wp_of_run (v := .slice (some ⟨wv.heap.size, 0, none⟩) 1 1) (w' := wv.alloc (.cells #[.int .u64 5, .string z, .string z, .string z] 33)) (by simp [go_sem, f97]) ⟨_, rfl, es_of_ext (balloc (Ext_refl _) _), wv.heap.size, rfl, heap_alloc_new _ _⟩
  case s18 =>
    refine step_wp (fun av wv hE hS hO hD => ?_)
    have d98 : (fun u w' => ∃ b, u = .slice (some ⟨b, 0, none⟩) 1 1 ∧ w'.heap[b]? = some (.cells #[.int .u64 5, .string z, .string z, .string z] 33 (0, 0))) (av.eval (.tmp 98)) wv := hD.1 rfl _ rfl
    have d96 : av.eval (.tmp 96) = (.bool true) := hD.2.1 rfl _ rfl
    have f96 := (ev_form av 96).symm.trans d96
    refine ⟨(wanted_of (d := 96) (b := true) (want := true) rfl rfl rfl d96), ?_⟩
    obtain ⟨bq, hq, hcq⟩ := d98
    have fq := (ev_form av 98).symm.trans hq
    refine wp_of_call (v := .bool true) (by simp [go_sem, fq]; rfl) (HL1.out wv bq (of_drew hE) hcq) (fun w2 hb => ⟨_, rfl, es_of_ext hb, rfl⟩)
  case s19 =>
    refine step_val (v := (.bool true)) (fun av wv hE hS hO hD => ?_) (fun _ => rfl)
    have d96 : av.eval (.tmp 96) = (.bool true) := hD.1 rfl _ rfl
    have f96 := (ev_form av 96).symm.trans d96
    have d99 : av.eval (.tmp 99) = (.bool true) := hD.2.1 rfl _ rfl
    have f99 := (ev_form av 99).symm.trans d99
    refine ⟨rfl, ?_⟩
    simp [go_sem, f96, f99, sa, sb]
  case s20 =>
    refine step_val (v := (.bool true)) (fun av wv hE hS hO hD => ?_) (fun _ => rfl)
    have d100 : av.eval (.tmp 100) = (.bool true) := hD.1 rfl _ rfl
    have f100 := (ev_form av 100).symm.trans d100
    refine ⟨rfl, ?_⟩
    simp [go_sem, f100, sa, sb]
  case s21 =>
    refine step_val (v := (.agg #[.int .u64 5, .string z, .string z, .string z])) (fun av wv hE hS hO hD => ?_) (fun _ => rfl)
    have h2 : av.eval (.tmp 2) = (.pointer (some ⟨hb, 0, none⟩)) := hO.2.2 2 rfl
    have f2 := (ev_form av 2).symm.trans h2
    have d101 : av.eval (.tmp 101) = (.bool true) := hD.1 rfl _ rfl
    have f101 := (ev_form av 101).symm.trans d101
    have c0 := extB_cell hE (by simp) c0
    have c1 := extB_cell hE (by simp) c1
    have c2 := extB_cell hE (by simp) c2
    have c3 := extB_cell hE (by simp) c3
    refine ⟨(wanted_of (d := 101) (b := true) (want := true) rfl rfl rfl d101), ?_⟩
    simp [go_sem, f2, f101, c0, c1, c2, c3, sa, sb]
  case s22 =>
    refine step_val (v := (.string z)) (fun av wv hE hS hO hD => ?_) (fun _ => rfl)
    have h1 : av.eval (.tmp 1) = (.string z) := hO.2.2 1 rfl
    have f1 := (ev_form av 1).symm.trans h1
    have d101 : av.eval (.tmp 101) = (.bool true) := hD.1 rfl _ rfl
    have f101 := (ev_form av 101).symm.trans d101
    refine ⟨(wanted_of (d := 101) (b := true) (want := true) rfl rfl rfl d101), ?_⟩
    simp [go_sem, f1, f101, sa, sb]
  case s23 =>
    refine step_wp (fun av wv hE hS hO hD => ?_)
    have d103 : av.eval (.tmp 103) = (.string z) := hD.1 rfl _ rfl
    have f103 := (ev_form av 103).symm.trans d103
    have d101 : av.eval (.tmp 101) = (.bool true) := hD.2.1 rfl _ rfl
    have f101 := (ev_form av 101).symm.trans d101
    refine ⟨(wanted_of (d := 101) (b := true) (want := true) rfl rfl rfl d101), ?_⟩
    refine wp_of_call (v := .agg #[.int .u64 6, .string z, .string z, .string z]) (by simp [go_sem, f103]) (HA6.out wv) (fun w2 hb => ⟨_, rfl, es_of_ext hb, rfl⟩)
  case s24 =>
    refine step_wp (fun av wv hE hS hO hD => ?_)
    have d102 : av.eval (.tmp 102) = (.agg #[.int .u64 5, .string z, .string z, .string z]) := hD.1 rfl _ rfl
    have f102 := (ev_form av 102).symm.trans d102
    have d104 : av.eval (.tmp 104) = (.agg #[.int .u64 6, .string z, .string z, .string z]) := hD.2.1 rfl _ rfl
    have f104 := (ev_form av 104).symm.trans d104
    have d101 : av.eval (.tmp 101) = (.bool true) := hD.2.2.1 rfl _ rfl
    have f101 := (ev_form av 101).symm.trans d101
    refine ⟨(wanted_of (d := 101) (b := true) (want := true) rfl rfl rfl d101), ?_⟩
    exact wp_of_run (v := .slice (some ⟨wv.heap.size, 0, none⟩) 2 2) (w' := wv.alloc (.cells #[.int .u64 5, .string z, .string z, .string z, .int .u64 6, .string z, .string z, .string z] 33)) (by simp [go_sem, f102, f104]) ⟨_, rfl, es_of_ext (balloc (Ext_refl _) _), wv.heap.size, rfl, heap_alloc_new _ _⟩
  case s25 =>
    refine step_wp (fun av wv hE hS hO hD => ?_)
    have d105 : (fun u w' => ∃ b, u = .slice (some ⟨b, 0, none⟩) 2 2 ∧ w'.heap[b]? = some (.cells #[.int .u64 5, .string z, .string z, .string z, .int .u64 6, .string z, .string z, .string z] 33 (0, 0))) (av.eval (.tmp 105)) wv := hD.1 rfl _ rfl
    have d101 : av.eval (.tmp 101) = (.bool true) := hD.2.2.1 rfl _ rfl
    have f101 := (ev_form av 101).symm.trans d101
    refine ⟨(wanted_of (d := 101) (b := true) (want := true) rfl rfl rfl d101), ?_⟩
    obtain ⟨bq, hq, hcq⟩ := d105
    have fq := (ev_form av 105).symm.trans hq
    refine wp_of_call (v := .bool false) (by simp [go_sem, fq]; rfl) (HL2.out wv bq (of_drew hE) hcq) (fun w2 hb => ⟨_, rfl, es_of_ext hb, rfl⟩)
  case s26 =>
    refine step_val (v := (.bool true)) (fun av wv hE hS hO hD => ?_) (fun _ => rfl)
    have d106 : av.eval (.tmp 106) = (.bool false) := hD.1 rfl _ rfl
    have f106 := (ev_form av 106).symm.trans d106
    have d101 : av.eval (.tmp 101) = (.bool true) := hD.2.1 rfl _ rfl
    have f101 := (ev_form av 101).symm.trans d101
    refine ⟨(wanted_of (d := 101) (b := true) (want := true) rfl rfl rfl d101), ?_⟩
    simp [go_sem, f106, f101, sa, sb]
  case s27 =>
    refine step_val (v := (.bool true)) (fun av wv hE hS hO hD => ?_) (fun _ => rfl)
    have d101 : av.eval (.tmp 101) = (.bool true) := hD.1 rfl _ rfl
    have f101 := (ev_form av 101).symm.trans d101
    have d107 : av.eval (.tmp 107) = (.bool true) := hD.2.1 rfl _ rfl
    have f107 := (ev_form av 107).symm.trans d107
    refine ⟨rfl, ?_⟩
    simp [go_sem, f101, f107, sa, sb]
  case s28 =>
    refine step_val (v := (.bool true)) (fun av wv hE hS hO hD => ?_) (fun _ => rfl)
    have d108 : av.eval (.tmp 108) = (.bool true) := hD.1 rfl _ rfl
    have f108 := (ev_form av 108).symm.trans d108
    refine ⟨rfl, ?_⟩
    simp [go_sem, f108, sa, sb]
  case s29 =>
    refine step_val (v := (.agg #[.int .u64 5, .string z, .string z, .string z])) (fun av wv hE hS hO hD => ?_) (fun _ => rfl)
    have h2 : av.eval (.tmp 2) = (.pointer (some ⟨hb, 0, none⟩)) := hO.2.2 2 rfl
    have f2 := (ev_form av 2).symm.trans h2
    have d109 : av.eval (.tmp 109) = (.bool true) := hD.1 rfl _ rfl
    have f109 := (ev_form av 109).symm.trans d109
    have c0 := extB_cell hE (by simp) c0
    have c1 := extB_cell hE (by simp) c1
    have c2 := extB_cell hE (by simp) c2
    have c3 := extB_cell hE (by simp) c3
    refine ⟨(wanted_of (d := 109) (b := true) (want := true) rfl rfl rfl d109), ?_⟩
    simp [go_sem, f2, f109, c0, c1, c2, c3, sa, sb]
  case s30 =>
    refine step_val (v := (.string d)) (fun av wv hE hS hO hD => ?_) (fun _ => rfl)
    have h5 : av.eval (.tmp 5) = (.string d) := hO.2.2 5 rfl
    have f5 := (ev_form av 5).symm.trans h5
    have d109 : av.eval (.tmp 109) = (.bool true) := hD.1 rfl _ rfl
    have f109 := (ev_form av 109).symm.trans d109
    refine ⟨(wanted_of (d := 109) (b := true) (want := true) rfl rfl rfl d109), ?_⟩
    simp [go_sem, f5, f109, sa, sb]
  case s31 =>
    refine step_wp (fun av wv hE hS hO hD => ?_)
    have d111 : av.eval (.tmp 111) = (.string d) := hD.1 rfl _ rfl
    have f111 := (ev_form av 111).symm.trans d111
    have d109 : av.eval (.tmp 109) = (.bool true) := hD.2.1 rfl _ rfl
    have f109 := (ev_form av 109).symm.trans d109
    refine ⟨(wanted_of (d := 109) (b := true) (want := true) rfl rfl rfl d109), ?_⟩
    refine wp_of_call (v := .agg #[.int .u64 6, .string d, .string z, .string z]) (by simp [go_sem, f111]) (HD6.out wv) (fun w2 hb => ⟨_, rfl, es_of_ext hb, rfl⟩)
  case s32 =>
    refine step_wp (fun av wv hE hS hO hD => ?_)
    have d110 : av.eval (.tmp 110) = (.agg #[.int .u64 5, .string z, .string z, .string z]) := hD.1 rfl _ rfl
    have f110 := (ev_form av 110).symm.trans d110
    have d112 : av.eval (.tmp 112) = (.agg #[.int .u64 6, .string d, .string z, .string z]) := hD.2.1 rfl _ rfl
    have f112 := (ev_form av 112).symm.trans d112
    have d109 : av.eval (.tmp 109) = (.bool true) := hD.2.2.1 rfl _ rfl
    have f109 := (ev_form av 109).symm.trans d109
    refine ⟨(wanted_of (d := 109) (b := true) (want := true) rfl rfl rfl d109), ?_⟩
    exact wp_of_run (v := .slice (some ⟨wv.heap.size, 0, none⟩) 2 2) (w' := wv.alloc (.cells #[.int .u64 5, .string z, .string z, .string z, .int .u64 6, .string d, .string z, .string z] 33)) (by simp [go_sem, f110, f112]) ⟨_, rfl, es_of_ext (balloc (Ext_refl _) _), wv.heap.size, rfl, heap_alloc_new _ _⟩
  case s33 =>
    refine step_wp (fun av wv hE hS hO hD => ?_)
    have d113 : (fun u w' => ∃ b, u = .slice (some ⟨b, 0, none⟩) 2 2 ∧ w'.heap[b]? = some (.cells #[.int .u64 5, .string z, .string z, .string z, .int .u64 6, .string d, .string z, .string z] 33 (0, 0))) (av.eval (.tmp 113)) wv := hD.1 rfl _ rfl
    have d109 : av.eval (.tmp 109) = (.bool true) := hD.2.2.1 rfl _ rfl
    have f109 := (ev_form av 109).symm.trans d109
    refine ⟨(wanted_of (d := 109) (b := true) (want := true) rfl rfl rfl d109), ?_⟩
    obtain ⟨bq, hq, hcq⟩ := d113
    have fq := (ev_form av 113).symm.trans hq
    refine wp_of_call (v := .bool true) (by simp [go_sem, fq]; rfl) (HL3.out wv bq (of_drew hE) hcq) (fun w2 hb => ⟨_, rfl, es_of_ext hb, rfl⟩)
  case s34 =>
    refine step_val (v := (.bool true)) (fun av wv hE hS hO hD => ?_) (fun _ => rfl)
    have d109 : av.eval (.tmp 109) = (.bool true) := hD.1 rfl _ rfl
    have f109 := (ev_form av 109).symm.trans d109
    have d114 : av.eval (.tmp 114) = (.bool true) := hD.2.1 rfl _ rfl
    have f114 := (ev_form av 114).symm.trans d114
    refine ⟨rfl, ?_⟩
    simp [go_sem, f109, f114, sa, sb]
  case s35 =>
    refine step_val (v := (.bool true)) (fun av wv hE hS hO hD => ?_) (fun _ => rfl)
    have d115 : av.eval (.tmp 115) = (.bool true) := hD.1 rfl _ rfl
    have f115 := (ev_form av 115).symm.trans d115
    refine ⟨rfl, ?_⟩
    simp [go_sem, f115, sa, sb]
  case s36 =>
    refine step_val (v := (.int .i64 0)) (fun av wv hE hS hO hD => ?_) (fun _ => rfl)
    have h10 : av.eval (.tmp 10) = (.int .i64 0) := hO.2.2 10 rfl
    have f10 := (ev_form av 10).symm.trans h10
    have d116 : av.eval (.tmp 116) = (.bool true) := hD.1 rfl _ rfl
    have f116 := (ev_form av 116).symm.trans d116
    refine ⟨(wanted_of (d := 116) (b := true) (want := true) rfl rfl rfl d116), ?_⟩
    simp [go_sem, f10, f116, sa, sb]
  case s37 =>
    refine step_val (v := (.bool true)) (fun av wv hE hS hO hD => ?_) (fun _ => rfl)
    have d117 : av.eval (.tmp 117) = (.int .i64 0) := hD.1 rfl _ rfl
    have f117 := (ev_form av 117).symm.trans d117
    have d116 : av.eval (.tmp 116) = (.bool true) := hD.2.1 rfl _ rfl
    have f116 := (ev_form av 116).symm.trans d116
    refine ⟨(wanted_of (d := 116) (b := true) (want := true) rfl rfl rfl d116), ?_⟩
    simp [go_sem, f117, f116, sa, sb]
  case s38 =>
    refine step_val (v := (.bool true)) (fun av wv hE hS hO hD => ?_) (fun _ => rfl)
    have d116 : av.eval (.tmp 116) = (.bool true) := hD.1 rfl _ rfl
    have f116 := (ev_form av 116).symm.trans d116
    have d118 : av.eval (.tmp 118) = (.bool true) := hD.2.1 rfl _ rfl
    have f118 := (ev_form av 118).symm.trans d118
    refine ⟨rfl, ?_⟩
    simp [go_sem, f116, f118, sa, sb]
  case s39 =>
    refine step_val (v := (.bool true)) (fun av wv hE hS hO hD => ?_) (fun _ => rfl)
    have d119 : av.eval (.tmp 119) = (.bool true) := hD.1 rfl _ rfl
    have f119 := (ev_form av 119).symm.trans d119
    refine ⟨rfl, ?_⟩
    simp [go_sem, f119, sa, sb]
  case s40 =>
    refine step_val (v := (.string ta)) (fun av wv hE hS hO hD => ?_) (fun _ => rfl)
    have h9 : av.eval (.tmp 9) = (.string ta) := hO.2.2 9 rfl
    have f9 := (ev_form av 9).symm.trans h9
    have d120 : av.eval (.tmp 120) = (.bool true) := hD.1 rfl _ rfl
    have f120 := (ev_form av 120).symm.trans d120
    refine ⟨(wanted_of (d := 120) (b := true) (want := true) rfl rfl rfl d120), ?_⟩
    simp [go_sem, f9, f120, sa, sb]
  case s41 =>
    refine step_wp (fun av wv hE hS hO hD => ?_)
    have d120 : av.eval (.tmp 120) = (.bool true) := hD.1 rfl _ rfl
    have f120 := (ev_form av 120).symm.trans d120
    refine ⟨(wanted_of (d := 120) (b := true) (want := true) rfl rfl rfl d120), ?_⟩
    refine wp_of_call (v := .string ta) (by simp [go_sem]; rfl) (HNO.out wv) (fun w2 hb => ⟨_, rfl, es_of_ext hb, rfl⟩)
  case s42 =>
    refine step_val (v := (.bool true)) (fun av wv hE hS hO hD => ?_) (fun _ => rfl)
    have d121 : av.eval (.tmp 121) = (.string ta) := hD.1 rfl _ rfl
    have f121 := (ev_form av 121).symm.trans d121
    have d122 : av.eval (.tmp 122) = (.string ta) := hD.2.1 rfl _ rfl
    have f122 := (ev_form av 122).symm.trans d122
    have d120 : av.eval (.tmp 120) = (.bool true) := hD.2.2.1 rfl _ rfl
    have f120 := (ev_form av 120).symm.trans d120
    refine ⟨(wanted_of (d := 120) (b := true) (want := true) rfl rfl rfl d120), ?_⟩
    simp [go_sem, f121, f122, f120, sa, sb]
  case s43 =>
    refine step_val (v := (.bool true)) (fun av wv hE hS hO hD => ?_) (fun _ => rfl)
    have d120 : av.eval (.tmp 120) = (.bool true) := hD.1 rfl _ rfl
    have f120 := (ev_form av 120).symm.trans d120
    have d123 : av.eval (.tmp 123) = (.bool true) := hD.2.1 rfl _ rfl
    have f123 := (ev_form av 123).symm.trans d123
    refine ⟨rfl, ?_⟩
    simp [go_sem, f120, f123, sa, sb]
  case s44 =>
    refine step_val (v := (.bool true)) (fun av wv hE hS hO hD => ?_) (fun _ => rfl)
    have d124 : av.eval (.tmp 124) = (.bool true) := hD.1 rfl _ rfl
    have f124 := (ev_form av 124).symm.trans d124
    refine ⟨rfl, ?_⟩
    simp [go_sem, f124, sa, sb]
  case s45 =>
    refine step_val (v := (.int .i64 0)) (fun av wv hE hS hO hD => ?_) (fun _ => rfl)
    have h12 : av.eval (.tmp 12) = (.int .i64 0) := hO.2.2 12 rfl
    have f12 := (ev_form av 12).symm.trans h12
    have d125 : av.eval (.tmp 125) = (.bool true) := hD.1 rfl _ rfl
    have f125 := (ev_form av 125).symm.trans d125
    refine ⟨(wanted_of (d := 125) (b := true) (want := true) rfl rfl rfl d125), ?_⟩
    simp [go_sem, f12, f125, sa, sb]
  case s46 =>
    refine step_val (v := (.bool true)) (fun av wv hE hS hO hD => ?_) (fun _ => rfl)
    have d126 : av.eval (.tmp 126) = (.int .i64 0) := hD.1 rfl _ rfl
    have f126 := (ev_form av 126).symm.trans d126
    have d125 : av.eval (.tmp 125) = (.bool true) := hD.2.1 rfl _ rfl
    have f125 := (ev_form av 125).symm.trans d125
    refine ⟨(wanted_of (d := 125) (b := true) (want := true) rfl rfl rfl d125), ?_⟩
    simp [go_sem, f126, f125, sa, sb]
  case s47 =>
    refine step_val (v := (.bool true)) (fun av wv hE hS hO hD => ?_) (fun _ => rfl)
    have d125 : av.eval (.tmp 125) = (.bool true) := hD.1 rfl _ rfl
    have f125 := (ev_form av 125).symm.trans d125
    have d127 : av.eval (.tmp 127) = (.bool true) := hD.2.1 rfl _ rfl
    have f127 := (ev_form av 127).symm.trans d127
    refine ⟨rfl, ?_⟩
    simp [go_sem, f125, f127, sa, sb]
  case s48 =>
    refine step_val (v := (.bool true)) (fun av wv hE hS hO hD => ?_) (fun _ => rfl)
    have d128 : av.eval (.tmp 128) = (.bool true) := hD.1 rfl _ rfl
    have f128 := (ev_form av 128).symm.trans d128
    refine ⟨rfl, ?_⟩
    simp [go_sem, f128, sa, sb]
  case s49 =>
    refine step_val (v := (.string tb)) (fun av wv hE hS hO hD => ?_) (fun _ => rfl)
    have h11 : av.eval (.tmp 11) = (.string tb) := hO.2.2 11 rfl
    have f11 := (ev_form av 11).symm.trans h11
    have d129 : av.eval (.tmp 129) = (.bool true) := hD.1 rfl _ rfl
    have f129 := (ev_form av 129).symm.trans d129
    refine ⟨(wanted_of (d := 129) (b := true) (want := true) rfl rfl rfl d129), ?_⟩
    simp [go_sem, f11, f129, sa, sb]
  case s50 =>
    refine step_val (v := (.pointer (some ⟨tp, 0, none⟩))) (fun av wv hE hS hO hD => ?_) (fun _ => rfl)
    have h15 : av.eval (.tmp 15) = (.pointer (some ⟨tp, 0, none⟩)) := hO.2.2 15 rfl
    have f15 := (ev_form av 15).symm.trans h15
    have d129 : av.eval (.tmp 129) = (.bool true) := hD.1 rfl _ rfl
    have f129 := (ev_form av 129).symm.trans d129
    refine ⟨(wanted_of (d := 129) (b := true) (want := true) rfl rfl rfl d129), ?_⟩
    simp [go_sem, f15, f129, sa, sb]
  case s51 =>
    refine step_wp (fun av wv hE hS hO hD => ?_)
    have d131 : av.eval (.tmp 131) = (.pointer (some ⟨tp, 0, none⟩)) := hD.1 rfl _ rfl
    have f131 := (ev_form av 131).symm.trans d131
    have d129 : av.eval (.tmp 129) = (.bool true) := hD.2.1 rfl _ rfl
    have f129 := (ev_form av 129).symm.trans d129
    refine ⟨(wanted_of (d := 129) (b := true) (want := true) rfl rfl rfl d129), ?_⟩
    refine wp_of_call (v := .string tb) (by simp [go_sem, f131]) (HRT.out wv (of_drew hE)) (fun w2 hb => ⟨_, rfl, es_of_ext hb, rfl⟩)
  case s52 =>
    refine step_val (v := (.bool true)) (fun av wv hE hS hO hD => ?_) (fun _ => rfl)
    have d130 : av.eval (.tmp 130) = (.string tb) := hD.1 rfl _ rfl
    have f130 := (ev_form av 130).symm.trans d130
    have d132 : av.eval (.tmp 132) = (.string tb) := hD.2.1 rfl _ rfl
    have f132 := (ev_form av 132).symm.trans d132
    have d129 : av.eval (.tmp 129) = (.bool true) := hD.2.2.1 rfl _ rfl
    have f129 := (ev_form av 129).symm.trans d129
    refine ⟨(wanted_of (d := 129) (b := true) (want := true) rfl rfl rfl d129), ?_⟩
    simp [go_sem, f130, f132, f129, sa, sb]
  case s53 =>
    refine step_val (v := (.bool true)) (fun av wv hE hS hO hD => ?_) (fun _ => rfl)
    have d129 : av.eval (.tmp 129) = (.bool true) := hD.1 rfl _ rfl
    have f129 := (ev_form av 129).symm.trans d129
    have d133 : av.eval (.tmp 133) = (.bool true) := hD.2.1 rfl _ rfl
    have f133 := (ev_form av 133).symm.trans d133
    refine ⟨rfl, ?_⟩
    simp [go_sem, f129, f133, sa, sb]
  case s54 =>
    refine step_val (v := (.bool true)) (fun av wv hE hS hO hD => ?_) (fun _ => rfl)
    have d134 : av.eval (.tmp 134) = (.bool true) := hD.1 rfl _ rfl
    have f134 := (ev_form av 134).symm.trans d134
    refine ⟨rfl, ?_⟩
    simp [go_sem, f134, sa, sb]
  case s55 =>
    refine step_val (v := (.int .i64 2)) (fun av wv hE hS hO hD => ?_) (fun _ => rfl)
    have h14 : av.eval (.tmp 14) = (.int .i64 2) := hO.2.2 14 rfl
    have f14 := (ev_form av 14).symm.trans h14
    have d135 : av.eval (.tmp 135) = (.bool true) := hD.1 rfl _ rfl
    have f135 := (ev_form av 135).symm.trans d135
    refine ⟨(wanted_of (d := 135) (b := true) (want := true) rfl rfl rfl d135), ?_⟩
    simp [go_sem, f14, f135, sa, sb]
  case s56 =>
    refine step_val (v := (.bool true)) (fun av wv hE hS hO hD => ?_) (fun _ => rfl)
    have d136 : av.eval (.tmp 136) = (.int .i64 2) := hD.1 rfl _ rfl
    have f136 := (ev_form av 136).symm.trans d136
    have d135 : av.eval (.tmp 135) = (.bool true) := hD.2.1 rfl _ rfl
    have f135 := (ev_form av 135).symm.trans d135
    refine ⟨(wanted_of (d := 135) (b := true) (want := true) rfl rfl rfl d135), ?_⟩
    simp [go_sem, f136, f135, sa, sb]
  case s57 =>
    refine step_val (v := (.bool true)) (fun av wv hE hS hO hD => ?_) (fun _ => rfl)
    have d135 : av.eval (.tmp 135) = (.bool true) := hD.1 rfl _ rfl
    have f135 := (ev_form av 135).symm.trans d135
    have d137 : av.eval (.tmp 137) = (.bool true) := hD.2.1 rfl _ rfl
    have f137 := (ev_form av 137).symm.trans d137
    refine ⟨rfl, ?_⟩
    simp [go_sem, f135, f137, sa, sb]
  case s58 =>
    refine step_val (v := (.bool true)) (fun av wv hE hS hO hD => ?_) (fun _ => rfl)
    have d138 : av.eval (.tmp 138) = (.bool true) := hD.1 rfl _ rfl
    have f138 := (ev_form av 138).symm.trans d138
    refine ⟨rfl, ?_⟩
    simp [go_sem, f138, sa, sb]
  intro a' w' hE hO hall
  have hA := act_of_outer (ds := [81, 82, 83, 84, 85, 86, 87, 88, 89, 90, 91, 92, 93, 94, 95, 96, 97, 98, 99, 100, 101, 102, 103, 104, 105, 106, 107, 108, 109, 110, 111, 112, 113, 114, 115, 116, 117, 118, 119, 120, 121, 122, 123, 124, 125, 126, 127, 128, 129, 130, 131, 132, 133, 134, 135, 136, 137, 138, 0]) rfl hO (by kernel_rfl)
  have e81 : (fun u _ => u = (.bool true)) (a'.eval (.tmp 81)) w' := hall.1 _ rfl
  have e82 : (fun u _ => u = (.bool true)) (a'.eval (.tmp 82)) w' := hall.2.1 _ rfl
  have e83 : (fun u _ => u = (.agg #[.int .u64 5, .string z, .string z, .string z])) (a'.eval (.tmp 83)) w' := hall.2.2.1 _ rfl
  have e84 : (fun u _ => u = (.string z)) (a'.eval (.tmp 84)) w' := hall.2.2.2.1 _ rfl
  have e85 : (fun u _ => u = (.agg #[.int .u64 7, .string z, .string z, .string z])) (a'.eval (.tmp 85)) w' := hall.2.2.2.2.1 _ rfl
  have e86 : (fun u w' => ∃ b, u = .slice (some ⟨b, 0, none⟩) 2 2 ∧ w'.heap[b]? = some (.cells #[.int .u64 5, .string z, .string z, .string z, .int .u64 7, .string z, .string z, .string z] 33 (0, 0))) (a'.eval (.tmp 86)) w' := hall.2.2.2.2.2.1 _ rfl
  have e87 : (fun u _ => u = (.bool true)) (a'.eval (.tmp 87)) w' := hall.2.2.2.2.2.2.1 _ rfl
  have e88 : (fun u _ => u = (.bool true)) (a'.eval (.tmp 88)) w' := hall.2.2.2.2.2.2.2.1 _ rfl
  have e89 : (fun u _ => u = (.bool true)) (a'.eval (.tmp 89)) w' := hall.2.2.2.2.2.2.2.2.1 _ rfl
  have e90 : (fun u _ => u = (.agg #[.int .u64 5, .string z, .string z, .string z])) (a'.eval (.tmp 90)) w' := hall.2.2.2.2.2.2.2.2.2.1 _ rfl
  have e91 : (fun u _ => u = (.string z)) (a'.eval (.tmp 91)) w' := hall.2.2.2.2.2.2.2.2.2.2.1 _ rfl
  have e92 : (fun u _ => u = (.agg #[.int .u64 5, .string z, .string z, .string z])) (a'.eval (.tmp 92)) w' := hall.2.2.2.2.2.2.2.2.2.2.2.1 _ rfl
  have e93 : (fun u w' => ∃ b, u = .slice (some ⟨b, 0, none⟩) 2 2 ∧ w'.heap[b]? = some (.cells #[.int .u64 5, .string z, .string z, .string z, .int .u64 5, .string z, .string z, .string z] 33 (0, 0))) (a'.eval (.tmp 93)) w' := hall.2.2.2.2.2.2.2.2.2.2.2.2.1 _ rfl
  have e94 : (fun u _ => u = (.bool true)) (a'.eval (.tmp 94)) w' := hall.2.2.2.2.2.2.2.2.2.2.2.2.2.1 _ rfl
  have e95 : (fun u _ => u = (.bool true)) (a'.eval (.tmp 95)) w' := hall.2.2.2.2.2.2.2.2.2.2.2.2.2.2.1 _ rfl
  have e96 : (fun u _ => u = (.bool true)) (a'.eval (.tmp 96)) w' := hall.2.2.2.2.2.2.2.2.2.2.2.2.2.2.2.1 _ rfl
  have e97 : (fun u _ => u = (.agg #[.int .u64 5, .string z, .string z, .string z])) (a'.eval (.tmp 97)) w' := hall.2.2.2.2.2.2.2.2.2.2.2.2.2.2.2.2.1 _ rfl
  have e98 : (fun u w' => ∃ b, u = .slice (some ⟨b, 0, none⟩) 1 1 ∧ w'.heap[b]? = some (.cells #[.int .u64 5, .string z, .string z, .string z] 33 (0, 0))) (a'.eval (.tmp 98)) w' := hall.2.2.2.2.2.2.2.2.2.2.2.2.2.2.2.2.2.1 _ rfl
  have e99 : (fun u _ => u = (.bool true)) (a'.eval (.tmp 99)) w' := hall.2.2.2.2.2.2.2.2.2.2.2.2.2.2.2.2.2.2.1 _ rfl
  have e100 : (fun u _ => u = (.bool true)) (a'.eval (.tmp 100)) w' := hall.2.2.2.2.2.2.2.2.2.2.2.2.2.2.2.2.2.2.2.1 _ rfl
  have e101 : (fun u _ => u = (.bool true)) (a'.eval (.tmp 101)) w' := hall.2.2.2.2.2.2.2.2.2.2.2.2.2.2.2.2.2.2.2.2.1 _ rfl
  have e102 : (fun u _ => u = (.agg #[.int .u64 5, .string z, .string z, .string z])) (a'.eval (.tmp 102)) w' := hall.2.2.2.2.2.2.2.2.2.2.2.2.2.2.2.2.2.2.2.2.2.1 _ rfl
  have e103 : (fun u _ => u = (.string z)) (a'.eval (.tmp 103)) w' := hall.2.2.2.2.2.2.2.2.2.2.2.2.2.2.2.2.2.2.2.2.2.2.1 _ rfl
  have e104 : (fun u _ => u = (.agg #[.int .u64 6, .string z, .string z, .string z])) (a'.eval (.tmp 104)) w' := hall.2.2.2.2.2.2.2.2.2.2.2.2.2.2.2.2.2.2.2.2.2.2.2.1 _ rfl
  have e105 : (fun u w' => ∃ b, u = .slice (some ⟨b, 0, none⟩) 2 2 ∧ w'.heap[b]? = some (.cells #[.int .u64 5, .string z, .string z, .string z, .int .u64 6, .string z, .string z, .string z] 33 (0, 0))) (a'.eval (.tmp 105)) w' := hall.2.2.2.2.2.2.2.2.2.2.2.2.2.2.2.2.2.2.2.2.2.2.2.2.1 _ rfl
  have e106 : (fun u _ => u = (.bool false)) (a'.eval (.tmp 106)) w' := hall.2.2.2.2.2.2.2.2.2.2.2.2.2.2.2.2.2.2.2.2.2.2.2.2.2.1 _ rfl
  have e107 : (fun u _ => u = (.bool true)) (a'.eval (.tmp 107)) w' := hall.2.2.2.2.2.2.2.2.2.2.2.2.2.2.2.2.2.2.2.2.2.2.2.2.2.2.1 _ rfl
  have e108 : (fun u _ => u = (.bool true)) (a'.eval (.tmp 108)) w' := hall.2.2.2.2.2.2.2.2.2.2.2.2.2.2.2.2.2.2.2.2.2.2.2.2.2.2.2.1 _ rfl
  have e109 : (fun u _ => u = (.bool true)) (a'.eval (.tmp 109)) w' := hall.2.2.2.2.2.2.2.2.2.2.2.2.2.2.2.2.2.2.2.2.2.2.2.2.2.2.2.2.1 _ rfl
  have e110 : (fun u _ => u = (.agg #[.int .u64 5, .string z, .string z, .string z])) (a'.eval (.tmp 110)) w' := hall.2.2.2.2.2.2.2.2.2.2.2.2.2.2.2.2.2.2.2.2.2.2.2.2.2.2.2.2.2.1 _ rfl
  have e111 : (fun u _ => u = (.string d)) (a'.eval (.tmp 111)) w' := hall.2.2.2.2.2.2.2.2.2.2.2.2.2.2.2.2.2.2.2.2.2.2.2.2.2.2.2.2.2.2.1 _ rfl
  have e112 : (fun u _ => u = (.agg #[.int .u64 6, .string d, .string z, .string z])) (a'.eval (.tmp 112)) w' := hall.2.2.2.2.2.2.2.2.2.2.2.2.2.2.2.2.2.2.2.2.2.2.2.2.2.2.2.2.2.2.2.1 _ rfl
  have e113 : (fun u w' => ∃ b, u = .slice (some ⟨b, 0, none⟩) 2 2 ∧ w'.heap[b]? = some (.cells #[.int .u64 5, .string z, .string z, .string z, .int .u64 6, .string d, .string z, .string z] 33 (0, 0))) (a'.eval (.tmp 113)) w' := hall.2.2.2.2.2.2.2.2.2.2.2.2.2.2.2.2.2.2.2.2.2.2.2.2.2.2.2.2.2.2.2.2.1 _ rfl
  have e114 : (fun u _ => u = (.bool true)) (a'.eval (.tmp 114)) w' := hall.2.2.2.2.2.2.2.2.2.2.2.2.2.2.2.2.2.2.2.2.2.2.2.2.2.2.2.2.2.2.2.2.2.1 _ rfl
  have e115 : (fun u _ => u = (.bool true)) (a'.eval (.tmp 115)) w' := hall.2.2.2.2.2.2.2.2.2.2.2.2.2.2.2.2.2.2.2.2.2.2.2.2.2.2.2.2.2.2.2.2.2.2.1 _ rfl
  have e116 : (fun u _ => u = (.bool true)) (a'.eval (.tmp 116)) w' := hall.2.2.2.2.2.2.2.2.2.2.2.2.2.2.2.2.2.2.2.2.2.2.2.2.2.2.2.2.2.2.2.2.2.2.2.1 _ rfl
  have e117 : (fun u _ => u = (.int .i64 0)) (a'.eval (.tmp 117)) w' := hall.2.2.2.2.2.2.2.2.2.2.2.2.2.2.2.2.2.2.2.2.2.2.2.2.2.2.2.2.2.2.2.2.2.2.2.2.1 _ rfl
  have e118 : (fun u _ => u = (.bool true)) (a'.eval (.tmp 118)) w' := hall.2.2.2.2.2.2.2.2.2.2.2.2.2.2.2.2.2.2.2.2.2.2.2.2.2.2.2.2.2.2.2.2.2.2.2.2.2.1 _ rfl
  have e119 : (fun u _ => u = (.bool true)) (a'.eval (.tmp 119)) w' := hall.2.2.2.2.2.2.2.2.2.2.2.2.2.2.2.2.2.2.2.2.2.2.2.2.2.2.2.2.2.2.2.2.2.2.2.2.2.2.1 _ rfl
  have e120 : (fun u _ => u = (.bool true)) (a'.eval (.tmp 120)) w' := hall.2.2.2.2.2.2.2.2.2.2.2.2.2.2.2.2.2.2.2.2.2.2.2.2.2.2.2.2.2.2.2.2.2.2.2.2.2.2.2.1 _ rfl
  have e121 : (fun u _ => u = (.string ta)) (a'.eval (.tmp 121)) w' := hall.2.2.2.2.2.2.2.2.2.2.2.2.2.2.2.2.2.2.2.2.2.2.2.2.2.2.2.2.2.2.2.2.2.2.2.2.2.2.2.2.1 _ rfl
  have e122 : (fun u _ => u = (.string ta)) (a'.eval (.tmp 122)) w' := hall.2.2.2.2.2.2.2.2.2.2.2.2.2.2.2.2.2.2.2.2.2.2.2.2.2.2.2.2.2.2.2.2.2.2.2.2.2.2.2.2.2.1 _ rfl
  have e123 : (fun u _ => u = (.bool true)) (a'.eval (.tmp 123)) w' := hall.2.2.2.2.2.2.2.2.2.2.2.2.2.2.2.2.2.2.2.2.2.2.2.2.2.2.2.2.2.2.2.2.2.2.2.2.2.2.2.2.2.2.1 _ rfl
  have e124 : (fun u _ => u = (.bool true)) (a'.eval (.tmp 124)) w' := hall.2.2.2.2.2.2.2.2.2.2.2.2.2.2.2.2.2.2.2.2.2.2.2.2.2.2.2.2.2.2.2.2.2.2.2.2.2.2.2.2.2.2.2.1 _ rfl
  have e125 : (fun u _ => u = (.bool true)) (a'.eval (.tmp 125)) w' := hall.2.2.2.2.2.2.2.2.2.2.2.2.2.2.2.2.2.2.2.2.2.2.2.2.2.2.2.2.2.2.2.2.2.2.2.2.2.2.2.2.2.2.2.2.1 _ rfl
  have e126 : (fun u _ => u = (.int .i64 0)) (a'.eval (.tmp 126)) w' := hall.2.2.2.2.2.2.2.2.2.2.2.2.2.2.2.2.2.2.2.2.2.2.2.2.2.2.2.2.2.2.2.2.2.2.2.2.2.2.2.2.2.2.2.2.2.1 _ rfl
  have e127 : (fun u _ => u = (.bool true)) (a'.eval (.tmp 127)) w' := hall.2.2.2.2.2.2.2.2.2.2.2.2.2.2.2.2.2.2.2.2.2.2.2.2.2.2.2.2.2.2.2.2.2.2.2.2.2.2.2.2.2.2.2.2.2.2.1 _ rfl
  have e128 : (fun u _ => u = (.bool true)) (a'.eval (.tmp 128)) w' := hall.2.2.2.2.2.2.2.2.2.2.2.2.2.2.2.2.2.2.2.2.2.2.2.2.2.2.2.2.2.2.2.2.2.2.2.2.2.2.2.2.2.2.2.2.2.2.2.1 _ rfl
  have e129 : (fun u _ => u = (.bool true)) (a'.eval (.tmp 129)) w' := hall.2.2.2.2.2.2.2.2.2.2.2.2.2.2.2.2.2.2.2.2.2.2.2.2.2.2.2.2.2.2.2.2.2.2.2.2.2.2.2.2.2.2.2.2.2.2.2.2.1 _ rfl
  have e130 : (fun u _ => u = (.string tb)) (a'.eval (.tmp 130)) w' := hall.2.2.2.2.2.2.2.2.2.2.2.2.2.2.2.2.2.2.2.2.2.2.2.2.2.2.2.2.2.2.2.2.2.2.2.2.2.2.2.2.2.2.2.2.2.2.2.2.2.1 _ rfl
  have e131 : (fun u _ => u = (.pointer (some ⟨tp, 0, none⟩))) (a'.eval (.tmp 131)) w' := hall.2.2.2.2.2.2.2.2.2.2.2.2.2.2.2.2.2.2.2.2.2.2.2.2.2.2.2.2.2.2.2.2.2.2.2.2.2.2.2.2.2.2.2.2.2.2.2.2.2.2.1 _ rfl
  have e132 : (fun u _ => u = (.string tb)) (a'.eval (.tmp 132)) w' := hall.2.2.2.2.2.2.2.2.2.2.2.2.2.2.2.2.2.2.2.2.2.2.2.2.2.2.2.2.2.2.2.2.2.2.2.2.2.2.2.2.2.2.2.2.2.2.2.2.2.2.2.1 _ rfl
  have e133 : (fun u _ => u = (.bool true)) (a'.eval (.tmp 133)) w' := hall.2.2.2.2.2.2.2.2.2.2.2.2.2.2.2.2.2.2.2.2.2.2.2.2.2.2.2.2.2.2.2.2.2.2.2.2.2.2.2.2.2.2.2.2.2.2.2.2.2.2.2.2.1 _ rfl
  have e134 : (fun u _ => u = (.bool true)) (a'.eval (.tmp 134)) w' := hall.2.2.2.2.2.2.2.2.2.2.2.2.2.2.2.2.2.2.2.2.2.2.2.2.2.2.2.2.2.2.2.2.2.2.2.2.2.2.2.2.2.2.2.2.2.2.2.2.2.2.2.2.2.1 _ rfl
  have e135 : (fun u _ => u = (.bool true)) (a'.eval (.tmp 135)) w' := hall.2.2.2.2.2.2.2.2.2.2.2.2.2.2.2.2.2.2.2.2.2.2.2.2.2.2.2.2.2.2.2.2.2.2.2.2.2.2.2.2.2.2.2.2.2.2.2.2.2.2.2.2.2.2.1 _ rfl
  have e136 : (fun u _ => u = (.int .i64 2)) (a'.eval (.tmp 136)) w' := hall.2.2.2.2.2.2.2.2.2.2.2.2.2.2.2.2.2.2.2.2.2.2.2.2.2.2.2.2.2.2.2.2.2.2.2.2.2.2.2.2.2.2.2.2.2.2.2.2.2.2.2.2.2.2.2.1 _ rfl
  have e137 : (fun u _ => u = (.bool true)) (a'.eval (.tmp 137)) w' := hall.2.2.2.2.2.2.2.2.2.2.2.2.2.2.2.2.2.2.2.2.2.2.2.2.2.2.2.2.2.2.2.2.2.2.2.2.2.2.2.2.2.2.2.2.2.2.2.2.2.2.2.2.2.2.2.2.1 _ rfl
  have e138 : (fun u _ => u = (.bool true)) (a'.eval (.tmp 138)) w' := hall.2.2.2.2.2.2.2.2.2.2.2.2.2.2.2.2.2.2.2.2.2.2.2.2.2.2.2.2.2.2.2.2.2.2.2.2.2.2.2.2.2.2.2.2.2.2.2.2.2.2.2.2.2.2.2.2.2.1 _ rfl
  have e0 : (fun u _ => u = (.bool true)) (a'.eval (.tmp 0)) w' := hall.2.2.2.2.2.2.2.2.2.2.2.2.2.2.2.2.2.2.2.2.2.2.2.2.2.2.2.2.2.2.2.2.2.2.2.2.2.2.2.2.2.2.2.2.2.2.2.2.2.2.2.2.2.2.2.2.2.2.1 _ rfl
  obtain ⟨v86, hv86⟩ : ∃ v, a'.eval (.tmp 86) = v := ⟨_, rfl⟩
  rw [hv86] at e86
  obtain ⟨v93, hv93⟩ : ∃ v, a'.eval (.tmp 93) = v := ⟨_, rfl⟩
  rw [hv93] at e93
  obtain ⟨v98, hv98⟩ : ∃ v, a'.eval (.tmp 98) = v := ⟨_, rfl⟩
  rw [hv98] at e98
  obtain ⟨v105, hv105⟩ : ∃ v, a'.eval (.tmp 105) = v := ⟨_, rfl⟩
  rw [hv105] at e105
  obtain ⟨v113, hv113⟩ : ∃ v, a'.eval (.tmp 113) = v := ⟨_, rfl⟩
  rw [hv113] at e113
  simp only [List.foldl_cons, List.foldl_nil, Act.put, List.setIfInBounds_toArray, List.set_cons_succ, List.set_cons_zero, e81, e82, e83, e84, e85, hv86, e87, e88, e89, e90, e91, e92, hv93, e94, e95, e96, e97, hv98, e99, e100, e101, e102, e103, e104, hv105, e106, e107, e108, e109, e110, e111, e112, hv113, e114, e115, e116, e117, e118, e119, e120, e121, e122, e123, e124, e125, e126, e127, e128, e129, e130, e131, e132, e133, e134, e135, e136, e137, e138, e0] at hA
  clear hO hall e81 e82 e83 e84 e85 hv86 e87 e88 e89 e90 e91 e92 hv93 e94 e95 e96 e97 hv98 e99 e100 e101 e102 e103 e104 hv105 e106 e107 e108 e109 e110 e111 e112 hv113 e114 e115 e116 e117 e118 e119 e120 e121 e122 e123 e124 e125 e126 e127 e128 e129 e130 e131 e132 e133 e134 e135 e136 e137 e138 e0
  subst hA
  have HBE : Hid (Below w.heap.size w w') := Lib.hid (bnext HB11.out (of_drew hE))
  clear hE
  go_wp2
  go_ret
  exact ⟨rfl, HBE.out⟩
end Go.Proofs.YtpobhbdomldecaaGreatDoor
namespace Go.Proofs.YtpobhbdomldecaaGreatDoor
open Go.RowKit
set_option linter.unusedSimpArgs false
set_option linter.unusedVariables false
theorem txts_one {w : World} {b : Nat} {L : List ByteArray} (h : Txts w (some ⟨b, 0, none⟩) L) {k : Nat} (hk : k < len L) : Txts w (some ⟨b, k, none⟩) [tth L k] := fun i hi => by
  have hi : i < 1 := hi
  obtain rfl : i = 0 := by omega
  obtain ⟨b9, o9, e, hc⟩ := h k hk
  cases e
  rw [Nat.zero_add] at hc
  exact ⟨b, k, rfl, hc⟩
end Go.Proofs.YtpobhbdomldecaaGreatDoor
namespace Go.Proofs.YtpobhbdomldecaaGreatDoor
open Go.RowKit
set_option linter.unusedSimpArgs false
set_option linter.unusedVariables false
structure ChRow (f : Int) (L : List Hdr) (m : Nat) : Prop where
  r : ∀ j : Nat, j < m → (hnth L j).rnd = f + ((j : Nat) : Int)
  k : ∀ j, j < m → hOk (hnth L j) = true
  v : ∀ j, 0 < j → j < m → (hnth L j).prev = hdg (hnth L (j - 1))
theorem ChRow.zero (f : Int) (L : List Hdr) : ChRow f L 0 := ⟨fun j h => by omega, fun j h => by omega, fun j _ h => by omega⟩
theorem ChRow.same {f : Int} {L L' : List Hdr} {m : Nat} (h : ChRow f L m) (e : ∀ j, j < m → hnth L' j = hnth L j) : ChRow f L' m :=
  ⟨fun j hj => by rw [e j hj]; exact h.r j hj, fun j hj => by rw [e j hj]; exact h.k j hj, fun j h0 hj => by rw [e j hj, e (j - 1) (by omega)]; exact h.v j h0 hj⟩
theorem ChRow.next {f : Int} {L : List Hdr} {m : Nat} (h : ChRow f L m) (hr : (hnth L m).rnd = f + ((m : Nat) : Int)) (hk : hOk (hnth L m) = true) (hv : 0 < m → (hnth L m).prev = hdg (hnth L (m - 1))) : ChRow f L (m + 1) :=
  ⟨fun j hj => by
    by_cases e : j = m
    · rw [e]; exact hr
    · exact h.r j (by omega), fun j hj => by
    by_cases e : j = m
    · rw [e]; exact hk
    · exact h.k j (by omega), fun j h0 hj => by
    by_cases e : j = m
    · rw [e]; exact hv (by omega)
    · exact h.v j h0 (by omega)⟩
theorem ChRow.step {f : Int} {L : List Hdr} {m : Nat} (h : ChRow f L m) {j : Nat} (h0 : 0 < j) (hj : j < m) : stepH (hnth L (j - 1)) (hnth L j) = true := by
  unfold stepH
  rw [h.r j hj, h.r (j - 1) (by omega)]
  rw [decide_eq_true (by omega), decide_eq_true (by omega)]
  rfl
theorem ChRow.el {f : Int} {L : List Hdr} (h : ChRow f L (len L)) (h0 : 0 < len L) (hn : len L ≤ 64) : elOk L = true :=
  elOk_of h0 hn (followH_yes (fun i hi hi0 => h.step hi0 hi)) (laysH_yes (fun i hi => h.k i hi))
theorem ChRow.linked {f : Int} {L : List Hdr} (h : ChRow f L (len L)) (h0 : 0 < len L) (hn : len L ≤ 64) : linkedH L = true := by
  unfold linkedH
  rw [h.el h0 hn, followH_yes (fun i hi hi0 => by unfold hangH; exact decide_eq_true (h.v i hi0 hi))]
  rfl
theorem ChRow.turned {f : Int} {L : List Hdr} (h : ChRow f L (len L)) (hn : len L ≤ 64) {k : Nat} (hk : k < len L) {q : Hdr} (hq : q.rnd = (hnth L k).rnd) (hok : hOk q = true) :
    linkedH (L.set k q) = ((decide (k = 0) || decide (q.prev = (hnth L k).prev)) && (decide (k + 1 = len L) || decide ((hnth L (k + 1)).prev = hdg q))) := by
  have hl : len (L.set k q) = len L := hset_len L k q
  have hat : ∀ j, hnth (L.set k q) j = if k = j then q else hnth L j := fun j => hset_at L k j q hk
  have hel : elOk (L.set k q) = true := by
    refine elOk_of (by rw [hl]; omega) (by rw [hl]; exact hn) (followH_yes (fun i hi hi0 => ?_)) (laysH_yes (fun i hi => ?_))
    · rw [hl] at hi
      have hs := h.step hi0 hi
      unfold stepH at hs ⊢
      rw [hat i, hat (i - 1)]
      by_cases e1 : k = i
      · subst e1
        rw [if_pos rfl, if_neg (by omega), hq]; exact hs
      · rw [if_neg e1]
        by_cases e2 : k = i - 1
        · rw [if_pos e2, hq, e2]; exact hs
        · rw [if_neg e2]; exact hs
    · rw [hl] at hi
      rw [hat i]
      split
      · exact hok
      · exact h.k i hi
  unfold linkedH
  rw [hel, Bool.true_and]
  by_cases ha : k = 0 ∨ q.prev = (hnth L k).prev
  · have e1 : (decide (k = 0) || decide (q.prev = (hnth L k).prev)) = true := by
      rcases ha with ha | ha <;> simp [ha]
    rw [e1, Bool.true_and]
    by_cases hb : k + 1 = len L ∨ (hnth L (k + 1)).prev = hdg q
    · have e2 : (decide (k + 1 = len L) || decide ((hnth L (k + 1)).prev = hdg q)) = true := by
        rcases hb with hb | hb <;> simp [hb]
      rw [e2]
      refine followH_yes (fun i hi hi0 => ?_)
      rw [hl] at hi
      unfold hangH
      rw [hat i, hat (i - 1)]
      by_cases c1 : k = i
      · subst c1
        rw [if_pos rfl, if_neg (by omega)]
        rcases ha with ha | ha
        · omega
        · exact decide_eq_true (by rw [ha]; exact h.v k hi0 hi)
      · rw [if_neg c1]
        by_cases c2 : k = i - 1
        · rw [if_pos c2]
          rcases hb with hb | hb
          · omega
          · exact decide_eq_true (by rw [show i = k + 1 by omega]; exact hb)
        · rw [if_neg c2]
          exact decide_eq_true (h.v i hi0 hi)
    · have hb1 : ¬ k + 1 = len L := fun e => hb (.inl e)
      have hb2 : ¬ (hnth L (k + 1)).prev = hdg q := fun e => hb (.inr e)
      rw [decide_eq_false hb1, decide_eq_false hb2]
      refine followH_no (i := k + 1) (by rw [hl]; omega) (by omega) ?_
      unfold hangH
      rw [hat (k + 1), hat (k + 1 - 1), if_neg (by omega), if_pos (by omega)]
      exact decide_eq_false hb2
  · have ha1 : ¬ k = 0 := fun e => ha (.inl e)
    have ha2 : ¬ q.prev = (hnth L k).prev := fun e => ha (.inr e)
    rw [decide_eq_false ha1, decide_eq_false ha2]
    refine followH_no (i := k) (by rw [hl]; exact hk) (by omega) ?_
    unfold hangH
    rw [hat k, hat (k - 1), if_pos rfl, if_neg (by omega)]
    exact decide_eq_false (fun e => ha2 (by rw [e, h.v k (by omega) hk]))
theorem run_cut (a : Option Addr) (n c k : Nat) (h : k ≤ n) (hc : n ≤ c) (h0 : a = none → c = 0) (w : World) : (Instr.slice 22 (.slice a n c) none (some (.int .i64 (k : Nat))) none).run Tryz.prog w = .ok (.slice a k c) w := by
  have h1 : k ≤ c := by omega
  cases a with
  | none =>
    have hz := h0 rfl
    subst hz
    obtain rfl : k = 0 := by omega
    simp [go_sem]
  | some p => simp [go_sem, h1]
theorem hdrs_cells {w : World} {ad : Addr} {l : List Hdr} (h : Hdrs w (some ad) l) : ∀ j u, (l.flatMap Hdr.cells)[j]? = some u → w.cell? (ad.add j) = some u := by
  intro j u hu
  have hj : j < l.length * 4 := by
    have := (List.getElem?_eq_some_iff.1 hu).1
    rwa [flat_length Hdr.cells 4 Hdr.cells_len] at this
  have hi : j / 4 < l.length := by omega
  have e : j = j / 4 * 4 + j % 4 := by omega
  rw [e, flat_get Hdr.cells 4 Hdr.cells_len l (j / 4) (j % 4) hi (by omega)] at hu
  obtain ⟨b, off, ea, ⟨c0, c1, c2, c3⟩⟩ := h (j / 4) hi
  cases ea
  rw [hnth_eq l _ hi] at c0 c1 c2 c3
  have hr : j % 4 = 0 ∨ j % 4 = 1 ∨ j % 4 = 2 ∨ j % 4 = 3 := by omega
  have ga : (⟨b, off, none⟩ : Addr).add j = ⟨b, off + j, none⟩ := by
    by_cases hj0 : j = 0
    · subst hj0; simp [Addr.add]
    · simp [Addr.add, hj0]
  rw [ga]
  rcases hr with r | r | r | r <;> rw [r] at hu <;> cases hu
  · rw [show off + j = off + j / 4 * 4 by omega]; exact c0
  · rw [show off + j = off + j / 4 * 4 + 1 by omega]; exact c1
  · rw [show off + j = off + j / 4 * 4 + 2 by omega]; exact c2
  · rw [show off + j = off + j / 4 * 4 + 3 by omega]; exact c3
theorem hdrs_ones (l : List Hdr) : ∀ u ∈ l.flatMap Hdr.cells, u.oneCell' = true := by
  intro u hu
  obtain ⟨x, _, h⟩ := List.mem_flatMap.1 hu
  exact Hdr.cells_one x u h
theorem wpList_append_hdrs {w : World} {ops : Array Oper} {rest : List Oper} {o : Oper} {a : Act} {Q : Exit → Act → World → Prop} (hgd : o.guard = none) (s x : Operand)
    (ho : o.op = .call { callee := .builtin .append, args := #[s, x], argTypes := #[22, 22] })
    (base : Nat) (v : Value) (l : List Hdr) (ad : Addr) (c : Nat) (hs : a.eval s = v) (hown : w.ownsRow base 33 4 v 0 [])
    (hx : a.eval x = .slice (some ad) (len l) c) (hl : Hdrs w (some ad) l) (hlen : len l ≤ 100000) (hbase : base ≤ w.heap.size)
    (h : ∀ v' w', w'.ownsRow base 33 4 v' (len l) (l.flatMap Hdr.cells) → w.grownBy w' v.ownBlock → wpList Tryz.prog ops Q rest (a.put o.dst v') w') : wpList Tryz.prog ops Q (o :: rest) a w := by
  obtain ⟨i0, hi, hz0, hz1, hz2⟩ := info_parts info_hdr
  refine wpList_append_own _ hgd s x 22 ho base 33 i0 Hdr.zero.val 4 56 Tryz.underlying22 hi hz0 hz1 hz2 rfl (by decide) v _ _ hs hown ad (len l) c (l.flatMap Hdr.cells) hx (by rw [flat_length Hdr.cells 4 Hdr.cells_len]; rfl) (hdrs_cells hl) (hdrs_ones l) (by unfold maxLen; omega) (by omega) hbase ?_
  intro v' w' h1 h2 _
  refine h v' w' ?_ h2
  simpa using h1
set_option maxRecDepth 100000 in
theorem dig23L_any (s : ByteArray) (w : World) (hs : s.size ≤ 9223372036854775807) : Calls Tryz.prog 26 #[.string s] w fun e w' => e = .returned (.string (digT s)) ∧ Below w.heap.size w w' := by
  obtain ⟨q, hq⟩ : ∃ q : Nat, min s.size 32 = q := ⟨_, rfl⟩
  obtain ⟨t, ht⟩ : ∃ t, s.extract 0 q = t := ⟨_, rfl⟩
  have hts : t.size = q := by rw [← ht, ByteArray.size_extract]; omega
  have HE : Hid (digT s = t ++ zerN (32 - q)) := Lib.hid (by unfold digT; rw [hq, ht])
  obtain ⟨k, hk⟩ : ∃ k, 32 - q = k := ⟨_, rfl⟩
  rw [hk] at HE
  have hk32 : k ≤ 32 := by omega
  obtain ⟨W', mk, hb, cv⟩ := make_zb k ((k : Nat) : Int) rfl (by omega) w
  have HB := Lib.hid hb
  have mn : min ((s.size : Nat) : Int) 32 = ((q : Nat) : Int) := by omega
  have qs : q ≤ s.size := by omega
  have qs2 : ¬ s.size < q := by omega
  have sb : IntKind.i64.wrap (32 - ((q : Nat) : Int)) = ((k : Nat) : Int) := by rw [IntWalk.i64_in _ (by omega)]; omega
  have hzs : (zerN k).size = k := zerN_size k
  clear hq hk hb
  go_enter Tryz.func26, Tryz.ntmps26
  go_wp2
  go_ret
  exact ⟨by rw [HE.out]; rfl, HB.out⟩
end Go.Proofs.YtpobhbdomldecaaGreatDoor
namespace Go.Proofs.YtpobhbdomldecaaGreatDoor
open Go.RowKit
set_option linter.unusedSimpArgs false
set_option linter.unusedVariables false
theorem own_other {w : World} {b1 b2 e1 e2 s1 s2 n m : Nat} {u v : Value} {xs ys : List Value} (h1 : w.ownsRow b1 e1 s1 u n xs) (h2 : w.ownsRow b2 e2 s2 v m ys) (he : e1 ≠ e2) : u.ownBlock = none ∨ u.ownBlock ≠ v.ownBlock := by
  rcases h1.2 with ⟨rfl, _⟩ | ⟨g, cap, cur, rfl, _, hg, _⟩
  · exact .inl rfl
  · refine .inr fun e => ?_
    rcases h2.2 with ⟨rfl, _⟩ | ⟨g2, cap2, cur2, rfl, _, hg2, _⟩
    · cases e
    · have e' : g = g2 := by simpa [Value.ownBlock] using e
      subst e'
      rw [hg] at hg2
      cases hg2
      exact he rfl
end Go.Proofs.YtpobhbdomldecaaGreatDoor
