/- The reference of layer 8: Needs. -/
import Derived.Test.YtbeppkokkbgddaaRefN
import Derived.Test.YtbeppkokkbgddaaNeedsC
import Derived.Test.YtbeppkokkbgddaaPlaces
namespace Go.Proofs.Ytbeppkokkbgddaa
open Go.RowKit
set_option linter.unusedSimpArgs false
set_option linter.unusedVariables false

/-- A rising row of the call's own. -/
def Kn (W : World) (base : Nat) (v : Value) (l : List Int) : Prop := Rising l ∧ W.ownsRow base 22 1 v (len l) (l.map (Value.int .u64))
theorem Kn.nil (W : World) (base : Nat) : Kn W base (.slice none 0 0) [] := ⟨List.Pairwise.nil, World.ownsRow_nil _ _ _ _⟩
theorem Kn.below {W W' : World} {base : Nat} {v : Value} {l : List Int} (h : Kn W base v l) (hb : Below W.heap.size W W') : Kn W' base v l := ⟨h.1, own_below h.2 hb⟩
theorem Kn.shape {W : World} {base : Nat} {v : Value} {l : List Int} (h : Kn W base v l) : ∃ a cap, v = .slice a (len l) cap ∧ U64s W a l := by
  obtain ⟨a, cap, h1, h2, _⟩ := own_u64 h.2; exact ⟨a, cap, h1, h2⟩
theorem putk_any (base : Nat) (v0 : Value) (l : List Int) (k : Int) (w : World) (h : Kn w base v0 l) (hlen : len l ≤ 1000) (hbase : base ≤ w.heap.size) :
    Calls Try.prog 47 #[v0, .int .u64 k] w fun e w' => ∃ v l', e = .returned v ∧ Kn w' base v l' ∧ (∀ x, x ∈ l' ↔ x ∈ l ∨ x = k) ∧ len l' ≤ len l + 1 ∧ Below w.heap.size w w' :=
  (put_any base v0 l k w h.2 h.1 hlen hbase).mono (fun e w' ⟨v, l', h1, h2, h3, h4, h5, h6⟩ => ⟨v, l', h1, ⟨h2, h5⟩, h3, h4, h6⟩)

theorem has_one (a : Option Addr) (cap : Nat) (k : Int) (l : List Int) (w : World) (hlen : len l ≤ 9223372036854775807) (hc : U64s w a l) :
    Calls Try.prog 48 #[.slice a (len l) cap, .int .u64 k] w fun e w' => e = .returned (.bool (memB k l)) ∧ w = w' :=
  (has_any a cap k l w hlen hc).mono (fun e w' h => ⟨h.1, h.2.symm⟩)

theorem take_mem_succ {l : List Int} {m : Nat} (h : m < len l) (x : Int) : x ∈ l.take (m + 1) ↔ x ∈ l.take m ∨ x = nth l m := by
  have h' : m < l.length := h
  rw [List.take_succ_eq_append_getElem h', List.mem_append, List.mem_singleton, nth_eq l m h']
theorem take_all (l : List Int) : l.take (len l) = l := List.take_length
theorem rising_nodup {l : List Int} (h : Rising l) : l.Nodup := h.imp (fun h e => by omega)
theorem rising_len {a b : List Int} (ha : Rising a) (h : ∀ x, x ∈ a → x ∈ b) : len a ≤ len b := nodup_len a b (rising_nodup ha) h

/-- What a level lacks, and what the next one knows, as far as the places have come. -/
def Fill (kn nd nx : List Int) (m : Nat) : Prop := (∀ x, x ∈ nd ↔ (∃ j ∈ kn.take m, x = sib j) ∧ x ∉ kn) ∧ (∀ x, x ∈ nx ↔ ∃ j ∈ kn.take m, x = j / 2) ∧ len nd ≤ m ∧ len nx ≤ m
theorem Fill.start (kn : List Int) : Fill kn [] [] 0 := ⟨fun x => by simp, fun x => by simp, Nat.le_refl _, Nat.le_refl _⟩
theorem Fill.step {kn nd nx nd' nx' : List Int} {m : Nat} (h : Fill kn nd nx m) (hm : m < len kn) (h1 : ∀ x, x ∈ nd' ↔ x ∈ nd ∨ (x = sib (nth kn m) ∧ x ∉ kn)) (h2 : ∀ x, x ∈ nx' ↔ x ∈ nx ∨ x = nth kn m / 2) (l1 : len nd' ≤ len nd + 1) (l2 : len nx' ≤ len nx + 1) : Fill kn nd' nx' (m + 1) := by
  refine ⟨fun x => ?_, fun x => ?_, by have := h.2.2.1; omega, by have := h.2.2.2; omega⟩
  · rw [h1, h.1]
    constructor
    · rintro (⟨⟨j, hj, e⟩, hx⟩ | ⟨e, hx⟩)
      · exact ⟨⟨j, (take_mem_succ hm j).2 (.inl hj), e⟩, hx⟩
      · exact ⟨⟨_, (take_mem_succ hm _).2 (.inr rfl), e⟩, hx⟩
    · rintro ⟨⟨j, hj, e⟩, hx⟩
      rcases (take_mem_succ hm j).1 hj with hj | rfl
      · exact .inl ⟨⟨j, hj, e⟩, hx⟩
      · exact .inr ⟨e, hx⟩
  · rw [h2, h.2.1]
    constructor
    · rintro (⟨j, hj, e⟩ | e)
      · exact ⟨j, (take_mem_succ hm j).2 (.inl hj), e⟩
      · exact ⟨_, (take_mem_succ hm _).2 (.inr rfl), e⟩
    · rintro ⟨j, hj, e⟩
      rcases (take_mem_succ hm j).1 hj with hj | rfl
      · exact .inl ⟨j, hj, e⟩
      · exact .inr e
theorem Fill.row {kn nd nx : List Int} (h : Fill kn nd nx (len kn)) (hr : Rising nd) : nd = rowK kn := by
  refine rising_eq hr (srt_rising (needK_nodup kn)) (fun k => ?_)
  rw [h.1, take_all]
  unfold rowK
  rw [srt_mem, needK_mem]

/-- The places known at a level. -/
def At (leaves : List Int) (lv : Nat) (kn : List Int) : Prop := ∀ x, x ∈ kn ↔ ∃ j ∈ leaves, x = j / 2 ^ lv
theorem At.row {leaves kn : List Int} {lv : Nat} (h : At leaves lv kn) : rowK kn = rowK (insAll (leaves.map (· / 2 ^ lv))) := rowK_same (fun k => by
  rw [h k, (insAll_all _).2.1, List.mem_map]
  constructor
  · rintro ⟨j, hj, e⟩; exact ⟨j, hj, e.symm⟩
  · rintro ⟨j, hj, e⟩; exact ⟨j, hj, e.symm⟩)
theorem At.next {leaves kn nd nx : List Int} {lv : Nat} (h : At leaves lv kn) (hf : Fill kn nd nx (len kn)) : At leaves (lv + 1) nx := fun x => by
  have hp : ∀ j : Int, j / 2 ^ lv / 2 = j / 2 ^ (lv + 1) := fun j => by
    rw [Int.pow_succ, Int.ediv_ediv_of_nonneg (Int.pow_nonneg (by decide))]
  rw [hf.2.1, take_all]
  constructor
  · rintro ⟨j, hj, rfl⟩
    obtain ⟨i, hi, rfl⟩ := (h j).1 hj
    exact ⟨i, hi, hp i⟩
  · rintro ⟨i, hi, rfl⟩
    exact ⟨i / 2 ^ lv, (h _).2 ⟨i, hi, rfl⟩, (hp i).symm⟩
theorem At.u64 {leaves kn : List Int} {lv : Nat} (h : At leaves lv kn) (hu : ∀ k ∈ leaves, U64 k) : ∀ k ∈ kn, U64 k := by
  intro k hk
  obtain ⟨j, hj, rfl⟩ := (h k).1 hk
  have := hu j hj
  unfold U64 at this ⊢
  have hp : (0 : Int) < 2 ^ lv := Int.pow_pos (by decide)
  exact ⟨Int.ediv_nonneg this.1 (by omega), Int.le_trans (Int.ediv_le_self _ this.1) this.2⟩
theorem rowsOf_succ (leaves : List Int) (lv : Nat) : rowsOf leaves (lv + 1) = rowsOf leaves lv ++ [rowK (insAll (leaves.map (· / 2 ^ lv)))] := by
  simp [rowsOf, List.range_succ]

theorem kn_grow {W X w1 : World} {base b2 n : Nat} {v vo : Value} {l : List Int} {xs : List Value} (h : Kn W base v l) (hb : Below W.heap.size W X) (hq : X.ownsRow b2 28 1 vo n xs) (hg : X.grownBy w1 vo.ownBlock) : Kn w1 base v l :=
  ⟨h.1, (own_below h.2 hb).kept hg (own_apart (own_below h.2 hb) hq (by decide))⟩
theorem rows_grow {X w1 : World} {base b2 n : Nat} {vo : Value} {xs vals : List Value} {rs : List (List Int)} (h : RowsAre X base vals rs) (hq : X.ownsRow b2 28 1 vo n xs) (hg : X.grownBy w1 vo.ownBlock) : RowsAre w1 base vals rs :=
  h.kept hg (fun i u hu => by
    rcases hq.2 with ⟨e, _⟩ | ⟨g, cap, cur, e, _, hgb, _⟩
    · rw [e]; cases h : u.ownBlock <;> simp [Value.ownBlock]
    · rw [e]; exact h.apart hgb (by decide) i u hu)

/-- The rows laid so far. -/
def Laid8 (W : World) (base : Nat) (v : Value) (rs : List (List Int)) : Prop := ∃ vals : List Value, W.ownsRow base 28 1 v vals.length vals ∧ RowsAre W base vals rs
theorem Laid8.nil (W : World) (base : Nat) : Laid8 W base (.slice none 0 0) [] := ⟨[], World.ownsRow_nil _ _ _ _, RowsAre.nil _ _⟩
theorem Laid8.below {W W' : World} {base : Nat} {v : Value} {rs : List (List Int)} (h : Laid8 W base v rs) (hb : Below W.heap.size W W') : Laid8 W' base v rs := by
  obtain ⟨vals, h1, h2⟩ := h; exact ⟨vals, own_below h1 hb, h2.below hb⟩

/-- What the second loop holds. -/
def Lev8 (leaves : List Int) (w : World) (lv : Nat) (vk vo : Value) (wr : World) : Prop := ∃ kn, Kn wr w.heap.size vk kn ∧ At leaves lv kn ∧ len kn ≤ 100 ∧ Laid8 wr w.heap.size vo (rowsOf leaves lv) ∧ Below w.heap.size w wr
/-- What the inner loop holds. -/
def In8 (w W : World) (kn : List Int) (m : Nat) (vd vx : Value) (wr : World) : Prop := ∃ nd nx, Kn wr w.heap.size vd nd ∧ Kn wr w.heap.size vx nx ∧ Fill kn nd nx m ∧ Below W.heap.size W wr

set_option maxRecDepth 100000 in
set_option maxHeartbeats 4000000 in
theorem refNeeds_any (a : Option Addr) (cap : Nat) (leaves : List Int) (d : Int) (w : World) (hl : U64s w a leaves) (hlen : len leaves ≤ 100) (hu : ∀ k ∈ leaves, U64 k) :
    Calls Try.prog 24 #[.slice a (len leaves) cap, .int .i64 d] w (NeedsIs (needsL leaves d) w) := by
  have HL := Lib.hid hl
  have HU := Lib.hid hu
  clear hl hu
  by_cases hd : d < 0 ∨ 16 < d ∨ len leaves = 0
  · have E : Hid (needsL leaves d = []) := Lib.hid (by unfold needsL; rw [if_neg (fun h => by have := h.1; have := h.2.1; have := h.2.2.1; omega)])
    by_cases h1 : d < 0
    · have e1 : decide (d < 0) = true := decide_eq_true h1
      go_enter Try.func24, Try.ntmps24
      go_wp2
      go_ret
      exact needsIs_nil E.out (Below.refl _ _)
    · by_cases h2 : 16 < d
      · have e1 : decide (d < 0) = false := decide_eq_false h1
        have e2 : decide (16 < d) = true := decide_eq_true h2
        go_enter Try.func24, Try.ntmps24
        go_wp2
        go_ret
        exact needsIs_nil E.out (Below.refl _ _)
      · have e1 : decide (d < 0) = false := decide_eq_false h1
        have e2 : decide (16 < d) = false := decide_eq_false h2
        have e3 : ((len leaves : Int) == 0) = true := by simp; omega
        go_enter Try.func24, Try.ntmps24
        go_wp2
        go_ret
        exact needsIs_nil E.out (Below.refl _ _)
  obtain ⟨e, rfl⟩ := Int.eq_ofNat_of_zero_le (a := d) (by omega)
  have he16 : e ≤ 16 := by omega
  have hl0 : 0 < len leaves := by omega
  have p16 : 2 ^ e ≤ 65536 := Nat.pow_le_pow_right (n := 2) (by decide) he16
  have e1 : decide ((e : Int) < 0) = false := decide_eq_false (by omega)
  have e2 : decide ((16 : Int) < (e : Int)) = false := decide_eq_false (by omega)
  have e3 : ((len leaves : Int) == 0) = false := by simp; omega
  have N1 : Hid (farB leaves e = true → needsL leaves e = []) := Lib.hid (fun h => by unfold needsL; rw [Int.toNat_natCast, if_neg (fun hh => by rw [h] at hh; exact absurd hh.2.2.2 (by decide))])
  have N2 : Hid (farB leaves e = false → needsL leaves e = rowsOf leaves e) := Lib.hid (fun h => by unfold needsL; rw [Int.toNat_natCast, if_pos ⟨by omega, by omega, hl0, h⟩])
  have F1 : Hid ((∃ k ∈ leaves, ((2 ^ e : Nat) : Int) ≤ k) → farB leaves e = true) := Lib.hid (fun ⟨k, hk, h⟩ => decide_eq_true ⟨k, hk, by rw [pow_cast]; exact h⟩)
  have F2 : Hid ((∀ k ∈ leaves, k < ((2 ^ e : Nat) : Int)) → farB leaves e = false) := Lib.hid (fun h => decide_eq_false (fun ⟨k, hk, h2⟩ => by rw [pow_cast] at h2; have := h k hk; omega))
  obtain ⟨p, hp⟩ : ∃ p : Nat, 2 ^ e = p := ⟨_, rfl⟩
  have hw : IntKind.u64.wrap ((2 : Int) ^ e) = (p : Int) := by rw [pow_cast, IntKind.wrap_u64, hp]; omega
  rw [hp] at p16 F1 F2
  clear hp hd
  go_enter Try.func24, Try.ntmps24
  go_wp2
  go_loopg [5, 6] (len leaves) (fun g v i wr => ∃ m : Nat, g + m = len leaves ∧ i = .int .i64 m ∧ Below w.heap.size w wr ∧ Hid (∃ kn, Kn wr w.heap.size v kn ∧ (∀ x, x ∈ kn ↔ x ∈ leaves.take m) ∧ len kn ≤ m ∧ ∀ x ∈ leaves.take m, x < (p : Int)))
  case atStart => exact ⟨0, rfl, rfl, Below.refl _ _, ⟨[], Kn.nil _ _, fun x => by simp, Nat.le_refl _, fun x h => by simp at h⟩⟩
  case round =>
    obtain ⟨m, hm, rfl, hb, hk⟩ := hrel
    by_cases hlt : m < len leaves
    · obtain ⟨b, off, rfl, hcell⟩ := (HL.out.below hb) m hlt
      have hmem : nth leaves m ∈ leaves := by rw [nth_eq leaves m hlt]; exact List.getElem_mem _
      by_cases hf : (p : Int) ≤ nth leaves m
      · have hf' : decide ((p : Int) ≤ nth leaves m) = true := decide_eq_true hf
        have E : Hid (needsL leaves e = []) := Lib.hid (N1.out (F1.out ⟨_, hmem, hf⟩))
        clear hmem
        go_wp2_with fail
        go_quiet (fail)
        go_wp2
        go_ret
        exact needsIs_nil E.out (by (repeat (first | exact Below.refl _ _ | assumption | (refine bdrew ?_) | (refine bdrewN ?_ _) | (refine balloc ?_ _) | (refine bset ?_ (by first | omega | (simp; done) | (simp; omega)) _) | (refine bnext ?_ (by assumption)))))
      · have hf' : decide ((p : Int) ≤ nth leaves m) = false := decide_eq_false hf
        have HF := Lib.hid hf
        clear hmem hf
        go_upto_region 9 with (go_quiet (fail))
        obtain ⟨kn, h1, h2, h3, h4⟩ := hk.out
        clear hk
        have hdw := fun n => Kn.below h1 (below_drewN (Below.refl _ wr) n)
        go_wp2_with fail
        refine (putk_any w.heap.size _ kn (nth leaves m) _ (by first | exact h1 | exact hdw _ | exact Kn.below h1 (by (repeat (first | exact Below.refl _ _ | assumption | (refine bdrew ?_) | (refine bdrewN ?_ _) | (refine balloc ?_ _) | (refine bset ?_ (by first | omega | (simp; done) | (simp; omega)) _) | (refine bnext ?_ (by assumption)))))) (by omega) (by first | exact hb.size | (have := hb.size; simp; omega))).mono ?_
        rintro x w1 ⟨v1, kn1, rfl, k1, k2, k3, k4⟩
        have B1 : Hid (Below w.heap.size w w1) := Lib.hid (bnext (by (repeat (first | exact Below.refl _ _ | assumption | (refine bdrew ?_) | (refine bdrewN ?_ _) | (refine balloc ?_ _) | (refine bset ?_ (by first | omega | (simp; done) | (simp; omega)) _) | (refine bnext ?_ (by assumption))))) k4)
        have K1 : Hid (∃ kn, Kn w1 w.heap.size v1 kn ∧ (∀ x, x ∈ kn ↔ x ∈ leaves.take (m + 1)) ∧ len kn ≤ m + 1 ∧ ∀ x ∈ leaves.take (m + 1), x < (p : Int)) := Lib.hid ⟨kn1, k1, fun x => by rw [k2, h2, take_mem_succ hlt], by omega, fun x hx => by
          rcases (take_mem_succ hlt x).1 hx with hx | rfl
          · exact h4 x hx
          · have := HF.out; omega⟩
        clear k1 k2 k3 k4 h1 h2 h3 h4 hdw
        go_wp2
        go_roundg (len leaves - (m + 1))
        case rel => exact ⟨m + 1, by omega, by go_num, B1.out, K1.out⟩
        case measure => omega
    · obtain rfl : m = len leaves := by omega
      obtain ⟨kn, h1, h2, h3, h4⟩ := hk.out
      have K := Lib.hid (show _ ∧ At leaves 0 kn ∧ len kn ≤ 100 from ⟨h1, fun x => by rw [h2, take_all]; simp, by omega⟩)
      have E : Hid (needsL leaves e = rowsOf leaves e) := Lib.hid (N2.out (F2.out (by intro k hk2; exact h4 k (by rw [take_all]; exact hk2))))
      clear h1 h2 h3 h4 hk hw N1 N2 F1 F2
      go_wp2
      go_loopg [5, 7, 8] e (fun g vk vo i wx => ∃ lv : Nat, g + lv = e ∧ i = .int .i64 lv ∧ Hid (Lev8 leaves w lv vk vo wx))
      case atStart => exact ⟨0, rfl, rfl, ⟨kn, K.out.1, K.out.2.1, K.out.2.2, Laid8.nil _ _, hb⟩⟩
      case round =>
        clear K
        obtain ⟨lv, hlv, rfl, hk⟩ := hrel
        obtain ⟨kn, k1, k2, k3, k4, k5⟩ := hk.out
        by_cases hle : lv < e
        · obtain ⟨GK, hGK⟩ : ∃ G, G = gk := ⟨_, rfl⟩
          subst hGK
          obtain ⟨W1, hW1⟩ : ∃ W, W = wr := ⟨_, rfl⟩
          subst hW1
          obtain ⟨ak, ck, hvk, hku⟩ := k1.shape
          subst hvk
          have K1 := Lib.hid k1
          have K2 := Lib.hid k2
          have K4 := Lib.hid k4
          have K5 := Lib.hid k5
          have KU := Lib.hid hku
          have KI := Lib.hid (k2.u64 HU.out)
          clear k1 k2 k4 k5 hk hku
          go_wp2
          go_loopg [9, 10, 11] (len kn) (fun g vd vx i wy => ∃ m : Nat, g + m = len kn ∧ i = .int .i64 m ∧ Hid (In8 w W1 kn m vd vx wy))
          case atStart => exact ⟨0, rfl, rfl, ⟨[], [], Kn.nil _ _, Kn.nil _ _, Fill.start kn, Below.refl _ _⟩⟩
          case round =>
            obtain ⟨m, hm2, rfl, hin⟩ := hrel
            obtain ⟨nd, nx, n1, n2, n3, n4⟩ := hin.out
            have M1 := Lib.hid n1
            have M2 := Lib.hid n2
            have M3 := Lib.hid n3
            have M4 := Lib.hid n4
            clear hin n1 n2 n3 n4
            by_cases hltm : m < len kn
            · obtain ⟨bk, ok, rfl, hcellk⟩ := (KU.out.below M4.out) m hltm
              have hu := KI.out (nth kn m) (by rw [nth_eq kn m hltm]; exact List.getElem_mem _)
              obtain ⟨x, hx⟩ := Int.eq_ofNat_of_zero_le hu.1
              have hx1 : (x : Int) ≤ 18446744073709551615 := by rw [← hx]; exact hu.2
              rw [hx] at hcellk
              have HX := Lib.hid hx
              have HCK := Lib.hid hcellk
              clear hx hu
              go_wp2_with fail
              refine (refSibling_any (x : Int) _ (by omega) hx1).mono ?_
              rintro y w' ⟨rfl, rfl⟩
              go_wp2_with fail
              refine (has_one (some ⟨bk, ok, none⟩) ck (sib (x : Int)) kn _ (by omega) (KU.out.below M4.out)).mono ?_
              rintro y w' ⟨rfl, rfl⟩
              have ML3 : len nd ≤ 100 := by have := M3.out.2.2.1; omega
              have ML4 : len nx ≤ 100 := by have := M3.out.2.2.2; omega
              have HS2 : w.heap.size ≤ wr.heap.size := by have := M4.out.size; have := K5.out.size; omega
              by_cases hmem : sib (x : Int) ∈ kn
              · rw [show memB (sib (x : Int)) kn = true from decide_eq_true hmem]
                have HM := Lib.hid hmem
                clear hmem
                go_wp2_with fail
                refine (putk_any w.heap.size _ nx ((x : Int) / 2) _ M2.out (by omega) HS2).mono ?_
                rintro y w1 ⟨v1, nx1, rfl, t1, t2, t3, t4⟩
                have R : Hid (In8 w W1 kn (m + 1) _ v1 w1) := Lib.hid ⟨nd, nx1, M1.out.below t4, t1, M3.out.step hltm (fun y => ⟨.inl, fun h => by
                  rcases h with h | ⟨h, h2⟩
                  · exact h
                  · rw [HX.out] at h; rw [h] at h2; exact absurd HM.out h2⟩) (fun y => by rw [t2, HX.out]) (by omega) t3, bnext M4.out t4⟩
                clear t1 t2 t3 t4
                go_wp2
                go_roundg (len kn - (m + 1))
                case rel => exact ⟨m + 1, by omega, by go_num, R.out⟩
                case measure => omega
              · rw [show memB (sib (x : Int)) kn = false from decide_eq_false hmem]
                have HM := Lib.hid hmem
                clear hmem
                go_wp2_with fail
                refine (putk_any w.heap.size _ nd (sib (x : Int)) _ M1.out (by omega) HS2).mono ?_
                rintro y w1 ⟨v1, nd1, rfl, t1, t2, t3, t4⟩
                have T1 := Lib.hid t1
                have T2 := Lib.hid t2
                have T3 := Lib.hid t3
                have T4 := Lib.hid t4
                have hcell1 : w1.cell? ⟨bk, ok + m, none⟩ = some (.int .u64 (x : Int)) := by
                  rw [t4.cell (p := ⟨bk, ok + m, none⟩) (lt_of_cell HCK.out)]; exact HCK.out
                have HS3 : w.heap.size ≤ w1.heap.size := by have := t4.size; omega
                clear t1 t2 t3 t4 hcellk
                go_wp2_with fail
                refine (putk_any w.heap.size _ nx ((x : Int) / 2) _ (M2.out.below T4.out) (by omega) HS3).mono ?_
                rintro y w2 ⟨v2, nx1, rfl, t1, t2, t3, t4⟩
                have R : Hid (In8 w W1 kn (m + 1) v1 v2 w2) := Lib.hid ⟨nd1, nx1, T1.out.below t4, t1, M3.out.step hltm (fun y => by
                  rw [T2.out, HX.out]
                  constructor
                  · rintro (h | rfl)
                    · exact .inl h
                    · exact .inr ⟨rfl, HM.out⟩
                  · rintro (h | ⟨h, _⟩)
                    · exact .inl h
                    · exact .inr h) (fun y => by rw [t2, HX.out]) T3.out t3, bnext (bnext M4.out T4.out) t4⟩
                clear t1 t2 t3 t4
                go_wp2
                go_roundg (len kn - (m + 1))
                case rel => exact ⟨m + 1, by omega, by go_num, R.out⟩
                case measure => omega
            · obtain rfl : m = len kn := by omega
              obtain ⟨vals, q1, q2⟩ := K4.out.below M4.out
              have hlv : vals.length = lv := by rw [q2.1]; simp [rowsOf]
              have Q1 := Lib.hid q1
              have Q2 := Lib.hid q2
              have hrow := M3.out.row M1.out.1
              have RW : Hid (rowsOf leaves (lv + 1) = rowsOf leaves lv ++ [nd]) := Lib.hid (by rw [rowsOf_succ, hrow, K2.out.row])
              have HLV := Lib.hid hlv
              have BY : Hid (Below w.heap.size w wr) := Lib.hid (bnext K5.out M4.out)
              have ML4 : len nx ≤ 100 := by have := M3.out.2.2.2; omega
              obtain ⟨ad, cd, hvd, hud⟩ := M1.out.shape
              subst hvd
              clear q1 q2 hrow hlv hud
              obtain ⟨i0, hi, hz0, hz1, hz2⟩ := info_parts info_rows
              go_wp2_with (at_builtin; refine wpList_append_own _ rfl _ _ 30 rfl w.heap.size 28 i0 (.slice none 0 0) 1 24 Try.underlying30 hi hz0 hz1 hz2 rfl (by decide) _ vals.length vals rfl (Q1.out.alloc _) ⟨wr.heap.size, 0, none⟩ 1 1 [.slice ad (len nd) cd] rfl rfl (one_news _ _ _) (by intro u hu; simp at hu; subst hu; rfl) (by have := HLV.out; unfold maxLen; omega) (by have := HLV.out; omega) (by have := BY.out.size; simp; omega) ?_)
              intro v' w1 hown' hgrow _
              have B1 : Hid (Below w.heap.size w w1) := Lib.hid (grownBy_below (balloc BY.out _) hgrow (fun k hk => (Q1.out.lt k hk).1))
              have X1 := Lib.hid (kn_grow M2.out (balloc (Below.refl _ _) _) (Q1.out.alloc _) hgrow)
              have X2 : Hid (RowsAre w1 w.heap.size (vals ++ [.slice ad (len nd) cd]) (rowsOf leaves (lv + 1))) := Lib.hid (by
                rw [RW.out]
                exact rows_grow ((Q2.out.below (balloc (Below.refl _ _) _)).snoc (own_below M1.out.2 (balloc (Below.refl _ _) _))) (Q1.out.alloc _) hgrow)
              have X3 := Lib.hid hown'
              clear hown' hgrow hi hz0 hz1 hz2
              go_wp2
              go_roundg (e - (lv + 1))
              case rel => exact ⟨lv + 1, by omega, by go_num, ⟨nx, X1.out, K2.out.next M3.out, ML4, ⟨_, by simpa using X3.out, X2.out⟩, B1.out⟩⟩
              case measure => omega
        · obtain rfl : lv = e := by omega
          have K := Lib.hid k4
          have K5 := Lib.hid k5
          clear k1 k2 k3 k4 k5 hk
          go_wp2
          go_ret
          obtain ⟨vals, q1, q2⟩ := K.out
          exact ⟨_, vals, rfl, q1, by rw [E.out]; exact q2, K5.out⟩
end Go.Proofs.Ytbeppkokkbgddaa
