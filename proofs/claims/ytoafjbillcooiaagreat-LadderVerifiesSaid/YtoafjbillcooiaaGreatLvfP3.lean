/- Parts of the proof, one behind the other. -/
import Derived.Test.YtoafjbillcooiaaGreatLvfP2
import Derived.Carry
import Derived.BigQuiet
import Derived.Lib.Strings
import Derived.Great.Walk
import Derived.Laws.AppendOwn
import Derived.Laws.MakeOwn
namespace Go.Proofs.YtoafjbillcooiaaGreat
open Go.RowKit
set_option linter.unusedSimpArgs false
set_option linter.unusedVariables false
def Kn (W : World) (base : Nat) (v : Value) (l : List Int) : Prop := Rising l ∧ W.ownsRow base 37 1 v (len l) (l.map (Value.int .u64))
theorem Kn.nil (W : World) (base : Nat) : Kn W base (.slice none 0 0) [] := ⟨List.Pairwise.nil, World.ownsRow_nil _ _ _ _⟩
theorem Kn.below {W W' : World} {base : Nat} {v : Value} {l : List Int} (h : Kn W base v l) (hb : Below W.heap.size W W') : Kn W' base v l := ⟨h.1, own_below h.2 hb⟩
theorem Kn.shape {W : World} {base : Nat} {v : Value} {l : List Int} (h : Kn W base v l) : ∃ a cap, v = .slice a (len l) cap ∧ U64s W a l := by
  obtain ⟨a, cap, h1, h2, _⟩ := own_u64 h.2; exact ⟨a, cap, h1, h2⟩
theorem putk_any (base : Nat) (v0 : Value) (l : List Int) (k : Int) (w : World) (h : Kn w base v0 l) (hlen : len l ≤ 1000) (hbase : base ≤ w.heap.size) :
    Calls Tryz.prog 144 #[v0, .int .u64 k] w fun e w' => ∃ v l', e = .returned v ∧ Kn w' base v l' ∧ (∀ x, x ∈ l' ↔ x ∈ l ∨ x = k) ∧ len l' ≤ len l + 1 ∧ Below w.heap.size w w' :=
  (put_any base v0 l k w h.2 h.1 hlen hbase).mono (fun e w' ⟨v, l', h1, h2, h3, h4, h5, h6⟩ => ⟨v, l', h1, ⟨h2, h5⟩, h3, h4, h6⟩)
theorem has_one (a : Option Addr) (cap : Nat) (k : Int) (l : List Int) (w : World) (hlen : len l ≤ 9223372036854775807) (hc : U64s w a l) :
    Calls Tryz.prog 146 #[.slice a (len l) cap, .int .u64 k] w fun e w' => e = .returned (.bool (memB k l)) ∧ w = w' :=
  (has_any a cap k l w hlen hc).mono (fun e w' h => ⟨h.1, h.2.symm⟩)
theorem take_mem_succ {l : List Int} {m : Nat} (h : m < len l) (x : Int) : x ∈ l.take (m + 1) ↔ x ∈ l.take m ∨ x = nth l m := by
  have h' : m < l.length := h
  rw [List.take_succ_eq_append_getElem h', List.mem_append, List.mem_singleton, nth_eq l m h']
theorem take_all (l : List Int) : l.take (len l) = l := List.take_length
def Fill (kn nd nx : List Int) (m : Nat) : Prop := (∀ x, x ∈ nd ↔ (∃ j ∈ kn.take m, x = sib j) ∧ x ∉ kn) ∧ (∀ x, x ∈ nx ↔ ∃ j ∈ kn.take m, x = j / 2) ∧ len nd ≤ m ∧ len nx ≤ m
theorem Fill.start (kn : List Int) : Fill kn [] [] 0 := ⟨fun x => by simp, fun x => by simp, Nat.le_refl _, Nat.le_refl _⟩
theorem Fill.step {kn nd nx nd' nx' : List Int} {m : Nat} (h : Fill kn nd nx m) (hm : m < len kn) (h1 : ∀ x, x ∈ nd' ↔ x ∈ nd ∨ (x = sib (nth kn m) ∧ x ∉ kn)) (h2 : ∀ x, x ∈ nx' ↔ x ∈ nx ∨ x = nth kn m / 2) (l1 : len nd' ≤ len nd + 1) (l2 : len nx' ≤ len nx + 1) : Fill kn nd' nx' (m + 1) := by
  refine ⟨fun x => ?_, fun x => ?_, by have := h.2.2.1; omega, by have := h.2.2.2; omega⟩
  · rw [h1, h.1]
    constructor
    · rintro (⟨⟨j, hj, e⟩, hx⟩ | ⟨e, hx⟩)
      · exact ⟨⟨j, (take_mem_succ hm j).2 (.inl hj), e⟩, hx⟩
      · exact ⟨⟨_, (take_mem_succ hm _).2 (.inr rfl), e⟩, hx⟩
    · rintro ⟨⟨j, hj, e⟩, hx⟩
      rcases (take_mem_succ hm j).1 hj with hj | rfl
      · exact .inl ⟨⟨j, hj, e⟩, hx⟩
      · exact .inr ⟨e, hx⟩
  · rw [h2, h.2.1]
    constructor
    · rintro (⟨j, hj, e⟩ | e)
      · exact ⟨j, (take_mem_succ hm j).2 (.inl hj), e⟩
      · exact ⟨_, (take_mem_succ hm _).2 (.inr rfl), e⟩
    · rintro ⟨j, hj, e⟩
      rcases (take_mem_succ hm j).1 hj with hj | rfl
      · exact .inl ⟨j, hj, e⟩
      · exact .inr e
theorem Fill.row {kn nd nx : List Int} (h : Fill kn nd nx (len kn)) (hr : Rising nd) : nd = rowK kn := by
  refine rising_eq hr (srt_rising (needK_nodup kn)) (fun k => ?_)
  rw [h.1, take_all]
  unfold rowK
  rw [srt_mem, needK_mem]
def At (leaves : List Int) (lv : Nat) (kn : List Int) : Prop := ∀ x, x ∈ kn ↔ ∃ j ∈ leaves, x = j / 2 ^ lv
theorem At.row {leaves kn : List Int} {lv : Nat} (h : At leaves lv kn) : rowK kn = rowK (insAll (leaves.map (· / 2 ^ lv))) := rowK_same (fun k => by
  rw [h k, (insAll_all _).2.1, List.mem_map]
  constructor
  · rintro ⟨j, hj, e⟩; exact ⟨j, hj, e.symm⟩
  · rintro ⟨j, hj, e⟩; exact ⟨j, hj, e.symm⟩)
theorem At.next {leaves kn nd nx : List Int} {lv : Nat} (h : At leaves lv kn) (hf : Fill kn nd nx (len kn)) : At leaves (lv + 1) nx := fun x => by
  have hp : ∀ j : Int, j / 2 ^ lv / 2 = j / 2 ^ (lv + 1) := fun j => by
    rw [Int.pow_succ, Int.ediv_ediv_of_nonneg (Int.pow_nonneg (by decide))]
  rw [hf.2.1, take_all]
  constructor
  · rintro ⟨j, hj, rfl⟩
    obtain ⟨i, hi, rfl⟩ := (h j).1 hj
    exact ⟨i, hi, hp i⟩
  · rintro ⟨i, hi, rfl⟩
    exact ⟨i / 2 ^ lv, (h _).2 ⟨i, hi, rfl⟩, (hp i).symm⟩
theorem At.u64 {leaves kn : List Int} {lv : Nat} (h : At leaves lv kn) (hu : ∀ k ∈ leaves, U64 k) : ∀ k ∈ kn, U64 k := by
  intro k hk
  obtain ⟨j, hj, rfl⟩ := (h k).1 hk
  have := hu j hj
  unfold U64 at this ⊢
  have hp : (0 : Int) < 2 ^ lv := Int.pow_pos (by decide)
  exact ⟨Int.ediv_nonneg this.1 (by omega), Int.le_trans (Int.ediv_le_self _ this.1) this.2⟩
theorem rowsOf_succ (leaves : List Int) (lv : Nat) : rowsOf leaves (lv + 1) = rowsOf leaves lv ++ [rowK (insAll (leaves.map (· / 2 ^ lv)))] := by
  simp [rowsOf, List.range_succ]
theorem kn_grow {W X w1 : World} {base b2 n : Nat} {v vo : Value} {l : List Int} {xs : List Value} (h : Kn W base v l) (hb : Below W.heap.size W X) (hq : X.ownsRow b2 23 1 vo n xs) (hg : X.grownBy w1 vo.ownBlock) : Kn w1 base v l :=
  ⟨h.1, (own_below h.2 hb).kept hg (own_apart (own_below h.2 hb) hq (by decide))⟩
theorem rows_grow {X w1 : World} {base b2 n : Nat} {vo : Value} {xs vals : List Value} {rs : List (List Int)} (h : RowsAre X base vals rs) (hq : X.ownsRow b2 23 1 vo n xs) (hg : X.grownBy w1 vo.ownBlock) : RowsAre w1 base vals rs :=
  h.kept hg (fun i u hu => by
    rcases hq.2 with ⟨e, _⟩ | ⟨g, cap, cur, e, _, hgb, _⟩
    · rw [e]; cases h : u.ownBlock <;> simp [Value.ownBlock]
    · rw [e]; exact h.apart hgb (by decide) i u hu)
def Laid8 (W : World) (base : Nat) (v : Value) (rs : List (List Int)) : Prop := ∃ vals : List Value, W.ownsRow base 23 1 v vals.length vals ∧ RowsAre W base vals rs
theorem Laid8.nil (W : World) (base : Nat) : Laid8 W base (.slice none 0 0) [] := ⟨[], World.ownsRow_nil _ _ _ _, RowsAre.nil _ _⟩
theorem Laid8.below {W W' : World} {base : Nat} {v : Value} {rs : List (List Int)} (h : Laid8 W base v rs) (hb : Below W.heap.size W W') : Laid8 W' base v rs := by
  obtain ⟨vals, h1, h2⟩ := h; exact ⟨vals, own_below h1 hb, h2.below hb⟩
def Lev8 (leaves : List Int) (w : World) (lv : Nat) (vk vo : Value) (wr : World) : Prop := ∃ kn, Kn wr w.heap.size vk kn ∧ At leaves lv kn ∧ len kn ≤ 100 ∧ Laid8 wr w.heap.size vo (rowsOf leaves lv) ∧ Below w.heap.size w wr
def In8 (w W : World) (kn : List Int) (m : Nat) (vd vx : Value) (wr : World) : Prop := ∃ nd nx, Kn wr w.heap.size vd nd ∧ Kn wr w.heap.size vx nx ∧ Fill kn nd nx m ∧ Below W.heap.size W wr
set_option maxRecDepth 100000 in
set_option maxHeartbeats 4000000 in
theorem refNeeds_any (a : Option Addr) (cap : Nat) (leaves : List Int) (d : Int) (w : World) (hl : U64s w a leaves) (hlen : len leaves ≤ 100) (hu : ∀ k ∈ leaves, U64 k) :
    Calls Tryz.prog 102 #[.slice a (len leaves) cap, .int .i64 d] w (NeedsIs (needsL leaves d) w) := by
  have HL := Lib.hid hl
  have HU := Lib.hid hu
  clear hl hu
  by_cases hd : d < 0 ∨ 16 < d ∨ len leaves = 0
  · have E : Hid (needsL leaves d = []) := Lib.hid (by unfold needsL; rw [if_neg (fun h => by have := h.1; have := h.2.1; have := h.2.2.1; omega)])
    by_cases h1 : d < 0
    · have e1 : decide (d < 0) = true := decide_eq_true h1
      go_enter Tryz.func102, Tryz.ntmps102
      go_wp2
      go_ret
      exact needsIs_nil E.out (Below.refl _ _)
    · by_cases h2 : 16 < d
      · have e1 : decide (d < 0) = false := decide_eq_false h1
        have e2 : decide (16 < d) = true := decide_eq_true h2
        go_enter Tryz.func102, Tryz.ntmps102
        go_wp2
        go_ret
        exact needsIs_nil E.out (Below.refl _ _)
      · have e1 : decide (d < 0) = false := decide_eq_false h1
        have e2 : decide (16 < d) = false := decide_eq_false h2
        have e3 : ((len leaves : Int) == 0) = true := by simp; omega
        go_enter Tryz.func102, Tryz.ntmps102
        go_wp2
        go_ret
        exact needsIs_nil E.out (Below.refl _ _)
  obtain ⟨e, rfl⟩ := Int.eq_ofNat_of_zero_le (a := d) (by omega)
  have he16 : e ≤ 16 := by omega
  have hl0 : 0 < len leaves := by omega
  have p16 : 2 ^ e ≤ 65536 := Nat.pow_le_pow_right (n := 2) (by decide) he16
  have e1 : decide ((e : Int) < 0) = false := decide_eq_false (by omega)
  have e2 : decide ((16 : Int) < (e : Int)) = false := decide_eq_false (by omega)
  have e3 : ((len leaves : Int) == 0) = false := by simp; omega
  have N1 : Hid (farB leaves e = true → needsL leaves e = []) := Lib.hid (fun h => by unfold needsL; rw [Int.toNat_natCast, if_neg (fun hh => by rw [h] at hh; exact absurd hh.2.2.2 (by decide))])
  have N2 : Hid (farB leaves e = false → needsL leaves e = rowsOf leaves e) := Lib.hid (fun h => by unfold needsL; rw [Int.toNat_natCast, if_pos ⟨by omega, by omega, hl0, h⟩])
  have F1 : Hid ((∃ k ∈ leaves, ((2 ^ e : Nat) : Int) ≤ k) → farB leaves e = true) := Lib.hid (fun ⟨k, hk, h⟩ => decide_eq_true ⟨k, hk, by rw [pow_cast]; exact h⟩)
  have F2 : Hid ((∀ k ∈ leaves, k < ((2 ^ e : Nat) : Int)) → farB leaves e = false) := Lib.hid (fun h => decide_eq_false (fun ⟨k, hk, h2⟩ => by rw [pow_cast] at h2; have := h k hk; omega))
  obtain ⟨p, hp⟩ : ∃ p : Nat, 2 ^ e = p := ⟨_, rfl⟩
  have hw : IntKind.u64.wrap ((2 : Int) ^ e) = (p : Int) := by rw [pow_cast, IntKind.wrap_u64, hp]; omega
  rw [hp] at p16 F1 F2
  clear hp hd
  go_enter Tryz.func102, Tryz.ntmps102
  go_wp2
  go_loopg [5, 6] (len leaves) (fun g v i wr => ∃ m : Nat, g + m = len leaves ∧ i = .int .i64 m ∧ Below w.heap.size w wr ∧ Hid (∃ kn, Kn wr w.heap.size v kn ∧ (∀ x, x ∈ kn ↔ x ∈ leaves.take m) ∧ len kn ≤ m ∧ ∀ x ∈ leaves.take m, x < (p : Int)))
  case atStart => exact ⟨0, rfl, rfl, Below.refl _ _, ⟨[], Kn.nil _ _, fun x => by simp, Nat.le_refl _, fun x h => by simp at h⟩⟩
  case round =>
    obtain ⟨m, hm, rfl, hb, hk⟩ := hrel
    by_cases hlt : m < len leaves
    · obtain ⟨b, off, rfl, hcell⟩ := (HL.out.below hb) m hlt
      have hmem : nth leaves m ∈ leaves := by rw [nth_eq leaves m hlt]; exact List.getElem_mem _
      by_cases hf : (p : Int) ≤ nth leaves m
      · have hf' : decide ((p : Int) ≤ nth leaves m) = true := decide_eq_true hf
        have E : Hid (needsL leaves e = []) := Lib.hid (N1.out (F1.out ⟨_, hmem, hf⟩))
        clear hmem
        go_wp2_with fail
        go_quiet (fail)
        go_wp2
        go_ret
        exact needsIs_nil E.out (by (repeat (first | exact Below.refl _ _ | assumption | (refine bdrew ?_) | (refine bdrewN ?_ _) | (refine balloc ?_ _) | (refine bset ?_ (by first | omega | (simp; done) | (simp; omega)) _) | (refine bnext ?_ (by assumption)))))
      · have hf' : decide ((p : Int) ≤ nth leaves m) = false := decide_eq_false hf
        have HF := Lib.hid hf
        clear hmem hf
        go_upto_region 9 with (go_quiet (fail))
        obtain ⟨kn, h1, h2, h3, h4⟩ := hk.out
        clear hk
        have hdw := fun n => Kn.below h1 (below_drewN (Below.refl _ wr) n)
        go_wp2_with fail
        refine (putk_any w.heap.size _ kn (nth leaves m) _ (by first | exact h1 | exact hdw _ | exact Kn.below h1 (by (repeat (first | exact Below.refl _ _ | assumption | (refine bdrew ?_) | (refine bdrewN ?_ _) | (refine balloc ?_ _) | (refine bset ?_ (by first | omega | (simp; done) | (simp; omega)) _) | (refine bnext ?_ (by assumption)))))) (by omega) (by first | exact hb.size | (have := hb.size; simp; omega))).mono ?_
        rintro x w1 ⟨v1, kn1, rfl, k1, k2, k3, k4⟩
        have B1 : Hid (Below w.heap.size w w1) := Lib.hid (bnext (by (repeat (first | exact Below.refl _ _ | assumption | (refine bdrew ?_) | (refine bdrewN ?_ _) | (refine balloc ?_ _) | (refine bset ?_ (by first | omega | (simp; done) | (simp; omega)) _) | (refine bnext ?_ (by assumption))))) k4)
        have K1 : Hid (∃ kn, Kn w1 w.heap.size v1 kn ∧ (∀ x, x ∈ kn ↔ x ∈ leaves.take (m + 1)) ∧ len kn ≤ m + 1 ∧ ∀ x ∈ leaves.take (m + 1), x < (p : Int)) := Lib.hid ⟨kn1, k1, fun x => by rw [k2, h2, take_mem_succ hlt], by omega, fun x hx => by
          rcases (take_mem_succ hlt x).1 hx with hx | rfl
          · exact h4 x hx
          · have := HF.out; omega⟩
        clear k1 k2 k3 k4 h1 h2 h3 h4 hdw
        go_wp2
        go_roundg (len leaves - (m + 1))
        case rel => exact ⟨m + 1, by omega, by go_num, B1.out, K1.out⟩
        case measure => omega
    · obtain rfl : m = len leaves := by omega
      obtain ⟨kn, h1, h2, h3, h4⟩ := hk.out
      have K := Lib.hid (show _ ∧ At leaves 0 kn ∧ len kn ≤ 100 from ⟨h1, fun x => by rw [h2, take_all]; simp, by omega⟩)
      have E : Hid (needsL leaves e = rowsOf leaves e) := Lib.hid (N2.out (F2.out (by intro k hk2; exact h4 k (by rw [take_all]; exact hk2))))
      clear h1 h2 h3 h4 hk hw N1 N2 F1 F2
      go_wp2
      go_loopg [5, 7, 8] e (fun g vk vo i wx => ∃ lv : Nat, g + lv = e ∧ i = .int .i64 lv ∧ Hid (Lev8 leaves w lv vk vo wx))
      case atStart => exact ⟨0, rfl, rfl, ⟨kn, K.out.1, K.out.2.1, K.out.2.2, Laid8.nil _ _, hb⟩⟩
      case round =>
        clear K
        obtain ⟨lv, hlv, rfl, hk⟩ := hrel
        obtain ⟨kn, k1, k2, k3, k4, k5⟩ := hk.out
        by_cases hle : lv < e
        · obtain ⟨GK, hGK⟩ : ∃ G, G = gk := ⟨_, rfl⟩
          subst hGK
          obtain ⟨W1, hW1⟩ : ∃ W, W = wr := ⟨_, rfl⟩
          subst hW1
          obtain ⟨ak, ck, hvk, hku⟩ := k1.shape
          subst hvk
          have K1 := Lib.hid k1
          have K2 := Lib.hid k2
          have K4 := Lib.hid k4
          have K5 := Lib.hid k5
          have KU := Lib.hid hku
          have KI := Lib.hid (k2.u64 HU.out)
          clear k1 k2 k4 k5 hk hku
          go_wp2
          go_loopg [9, 10, 11] (len kn) (fun g vd vx i wy => ∃ m : Nat, g + m = len kn ∧ i = .int .i64 m ∧ Hid (In8 w W1 kn m vd vx wy))
          case atStart => exact ⟨0, rfl, rfl, ⟨[], [], Kn.nil _ _, Kn.nil _ _, Fill.start kn, Below.refl _ _⟩⟩
          case round =>
            obtain ⟨m, hm2, rfl, hin⟩ := hrel
            obtain ⟨nd, nx, n1, n2, n3, n4⟩ := hin.out
            have M1 := Lib.hid n1
            have M2 := Lib.hid n2
            have M3 := Lib.hid n3
            have M4 := Lib.hid n4
            clear hin n1 n2 n3 n4
            by_cases hltm : m < len kn
            · obtain ⟨bk, ok, rfl, hcellk⟩ := (KU.out.below M4.out) m hltm
              have hu := KI.out (nth kn m) (by rw [nth_eq kn m hltm]; exact List.getElem_mem _)
              obtain ⟨x, hx⟩ := Int.eq_ofNat_of_zero_le hu.1
              have hx1 : (x : Int) ≤ 18446744073709551615 := by rw [← hx]; exact hu.2
              rw [hx] at hcellk
              have HX := Lib.hid hx
              have HCK := Lib.hid hcellk
              clear hx hu
              go_wp2_with fail
              refine (refSibling_any (x : Int) _ (by omega) hx1).mono ?_
              rintro y w' ⟨rfl, rfl⟩
              go_wp2_with fail
              refine (has_one (some ⟨bk, ok, none⟩) ck (sib (x : Int)) kn _ (by omega) (KU.out.below M4.out)).mono ?_
              rintro y w' ⟨rfl, rfl⟩
              have ML3 : len nd ≤ 100 := by have := M3.out.2.2.1; omega
              have ML4 : len nx ≤ 100 := by have := M3.out.2.2.2; omega
              have HS2 : w.heap.size ≤ wr.heap.size := by have := M4.out.size; have := K5.out.size; omega
              by_cases hmem : sib (x : Int) ∈ kn
              · rw [show memB (sib (x : Int)) kn = true from decide_eq_true hmem]
                have HM := Lib.hid hmem
                clear hmem
                go_wp2_with fail
                refine (putk_any w.heap.size _ nx ((x : Int) / 2) _ M2.out (by omega) HS2).mono ?_
                rintro y w1 ⟨v1, nx1, rfl, t1, t2, t3, t4⟩
                have R : Hid (In8 w W1 kn (m + 1) _ v1 w1) := Lib.hid ⟨nd, nx1, M1.out.below t4, t1, M3.out.step hltm (fun y => ⟨.inl, fun h => by
                  rcases h with h | ⟨h, h2⟩
                  · exact h
                  · rw [HX.out] at h; rw [h] at h2; exact absurd HM.out h2⟩) (fun y => by rw [t2, HX.out]) (by omega) t3, bnext M4.out t4⟩
                clear t1 t2 t3 t4
                go_wp2
                go_roundg (len kn - (m + 1))
                case rel => exact ⟨m + 1, by omega, by go_num, R.out⟩
                case measure => omega
              · rw [show memB (sib (x : Int)) kn = false from decide_eq_false hmem]
                have HM := Lib.hid hmem
                clear hmem
                go_wp2_with fail
                refine (putk_any w.heap.size _ nd (sib (x : Int)) _ M1.out (by omega) HS2).mono ?_
                rintro y w1 ⟨v1, nd1, rfl, t1, t2, t3, t4⟩
                have T1 := Lib.hid t1
                have T2 := Lib.hid t2
                have T3 := Lib.hid t3
                have T4 := Lib.hid t4
                have hcell1 : w1.cell? ⟨bk, ok + m, none⟩ = some (.int .u64 (x : Int)) := by
                  rw [t4.cell (p := ⟨bk, ok + m, none⟩) (lt_of_cell HCK.out)]; exact HCK.out
                have HS3 : w.heap.size ≤ w1.heap.size := by have := t4.size; omega
                clear t1 t2 t3 t4 hcellk
                go_wp2_with fail
                refine (putk_any w.heap.size _ nx ((x : Int) / 2) _ (M2.out.below T4.out) (by omega) HS3).mono ?_
                rintro y w2 ⟨v2, nx1, rfl, t1, t2, t3, t4⟩
                have R : Hid (In8 w W1 kn (m + 1) v1 v2 w2) := Lib.hid ⟨nd1, nx1, T1.out.below t4, t1, M3.out.step hltm (fun y => by
                  rw [T2.out, HX.out]
                  constructor
                  · rintro (h | rfl)
                    · exact .inl h
                    · exact .inr ⟨rfl, HM.out⟩
                  · rintro (h | ⟨h, _⟩)
                    · exact .inl h
                    · exact .inr h) (fun y => by rw [t2, HX.out]) T3.out t3, bnext (bnext M4.out T4.out) t4⟩
                clear t1 t2 t3 t4
                go_wp2
                go_roundg (len kn - (m + 1))
                case rel => exact ⟨m + 1, by omega, by go_num, R.out⟩
                case measure => omega
            · obtain rfl : m = len kn := by omega
              obtain ⟨vals, q1, q2⟩ := K4.out.below M4.out
              have hlv : vals.length = lv := by rw [q2.1]; simp [rowsOf]
              have Q1 := Lib.hid q1
              have Q2 := Lib.hid q2
              have hrow := M3.out.row M1.out.1
              have RW : Hid (rowsOf leaves (lv + 1) = rowsOf leaves lv ++ [nd]) := Lib.hid (by rw [rowsOf_succ, hrow, K2.out.row])
              have HLV := Lib.hid hlv
              have BY : Hid (Below w.heap.size w wr) := Lib.hid (bnext K5.out M4.out)
              have ML4 : len nx ≤ 100 := by have := M3.out.2.2.2; omega
              obtain ⟨ad, cd, hvd, hud⟩ := M1.out.shape
              subst hvd
              clear q1 q2 hrow hlv hud
              obtain ⟨i0, hi, hz0, hz1, hz2⟩ := info_parts info_rows
              go_wp2_with (at_builtin; refine wpList_append_own _ rfl _ _ 151 rfl w.heap.size 23 i0 (.slice none 0 0) 1 24 Tryz.underlying151 hi hz0 hz1 hz2 rfl (by decide) _ vals.length vals rfl (Q1.out.alloc _) ⟨wr.heap.size, 0, none⟩ 1 1 [.slice ad (len nd) cd] rfl rfl (one_news _ _ _) (by intro u hu; simp at hu; subst hu; rfl) (by have := HLV.out; unfold maxLen; omega) (by have := HLV.out; omega) (by have := BY.out.size; simp; omega) ?_)
              intro v' w1 hown' hgrow _
              have B1 : Hid (Below w.heap.size w w1) := Lib.hid (grownBy_below (balloc BY.out _) hgrow (fun k hk => (Q1.out.lt k hk).1))
              have X1 := Lib.hid (kn_grow M2.out (balloc (Below.refl _ _) _) (Q1.out.alloc _) hgrow)
              have X2 : Hid (RowsAre w1 w.heap.size (vals ++ [.slice ad (len nd) cd]) (rowsOf leaves (lv + 1))) := Lib.hid (by
                rw [RW.out]
                exact rows_grow ((Q2.out.below (balloc (Below.refl _ _) _)).snoc (own_below M1.out.2 (balloc (Below.refl _ _) _))) (Q1.out.alloc _) hgrow)
              have X3 := Lib.hid hown'
              clear hown' hgrow hi hz0 hz1 hz2
              go_wp2
              go_roundg (e - (lv + 1))
              case rel => exact ⟨lv + 1, by omega, by go_num, ⟨nx, X1.out, K2.out.next M3.out, ML4, ⟨_, by simpa using X3.out, X2.out⟩, B1.out⟩⟩
              case measure => omega
        · obtain rfl : lv = e := by omega
          have K := Lib.hid k4
          have K5 := Lib.hid k5
          clear k1 k2 k3 k4 k5 hk
          go_wp2
          go_ret
          obtain ⟨vals, q1, q2⟩ := K.out
          exact ⟨_, vals, rfl, q1, by rw [E.out]; exact q2, K5.out⟩
end Go.Proofs.YtoafjbillcooiaaGreat
namespace Go.Proofs.YtoafjbillcooiaaGreat
open Go.RowKit Go.ChangeMaps
set_option linter.unusedSimpArgs false
set_option linter.unusedVariables false
def LeavesIs (l : List Int) (d : Int) (w : World) (e : Ending) (w' : World) : Prop := ∃ a c, e = .returned (.slice a (len l) c) ∧ U64s w' a (leavesL l d) ∧ Below w.heap.size w w'
set_option maxRecDepth 100000 in
set_option maxHeartbeats 4000000 in
theorem rleaves_any (l : List Int) (a : Option Addr) (cap : Nat) (d : Int) (w : World) (hl : U64s w a l) (hn : len l ≤ 1000000) (hu : ∀ k ∈ l, U64 k) (hd64 : -9223372036854775808 ≤ d) (hd65 : d ≤ 9223372036854775807) :
    Calls Tryz.prog 119 #[.slice a (len l) cap, .int .i64 d] w (LeavesIs l d w) := by
  have HL := Lib.hid hl
  have HU := Lib.hid hu
  have HN := Lib.hid hn
  have HD1 := Lib.hid hd64
  have HD2 := Lib.hid hd65
  obtain ⟨i0, hi, hz0, hz1, hz2⟩ := info_parts info_u64
  have HZ := Lib.hid hz0
  clear hl hn hu hz0 hd64 hd65
  go_enter Tryz.func119, Tryz.ntmps119
  go_wp2
  go_loopg [6, 5] (len l) (fun g i v wr => ∃ m : Nat, g + m = len l ∧ i = .int .i64 m ∧ Hid (wr.ownsRow w.heap.size 37 1 v m ((leavesL (l.take m) d).map (Value.int .u64))) ∧ Hid (Below w.heap.size w wr))
  case atStart => exact ⟨0, rfl, rfl, Lib.hid (World.ownsRow_nil _ _ _ _), Lib.hid (Below.refl _ _)⟩
  case round =>
    obtain ⟨m, hm, rfl, HR, HB⟩ := hrel
    have HNN := HN.out
    by_cases hlt : m < len l
    · obtain ⟨b, off, rfl, hcell⟩ := HL.out.below HB.out m hlt
      have b0 : (m : Int) < len l := by omega
      obtain ⟨k, hk⟩ : ∃ k, nth l m = k := ⟨_, rfl⟩
      have hku : U64 k := by rw [← hk]; exact HU.out _ (mem_nth hlt)
      rw [hk] at hcell
      have HK := Lib.hid hk
      have HLF := Lib.hid (refLeaf_any k d wr hku.1 hku.2 HD1.out HD2.out)
      clear hk hku
      go_wp2_with fail
      refine HLF.out.mono ?_
      rintro e w1 ⟨rfl, rfl⟩
      go_wp2_with (at_builtin; refine wpList_append_own _ rfl _ _ 23 rfl w.heap.size 37 i0 (.int .u64 0) 1 8 Tryz.underlying23 hi HZ.out hz1 hz2 rfl (by decide) _ _ _ rfl (HR.out.alloc _) ⟨wr.heap.size, 0, none⟩ 1 1 [.int .u64 (turnedZ k d)] rfl rfl (World.news_of_block (heap_alloc_new _ _)) (by intro u hu9; simp at hu9; subst hu9; rfl) (by unfold maxLen; omega) (by omega) (by have := HB.out.size; simp; omega) ?_; intro v2 w4 hown2 hgrow2 _)
      have HO2 : Hid (w4.ownsRow w.heap.size 37 1 v2 (m + 1) ((leavesL (l.take (m + 1)) d).map (Value.int .u64))) := Lib.hid (by
        rw [leavesL_snoc l d m hlt, HK.out, List.map_append]
        exact hown2)
      have HB2 : Hid (Below w.heap.size w w4) := Lib.hid (grownBy_below (balloc HB.out _) hgrow2 (fun k hk' => (HR.out.lt k hk').1))
      clear hown2 hgrow2 HLF hcell
      go_wp2
      go_roundg (len l - (m + 1))
      case rel => exact ⟨m + 1, by omega, by go_num, HO2, HB2⟩
      case measure => omega
    · obtain rfl : m = len l := by omega
      have b0 : ¬ ((len l : Nat) : Int) < len l := by omega
      have HR2 : Hid (wr.ownsRow w.heap.size 37 1 u5 (len l) ((leavesL l d).map (Value.int .u64))) := Lib.hid (by have h := HR.out; rw [take_len] at h; exact h)
      obtain ⟨a2, cap2, hv, hL2, hc2, hc3⟩ := own_u64 HR2.out
      rw [leavesL_len] at hv
      subst hv
      have HL2 := Lib.hid hL2
      clear hL2 hc2 hc3 HR2 HR hlt
      go_wp2
      go_ret
      exact ⟨a2, cap2, rfl, HL2.out, HB.out⟩
theorem flat_row_len (rs : List (List Int)) (i : Nat) (hi : i < len rs) : (flatAt rs (i + 1) 0).length = (flatAt rs i 0).length + len (rnth rs i) := by
  rw [← flatAt_row rs i hi]
  unfold flatAt
  rw [take_len, List.take_zero, List.map_nil, List.append_nil, List.length_append, List.length_map]
  rfl
end Go.Proofs.YtoafjbillcooiaaGreat
namespace Go.Proofs.YtoafjbillcooiaaGreat
open Go.RowKit
set_option linter.unusedSimpArgs false
set_option linter.unusedVariables false
def sV (d : ByteArray) : Value := .agg #[.string d]
structure MapG (L : List (Int × Value)) (g : KnF) : Prop where
  get : ∀ k, mGet L k = (g k).map sV
theorem MapG.nil : MapG [] noF := ⟨fun k => rfl⟩
theorem MapG.put {L : List (Int × Value)} {g : KnF} (h : MapG L g) (k : Int) (d : ByteArray) : MapG (mPut L k (sV d)) (putF g k d) :=
  ⟨fun j => by
    rw [mGet_put, h.get]
    unfold putF
    by_cases e : j = k
    · rw [if_pos e, if_pos e]; rfl
    · rw [if_neg e, if_neg e]⟩
theorem MapG.look {L : List (Int × Value)} {g : KnF} (h : MapG L g) (k : Int) : (mGet L k).getD (.agg #[.string ⟨#[]⟩]) = .agg #[.string (kidF g k)] := by
  rw [h.get]
  unfold kidF
  cases g k <;> rfl
def AtK (lv : List Int) (i : Nat) (k : Int) : Prop := ∃ y ∈ lv, k = y / 2 ^ i
instance (lv : List Int) (i : Nat) (k : Int) : Decidable (AtK lv i k) := by unfold AtK; exact List.decidableBEx _ _
def trF (els : List ByteArray) (d : Nat) (lv : List Int) (i : Nat) : KnF := fun k => if AtK lv i k then some (plD els d i k.toNat) else none
theorem trF_in {els : List ByteArray} {d : Nat} {lv : List Int} {i : Nat} {k : Int} (h : AtK lv i k) : trF els d lv i k = some (plD els d i k.toNat) := by unfold trF; rw [if_pos h]
theorem trF_out {els : List ByteArray} {d : Nat} {lv : List Int} {i : Nat} {k : Int} (h : ¬ AtK lv i k) : trF els d lv i k = none := by unfold trF; rw [if_neg h]
theorem atK_half {lv : List Int} {i : Nat} (p : Int) : AtK lv (i + 1) p ↔ AtK lv i (2 * p) ∨ AtK lv i (2 * p + 1) := by
  have half : ∀ y : Int, y / 2 ^ (i + 1) = y / 2 ^ i / 2 := fun y => by
    rw [Int.pow_succ, Int.ediv_ediv_of_nonneg (Int.le_of_lt (Int.pow_pos (by decide)))]
  constructor
  · rintro ⟨y, hy, rfl⟩
    rw [half]
    by_cases e : y / 2 ^ i % 2 = 0
    · exact .inl ⟨y, hy, by omega⟩
    · exact .inr ⟨y, hy, by omega⟩
  · rintro (⟨y, hy, e⟩ | ⟨y, hy, e⟩)
    · exact ⟨y, hy, by rw [half]; omega⟩
    · exact ⟨y, hy, by rw [half]; omega⟩
theorem plD_up (els : List ByteArray) (d i : Nat) (p : Nat) : plD els d (i + 1) p = hashP nodeT [plD els d i (2 * p), plD els d i (2 * p + 1)] := rfl
theorem row_memK (lv : List Int) (d i : Nat) (h : i < d) (k : Int) : k ∈ rnth (rowsOf lv d) i ↔ AtK lv i (sib k) ∧ ¬ AtK lv i k := by
  rw [row_mem lv d i h]
  have ss : ∀ x, sib (sib x) = x := fun x => by unfold sib; split <;> split <;> omega
  constructor
  · rintro ⟨⟨y, hy, rfl⟩, h2⟩
    exact ⟨⟨y, hy, by rw [ss]⟩, h2⟩
  · rintro ⟨⟨y, hy, e⟩, h2⟩
    exact ⟨⟨y, hy, by rw [← e, ss]⟩, h2⟩
def Cut (row : List Int) (j : Nat) (b : Int) : Prop := j ≤ len row ∧ (∀ x ∈ row.take j, x < b) ∧ ∀ x ∈ row.drop j, b ≤ x
theorem Cut.start {row : List Int} (h : ∀ x ∈ row, 0 ≤ x) : Cut row 0 0 := ⟨Nat.zero_le _, fun x hx => by simp at hx, fun x hx => h x (by simpa using hx)⟩
theorem flat_used (rs : List (List Int)) : ∀ i, i ≤ len rs → (flatAt rs i 0).length = usedR rs i
  | 0, _ => rfl
  | i + 1, hi => by rw [flat_row_len rs i (by omega), flat_used rs i (by omega), usedR_next rs i (by omega)]
theorem flat_used2 (rs : List (List Int)) (i : Nat) (hi : i < len rs) : ∀ j, j ≤ len (rnth rs i) → (flatAt rs i j).length = usedR rs i + j
  | 0, _ => flat_used rs i (by omega)
  | j + 1, hj => by rw [flatAt_next rs i j (by omega), List.length_append, flat_used2 rs i hi j (by omega)]; rfl
theorem dgs_at (els : List ByteArray) (rs : List (List Int)) (i j : Nat) (hi : i < len rs) (hj : j < len (rnth rs i)) : tth (dgsL els (flatLv rs)) (usedR rs i + j) = plD els (depN els) i (nth (rnth rs i) j).toNat := by
  have h := flat_at rs i j hi hj
  rw [flat_used2 rs i hi j (by omega)] at h
  unfold dgsL tth
  rw [List.getD_eq_getElem?_getD, List.getElem?_map, h]
  simp
theorem dgs_all (els : List ByteArray) (rs : List (List Int)) : len (dgsL els (flatLv rs)) = usedR rs (len rs) := by
  unfold dgsL
  rw [len_eq, List.length_map, ← flatAt_end, flat_used rs (len rs) (Nat.le_refl _)]
end Go.Proofs.YtoafjbillcooiaaGreat
namespace Go.Proofs.YtoafjbillcooiaaGreat
open Go.RowKit
set_option linter.unusedSimpArgs false
set_option linter.unusedVariables false
def bT : ByteArray := ⟨#[98]⟩
def cT : ByteArray := ⟨#[99]⟩
theorem bad_no {ds : List ByteArray} (h : ∀ d ∈ ds, d.size = 32) : badB ds = false := decide_eq_false (by rintro ⟨d, hd, h9⟩; exact h9 (h d hd))
theorem rootE_ok {n : Int} {ps : List Int} {es ds : List ByteArray} (h1 : ArgOk n ps es) (h2 : badB ds = false) (h3 : len ds = neededP n ps) : rootE n ps es ds = 0 ∧ rootS n ps es ds = digP n ps es ds := by
  have h9 : rootE n ps es ds = 0 := by
    unfold rootE
    rw [if_neg (fun h => h h1), if_neg (by rw [h2]; simp), if_neg (by omega), if_neg (by omega)]
  exact ⟨h9, by unfold rootS; rw [if_pos h9]⟩
end Go.Proofs.YtoafjbillcooiaaGreat
namespace Go.Proofs.YtoafjbillcooiaaGreat
open Go.RowKit
set_option linter.unusedSimpArgs false
set_option linter.unusedVariables false
structure Agree (els own : List ByteArray) (ps : List Int) : Prop where
  len_ : len own = len els
  off : ∀ i : Nat, ((i : Nat) : Int) ∉ ps → tth els i = tth own i
theorem Agree.refl (els : List ByteArray) (ps : List Int) : Agree els els ps := ⟨rfl, fun _ _ => rfl⟩
theorem plD_same {els own : List ByteArray} {d : Nat} (hl : len own = len els) : ∀ (i k : Nat), i ≤ d → k < 2 ^ (d - i) → (∀ j, j < 2 ^ d → j / 2 ^ i = k → tth els (revOf j d) = tth own (revOf j d)) → plD els d i k = plD own d i k
  | 0, k, _, hk, h => by
    have h1 := h k (by simpa using hk) (by simp)
    show (if revOf k d < len els then hashP leafT [tth els (revOf k d)] else hashP noneT []) = (if revOf k d < len own then hashP leafT [tth own (revOf k d)] else hashP noneT [])
    rw [h1, hl]
  | i + 1, k, hi, hk, h => by
    have hp : 2 ^ (d - i) = 2 * 2 ^ (d - (i + 1)) := by rw [show d - i = d - (i + 1) + 1 by omega, Nat.pow_succ]; omega
    have half : ∀ j, j / 2 ^ (i + 1) = j / 2 ^ i / 2 := fun j => by rw [Nat.pow_succ, Nat.div_div_eq_div_mul]
    rw [plD_up, plD_up, plD_same hl i (2 * k) (by omega) (by omega) (fun j hj e => h j hj (by rw [half]; omega)), plD_same hl i (2 * k + 1) (by omega) (by omega) (fun j hj e => h j hj (by rw [half]; omega))]
theorem row_same {els own : List ByteArray} {ps : List Int} {d n i : Nat} {x : Int} (hd : d ≤ 16) (hn : n ≤ 2 ^ d) (hu : ∀ k ∈ ps, U64 k) (hm : MayOk n ps) (ha : Agree els own ps) (hi : i < d) (hx : x ∈ rnth (rowsOf (leavesL ps (d : Nat)) d) i) : plD els d i x.toNat = plD own d i x.toNat := by
  have h1 := (row_memK _ d i hi x).1 hx
  obtain ⟨⟨y, hy, e⟩, _⟩ := (row_mem _ d i hi x).1 hx
  have hb := leaves_in hd y hy
  have h3 := half_bd hb.1 hb.2 (Nat.le_of_lt hi)
  obtain ⟨q, hq⟩ : ∃ q, d - i = q + 1 := ⟨d - i - 1, by omega⟩
  have h4 : 0 ≤ x ∧ x < 2 ^ (q + 1) := by rw [e]; rw [hq] at h3; exact sib_bd h3.1 h3.2
  obtain ⟨xn, rfl⟩ := Int.eq_ofNat_of_zero_le h4.1
  refine plD_same ha.len_ i xn (by omega) (by rw [hq]; have := h4.2; rw [pow_cast] at this; omega) (fun j hj hjx => ha.off _ (fun hp => h1.2 ?_))
  have hk := hu _ hp
  obtain ⟨m, hml, hme⟩ := List.getElem_of_mem hp
  have hr : ((revOf j d : Nat) : Int) < n := by
    have := (hm.2 m hml).1
    rw [nth_eq ps m hml, hme] at this
    exact this
  refine ⟨((j : Nat) : Int), ?_, ?_⟩
  · unfold leavesL
    refine List.mem_map.2 ⟨_, hp, ?_⟩
    rw [turnedP_rev hd (Int.natCast_nonneg _) hr hn, Int.toNat_natCast, revOf_revOf hj]
  · rw [pow_cast, ← hjx]
    exact (Int.natCast_ediv j (2 ^ i))
theorem addF_all (g : KnF) (ks : List Int) (ds : List ByteArray) (f : Int → ByteArray) : ∀ m, m ≤ len ks → (∀ j, j < m → tth ds j = f (nth ks j)) → ∀ k, addF g (ks.take m) ds k = if k ∈ ks.take m then some (f k) else g k
  | 0, _, _, k => by simp [addF]
  | m + 1, hm, h, k => by
    have hm2 : m < ks.length := hm
    have hs : ks.take (m + 1) = ks.take m ++ [nth ks m] := by rw [List.take_succ_eq_append_getElem hm2, nth_eq ks m hm2]
    rw [addF_take g ks ds m hm]
    by_cases e : k = nth ks m
    · subst e
      rw [putF_same, h m (Nat.lt_succ_self m), hs, if_pos (by simp)]
    · rw [putF_other _ _ e, addF_all g ks ds f m (by omega) (fun j hj => h j (by omega)) k, hs]
      by_cases e2 : k ∈ ks.take m
      · rw [if_pos e2, if_pos (by simp [e2])]
      · rw [if_neg e2, if_neg (by simp [e2, e])]
theorem addF_full (g : KnF) (ks : List Int) (ds : List ByteArray) (f : Int → ByteArray) (h : ∀ j, j < len ks → tth ds j = f (nth ks j)) (k : Int) : addF g ks ds k = if k ∈ ks then some (f k) else g k := by
  have := addF_all g ks ds f (len ks) (Nat.le_refl _) h k
  rw [take_len] at this
  exact this
theorem root_back {els own es : List ByteArray} {ps : List Int} {d : Nat} (hdd : depN els = d) (hd : d ≤ 16) (hn : len els ≤ 2 ^ d) (hu : ∀ k ∈ ps, U64 k) (hm : MayOk (len els : Nat) ps) (ha : Agree els own ps)
    (hel : len es = len ps) (hes : ∀ m, m < len ps → tth es m = tth own (nth ps m).toNat) : ∀ i, i ≤ d →
    rootT (g0F (leavesL ps (d : Nat)) es) (rowsOf (leavesL ps (d : Nat)) d) (dgsL els (flatLv (rowsOf (leavesL ps (d : Nat)) d))) i = trF own d (leavesL ps (d : Nat)) i
  | 0, _ => by
    funext k
    show g0F (leavesL ps (d : Nat)) es k = _
    unfold g0F
    rw [addF_full noF _ _ (fun k => plD own d 0 k.toNat) (fun m hm2 => ?_) k]
    · unfold trF noF
      by_cases e : k ∈ leavesL ps (d : Nat)
      · rw [if_pos e, if_pos ⟨k, e, by simp⟩]
      · rw [if_neg e, if_neg]
        rintro ⟨y, hy, rfl⟩
        exact e (by simpa using hy)
    · rw [leavesL_len] at hm2
      rw [leafD_at es m (by omega), hes m hm2]
      have h1 := (hm.2 m hm2).1
      have h2 := (hu _ (mem_nth hm2)).1
      have h3 : nth (leavesL ps (d : Nat)) m = turnedZ (nth ps m) (d : Nat) := by
        have h9 : m < ps.length := hm2
        unfold leavesL nth
        simp [h9]
      rw [h3, turnedP_rev hd h2 h1 hn]
      show _ = plD own d 0 (((revOf (nth ps m).toNat d : Nat) : Int).toNat)
      rw [Int.toNat_natCast]
      show _ = (if revOf (revOf (nth ps m).toNat d) d < len own then hashP leafT [tth own (revOf (revOf (nth ps m).toNat d) d)] else hashP noneT [])
      rw [revOf_revOf (show (nth ps m).toNat < 2 ^ d by omega), if_pos (by rw [ha.len_]; omega)]
  | i + 1, hi => by
    have IH := root_back hdd hd hn hu hm ha hel hes i (by omega)
    have hil : i < len (rowsOf (leavesL ps (d : Nat)) d) := by rw [rowsOf_len]; omega
    rw [rootT_next _ _ _ i hil, IH]
    have hH : ∀ k, addF (trF own d (leavesL ps (d : Nat)) i) (rnth (rowsOf (leavesL ps (d : Nat)) d) i) ((dgsL els (flatLv (rowsOf (leavesL ps (d : Nat)) d))).drop (usedR (rowsOf (leavesL ps (d : Nat)) d) i)) k = if AtK (leavesL ps (d : Nat)) i k ∨ k ∈ rnth (rowsOf (leavesL ps (d : Nat)) d) i then some (plD own d i k.toNat) else none := fun k => by
      rw [addF_full _ _ _ (fun k => plD els d i k.toNat) (fun j hj => by rw [tth_drop, dgs_at els _ i j hil hj, hdd]) k]
      by_cases e : k ∈ rnth (rowsOf (leavesL ps (d : Nat)) d) i
      · rw [if_pos e, if_pos (.inr e), row_same hd hn hu hm ha (by omega) e]
      · rw [if_neg e]
        by_cases e2 : AtK (leavesL ps (d : Nat)) i k
        · rw [trF_in e2, if_pos (.inl e2)]
        · rw [trF_out e2, if_neg (fun h9 => h9.elim e2 e)]
    funext p
    by_cases hp : AtK (leavesL ps (d : Nat)) (i + 1) p
    · rw [trF_in hp]
      have hk := (atK_half p).1 hp
      have s0 : sib (2 * p) = 2 * p + 1 := by unfold sib; split <;> omega
      have s1 : sib (2 * p + 1) = 2 * p := by unfold sib; split <;> omega
      have h0 : AtK (leavesL ps (d : Nat)) i (2 * p) ∨ 2 * p ∈ rnth (rowsOf (leavesL ps (d : Nat)) d) i := by
        by_cases e : AtK (leavesL ps (d : Nat)) i (2 * p)
        · exact .inl e
        · exact .inr ((row_memK _ d i (by omega) _).2 ⟨by rw [s0]; exact hk.resolve_left e, e⟩)
      have h1 : AtK (leavesL ps (d : Nat)) i (2 * p + 1) ∨ 2 * p + 1 ∈ rnth (rowsOf (leavesL ps (d : Nat)) d) i := by
        by_cases e : AtK (leavesL ps (d : Nat)) i (2 * p + 1)
        · exact .inl e
        · exact .inr ((row_memK _ d i (by omega) _).2 ⟨by rw [s1]; exact hk.resolve_right e, e⟩)
      have hp0 : 0 ≤ p := by
        obtain ⟨y, hy, rfl⟩ := hp
        exact Int.ediv_nonneg (leaves_in hd y hy).1 (Int.le_of_lt (Int.pow_pos (by decide)))
      rw [over_some (show prIs _ p from .inl (by rw [hH, if_pos h0]; rfl))]
      unfold kidF
      rw [hH, hH, if_pos h0, if_pos h1]
      show some (hashP nodeT [plD own d i (2 * p).toNat, plD own d i (2 * p + 1).toNat]) = some (plD own d (i + 1) p.toNat)
      rw [plD_up, show (2 * p).toNat = 2 * p.toNat by omega, show (2 * p + 1).toNat = 2 * p.toNat + 1 by omega]
    · rw [trF_out hp]
      have hk : ¬ (AtK (leavesL ps (d : Nat)) i (2 * p) ∨ AtK (leavesL ps (d : Nat)) i (2 * p + 1)) := fun h9 => hp ((atK_half p).2 h9)
      rw [not_or] at hk
      have s0 : sib (2 * p) = 2 * p + 1 := by unfold sib; split <;> omega
      have s1 : sib (2 * p + 1) = 2 * p := by unfold sib; split <;> omega
      have n0 : ¬ (AtK (leavesL ps (d : Nat)) i (2 * p) ∨ 2 * p ∈ rnth (rowsOf (leavesL ps (d : Nat)) d) i) := by
        rintro (h | h)
        · exact hk.1 h
        · exact hk.2 (by have := ((row_memK _ d i (by omega) _).1 h).1; rw [s0] at this; exact this)
      have n1 : ¬ (AtK (leavesL ps (d : Nat)) i (2 * p + 1) ∨ 2 * p + 1 ∈ rnth (rowsOf (leavesL ps (d : Nat)) d) i) := by
        rintro (h | h)
        · exact hk.2 h
        · exact hk.1 (by have := ((row_memK _ d i (by omega) _).1 h).1; rw [s1] at this; exact this)
      have g0 := (hH (2 * p)).trans (if_neg n0)
      have g1 := (hH (2 * p + 1)).trans (if_neg n1)
      unfold overF
      rw [g0, g1]
      simp
theorem back_root {els own es : List ByteArray} {ps : List Int} (hn : len els ≤ 65536) (hu : ∀ k ∈ ps, U64 k) (hm : MayOk (len els : Nat) ps) (ha : Agree els own ps)
    (hel : len es = len ps) (hes : ∀ m, m < len ps → tth es m = tth own (nth ps m).toNat) :
    rootE (len els : Nat) ps es (dgsL els (plcL (len els : Nat) ps)) = 0 ∧ rootS (len els : Nat) ps es (dgsL els (plcL (len els : Nat) ps)) = plD own (depN own) (depN own) 0 := by
  obtain ⟨d, hdd⟩ : ∃ d, depN els = d := ⟨_, rfl⟩
  have hd : d ≤ 16 := by rw [← hdd]; exact depN_le hn
  have hdz : depthZ (len els : Nat) = ((d : Nat) : Int) := by rw [depthZ_len hn, hdd]
  have hn2 : len els ≤ 2 ^ d := by rw [← hdd]; exact (depth_bd (len els) hn).2.1
  have hdo : depN own = d := by unfold depN; rw [ha.len_]; exact hdd
  have hrw : rowsP (len els : Nat) ps = rowsOf (leavesL ps (d : Nat)) d := by unfold rowsP; rw [hdz, needs_rows hd hm.1]
  have hpl : plcL (len els : Nat) ps = flatLv (rowsOf (leavesL ps (d : Nat)) d) := by unfold plcL; rw [hdz, needs_rows hd hm.1]
  have hA : ArgOk (len els : Nat) ps es := ⟨⟨by omega, by omega, hm⟩, hel⟩
  have hB : badB (dgsL els (plcL (len els : Nat) ps)) = false := bad_no (fun x hx => by
    unfold dgsL at hx
    obtain ⟨y, _, rfl⟩ := List.mem_map.1 hx
    exact plD_size _ _ _ _)
  have hN : len (dgsL els (plcL (len els : Nat) ps)) = neededP (len els : Nat) ps := by
    unfold neededP
    rw [hrw, hpl, dgs_all]
  have h := rootE_ok hA hB hN
  refine ⟨h.1, h.2.trans ?_⟩
  unfold digP
  rw [hrw, hpl, hdz, hdo]
  have hr := root_back hdd hd hn2 hu hm ha hel hes d (Nat.le_refl _)
  unfold rootT at hr
  rw [List.take_of_length_le (by have := rowsOf_len (leavesL ps (d : Nat)) d; rw [len_eq] at this; omega)] at hr
  rw [hr]
  have hk : AtK (leavesL ps (d : Nat)) d 0 := by
    have h1 : 0 < (leavesL ps (d : Nat)).length := by have h5 : (leavesL ps (d : Nat)).length = len ps := leavesL_len ps (d : Nat); have h6 := hm.1; omega
    refine ⟨(leavesL ps (d : Nat))[0], List.getElem_mem h1, ?_⟩
    have h2 := leaves_in hd _ (List.getElem_mem h1)
    exact (Int.ediv_eq_zero_of_lt h2.1 h2.2).symm
  unfold kidF
  rw [trF_in hk]
  rfl
end Go.Proofs.YtoafjbillcooiaaGreat
namespace Go.Proofs.YtoafjbillcooiaaGreat
open Go.RowKit Go.ChangeMaps
set_option linter.unusedSimpArgs false
set_option linter.unusedVariables false
def keysOf (L : List (Int × Value)) : List Int := L.map (·.1)
theorem keysOf_len (L : List (Int × Value)) : (keysOf L).length = L.length := by simp [keysOf]
theorem keysOf_get (L : List (Int × Value)) (i : Nat) (h : i < L.length) : (keysOf L)[i]'(by rw [keysOf_len]; exact h) = L[i].1 := by simp [keysOf]
theorem Come.snoc {L : List (Int × Value)} {nb : Nat} {seen : Array Nat} {pre : List Int} (h : Come (keysOf L) nb seen pre) (hn : (L.map (·.1)).Nodup) {i : Nat} (hi : i < L.length) (hs : ¬ nb + i ∈ seen) : Come (keysOf L) nb (seen.push (nb + i)) (pre ++ [L[i].1]) := by
  have := (h.next hn (i := i) (by rw [keysOf_len]; exact hi) hs).2
  rw [keysOf_get L i hi] at this
  exact this
theorem Come.fin {L : List (Int × Value)} {nb : Nat} {seen : Array Nat} {pre : List Int} (h : Come (keysOf L) nb seen pre) (ha : ∀ i, i < L.length → nb + i ∈ seen) : ∀ k, k ∈ pre ↔ k ∈ L.map (·.1) := fun k => by
  rw [h.2]
  constructor
  · rintro ⟨i, hi, _, e⟩; exact e ▸ List.getElem_mem hi
  · intro hk
    obtain ⟨i, hi, e⟩ := List.getElem_of_mem hk
    exact ⟨i, hi, ha i (by simpa using hi), e⟩
theorem Ranging.keep {w w' : World} {b r n : Nat} {q : IntKind} {l : List (Int × Value)} {seen : Array Nat} (h : Ranging w b r q n l seen) (h1 : w'.heap[b]? = w.heap[b]?) (h2 : w'.heap[r]? = w.heap[r]?) : Ranging w' b r q n l seen := ⟨h1.trans h.map, h2.trans h.iter⟩
def KnownAt (b n : Nat) (g : KnF) (w : World) : Prop := ∃ L, w.heap[b]? = some (mObj .u64 n L) ∧ MapF L g
def KoverIs (g : KnF) (w : World) (e : Ending) (w' : World) : Prop := ∃ b, e = .returned (.map (some b)) ∧ KnownAt b 0 (overF g) w' ∧ w.heap.size ≤ b ∧ Below w.heap.size w w'
set_option maxRecDepth 100000 in
set_option maxHeartbeats 8000000 in
theorem kover_any (b n : Nat) (g : KnF) (w : World) (h : KnownAt b n g w) (hz : ∀ k d, g k = some d → d.size ≤ 1000) :
    Calls Tryz.prog 127 #[.map (some b)] w (KoverIs g w) := by
  obtain ⟨L, hb, hm⟩ := h
  have HL := Lib.hid hb
  have HM := Lib.hid hm
  have HZ := Lib.hid hz
  have HBL : Hid (b < w.heap.size) := Lib.hid (lt_of_block hb)
  have hmm := @run_makeMap Tryz.prog
  clear hb hm hz
  go_enter Tryz.func127, Tryz.ntmps127
  go_upto_region 2 with fail
  clear hmm
  obtain ⟨pb, hpb⟩ : ∃ pb, w.heap.size = pb := ⟨_, rfl⟩
  obtain ⟨V, hV⟩ : ∃ V, w.alloc (Obj.map #[] 0) = V := ⟨_, rfl⟩
  have HVP : Hid (V.heap[pb]? = some (mObj .u64 0 [])) := Lib.hid (by rw [← hV]; exact alloc_new_at _ hpb)
  have HVL : Hid (V.heap[b]? = some (mObj .u64 n L)) := Lib.hid (by rw [← hV]; exact block_alloc HL.out _)
  have HVW : Hid (Below w.heap.size w V) := Lib.hid (by rw [← hV]; exact balloc (Below.refl _ _) _)
  have HBP : Hid (b < pb ∧ w.heap.size ≤ pb) := Lib.hid ⟨by have := HBL.out; omega, by omega⟩
  rw [hV, hpb]
  clear hV hpb HL
  go_wp2_with (at_range; refine wpList_range_m rfl _ 168 37 9 .u64 rfl Tryz.underlying168 b n _ rfl HVL.out ?_; intro hrg)
  go_frame
  obtain ⟨r, hr⟩ : ∃ r, V.heap.size = r := ⟨_, rfl⟩
  obtain ⟨U, hU⟩ : ∃ U, V.alloc (.mapIter (some b) (n + L.length) #[] (n + L.length)) = U := ⟨_, rfl⟩
  rw [hr, hU] at hrg ⊢
  have HR := Lib.hid hrg
  have HUP : Hid (U.heap[pb]? = some (mObj .u64 0 [])) := Lib.hid (by rw [← hU]; exact block_alloc HVP.out _)
  have HUW : Hid (Below w.heap.size w U) := Lib.hid (by rw [← hU]; exact balloc HVW.out _)
  have HRP : Hid (pb < r) := Lib.hid (by rw [← hr]; exact lt_of_block HVP.out)
  clear hU hr hrg HVL HVP HVW
  go_loopw [4, 5, 6] (fun _ _ _ wr => ∃ (seen : Array Nat) (pre : List Int) (QL : List (Int × Value)), Hid (Ranging wr b r .u64 n L seen) ∧ Hid (Come (keysOf L) n seen pre) ∧ Hid (wr.heap[pb]? = some (mObj .u64 0 QL)) ∧ Hid (PairF QL (resF g pre)) ∧ Hid (Below w.heap.size w wr)) (fun _ _ _ wr => rLeft wr r (n + L.length))
  case atStart => exact ⟨#[], [], [], HR, Lib.hid (Come.start _ _), HUP, Lib.hid (by rw [resF_nil]; exact PairF.nil), HUW⟩
  case round =>
    clear HR HUP HUW
    obtain ⟨seen, pre, QL, HR, HC, HP, HF, HW⟩ := hrel
    go_wp2_with (at_next; refine wpList_next_m rfl _ rfl b r .u64 n _ seen rfl HR.out ?_ ?_)
    · intro hall
      have HALL := Lib.hid hall
      clear hall
      have HQA : Hid (PairF QL g) := Lib.hid (by
        have h1 := HF.out
        rw [resF_all (g := g) (pre := pre) (fun k hk => (HC.out.fin HALL.out k).2 (HM.out.keys hk))] at h1
        exact h1)
      clear HALL HC HF HR
      have hmm := @run_makeMap Tryz.prog
      go_upto_region 9 with fail
      clear hmm
      obtain ⟨ob, hob⟩ : ∃ ob, wr.heap.size = ob := ⟨_, rfl⟩
      obtain ⟨V, hV⟩ : ∃ V, wr.alloc (Obj.map #[] 0) = V := ⟨_, rfl⟩
      have HVO : Hid (V.heap[ob]? = some (mObj .u64 0 [])) := Lib.hid (by rw [← hV]; exact alloc_new_at _ hob)
      have HVP : Hid (V.heap[pb]? = some (mObj .u64 0 QL)) := Lib.hid (by rw [← hV]; exact block_alloc HP.out _)
      have HVW : Hid (Below w.heap.size w V) := Lib.hid (by rw [← hV]; exact balloc HW.out _)
      have HOP : Hid (pb < ob ∧ w.heap.size ≤ ob) := Lib.hid ⟨by rw [← hob]; exact lt_of_block HP.out, by rw [← hob]; exact HW.out.size⟩
      rw [hV, hob]
      clear hV hob HP HW
      obtain ⟨zn, hzn⟩ : ∃ zn : Nat, 0 = zn := ⟨_, rfl⟩
      have HVP := Lib.hid (by have h := HVP.out; rw [hzn] at h; exact h)
      clear hzn
      go_wp2_with (at_range; refine wpList_range_m rfl _ 218 37 220 .u64 rfl Tryz.underlying218 pb zn _ rfl HVP.out ?_; intro hrg)
      go_frame
      obtain ⟨r2, hr2⟩ : ∃ r2, V.heap.size = r2 := ⟨_, rfl⟩
      obtain ⟨U2, hU2⟩ : ∃ U2, V.alloc (.mapIter (some pb) (zn + QL.length) #[] (zn + QL.length)) = U2 := ⟨_, rfl⟩
      rw [hr2, hU2] at hrg ⊢
      have HR := Lib.hid hrg
      have HUO : Hid (U2.heap[ob]? = some (mObj .u64 0 [])) := Lib.hid (by rw [← hU2]; exact block_alloc HVO.out _)
      have HUW : Hid (Below w.heap.size w U2) := Lib.hid (by rw [← hU2]; exact balloc HVW.out _)
      have HRO : Hid (ob < r2) := Lib.hid (by rw [← hr2]; exact lt_of_block HVO.out)
      clear hU2 hr2 hrg HVO HVP HVW
      go_loopw [8, 9] (fun _ _ wr => ∃ (seen : Array Nat) (pre : List Int) (OL : List (Int × Value)), Hid (Ranging wr pb r2 .u64 zn QL seen) ∧ Hid (Come (keysOf QL) zn seen pre) ∧ Hid (wr.heap[ob]? = some (mObj .u64 0 OL)) ∧ Hid (MapF OL (resF (overF g) pre)) ∧ Hid (Below w.heap.size w wr)) (fun _ _ wr => rLeft wr r2 (zn + QL.length))
      case atStart => exact ⟨#[], [], [], HR, Lib.hid (Come.start _ _), HUO, Lib.hid (by rw [resF_nil]; exact MapF.nil), HUW⟩
      case round =>
        clear HR HUO HUW
        obtain ⟨seen, pre, OL, HR, HC, HO, HF, HW⟩ := hrel
        go_wp2_with (at_next; refine wpList_next_m rfl _ rfl pb r2 .u64 zn _ seen rfl HR.out ?_ ?_)
        · intro hall
          have HALL := Lib.hid hall
          clear hall
          have HOA : Hid (MapF OL (overF g)) := Lib.hid (by
            have h1 := HF.out
            rw [resF_all (g := overF g) (pre := pre) (fun k hk => (HC.out.fin HALL.out k).2 (HQA.out.keys hk))] at h1
            exact h1)
          clear HALL HC HF HR
          go_wp2
          go_ret
          exact ⟨ob, rfl, ⟨OL, HO.out, HOA.out⟩, HOP.out.2, HW.out⟩
        · intro i hi w1 hns hr1 hlt hb1 hsz hoth hen
          have HR1 := Lib.hid hr1
          have HRX9 := Lib.hid hr1
          have HLT := Lib.hid hlt
          have HC1 : Hid (Come (keysOf QL) zn (seen.push (zn + i)) (pre ++ [QL[i].1])) := Lib.hid (HC.out.snoc HQA.out.nodup hi hns)
          have HO1 : Hid (w1.heap[ob]? = some (mObj .u64 0 OL)) := Lib.hid ((hoth ob (by have := HRO.out; omega)).trans HO.out)
          have HW1 : Hid (Below w.heap.size w w1) := Lib.hid (HW.out.trans (hb1 _ (by have := HRO.out; have := HOP.out; omega)))
          obtain ⟨hd, hpi⟩ := HQA.out.at i hi
          have hku := HQA.out.u64 _ (List.getElem_mem hi)
          obtain ⟨k, hk⟩ : ∃ k, QL[i].1 = k := ⟨_, rfl⟩
          rw [hk] at hku hen HC1 hd hpi ⊢
          obtain ⟨x0, hx0⟩ : ∃ x0, kidF g (2 * k) = x0 := ⟨_, rfl⟩
          obtain ⟨x1, hx1⟩ : ∃ x1, kidF g (2 * k + 1) = x1 := ⟨_, rfl⟩
          have hd2 : QL[i].2 = .agg #[.string x0, .string x1] := by rw [hd, ← hx0, ← hx1]; rfl
          rw [hd2] at hen ⊢
          have hov : overF g k = some (hashP nodeT [x0, x1]) := by rw [← hx0, ← hx1]; exact over_some hpi
          have HOV := Lib.hid hov
          have HKU := Lib.hid hku
          have HXZ : Hid (x0.size ≤ 1000000 ∧ x1.size ≤ 1000000) := Lib.hid (by
            have hkz : ∀ j, (kidF g j).size ≤ 1000000 := fun j => by
              unfold kidF
              cases hg : g j with
              | none => show (0 : Nat) ≤ _; omega
              | some d => have := HZ.out j d hg; show d.size ≤ _; omega
            rw [← hx0, ← hx1]
            exact ⟨hkz _, hkz _⟩)
          clear hd hd2 hku hk hns hr1 hlt hb1 hsz hoth hx0 hx1 hov hpi
          go_upto_region 12 with fail
          obtain ⟨q, hq⟩ : ∃ q, w1.heap.size = q := ⟨_, rfl⟩
          obtain ⟨X, hX⟩ : ∃ X, w1.alloc (Obj.cells #[.string x0, .string x1] 220) = X := ⟨_, rfl⟩
          have HQ0 : Hid (X.heap[q]? = some (.cells #[.string x0, .string x1] 220 (0, 0))) := Lib.hid (by rw [← hX]; exact alloc_new_at _ hq)
          have HRX : Hid (Ranging X pb r2 .u64 zn QL (seen.push (zn + i))) := Lib.hid (HR1.out.keep (by rw [← hX]; exact Below.heap_alloc _ _ _ (lt_of_block HR1.out.map)) (by rw [← hX]; exact Below.heap_alloc _ _ _ (lt_of_block HR1.out.iter)))
          have HOX : Hid (X.heap[ob]? = some (mObj .u64 0 OL)) := Lib.hid (by rw [← hX]; exact block_alloc HO1.out _)
          have HWX : Hid (Below w.heap.size w X) := Lib.hid (by rw [← hX]; exact balloc HW1.out _)
          rw [hq, hX]
          clear hq hX HR1 HO1 HW1 HR HC HO HW
          have c0 : X.cell? ⟨q, 0, none⟩ = some (.string x0) := by rw [block_cell HQ0.out]; rfl
          have c1 : X.cell? ⟨q, 1, none⟩ = some (.string x1) := by rw [block_cell HQ0.out]; rfl
          have c2 : q < X.heap.size := lt_of_block HQ0.out
          go_wp2_with fail
          clear c0 c1 c2
          refine (hash2_any nodeT x0 x1 X (by decide) (by decide) HXZ.out.1 HXZ.out.2).mono ?_
          rintro e w' ⟨rfl, hXd⟩
          have HRZ : Hid (Ranging w' pb r2 .u64 zn QL (seen.push (zn + i))) := Lib.hid (HRX.out.keep (hXd.block _ (lt_of_block HRX.out.map)) (hXd.block _ (lt_of_block HRX.out.iter)))
          have HOZ : Hid (w'.heap[ob]? = some (mObj .u64 0 OL)) := Lib.hid ((hXd.block _ (lt_of_block HOX.out)).trans HOX.out)
          have HWZ : Hid (Below w.heap.size w w') := Lib.hid (bnext HWX.out hXd)
          obtain ⟨D, hD⟩ : ∃ D, hashP nodeT [x0, x1] = D := ⟨_, rfl⟩
          rw [hD] at HOV ⊢
          clear hXd HRX HOX HWX HQ0 hD
          go_wp2_with (at_mapUpdate; refine wpList_mapUpdate_m rfl _ _ _ 168 37 9 .u64 rfl Tryz.underlying168 Tryz.underlying37 ob 0 _ rfl HOZ.out _ _ rfl rfl ?_)
          have HPP : Hid ((setBlock w' ob (mObj .u64 0 (mPut OL k (.string D)))).heap[ob]? = some (mObj .u64 0 (mPut OL k (.string D)))) := Lib.hid (setBlock_same HOZ.out)
          have HFF : Hid (MapF (mPut OL k (.string D)) (resF (overF g) (pre ++ [k]))) := Lib.hid (by
            rw [resF_snoc pre HOV.out]
            exact HF.out.put _ D HKU.out)
          have HRR : Hid (Ranging (setBlock w' ob (mObj .u64 0 (mPut OL k (.string D)))) pb r2 .u64 zn QL (seen.push (zn + i))) := Lib.hid (HRZ.out.keep (setBlock_other (by have := HOP.out; omega)) (setBlock_other (by have := HRO.out; omega)))
          have HWW : Hid (Below w.heap.size w (setBlock w' ob (mObj .u64 0 (mPut OL k (.string D))))) := Lib.hid (setBlock_below HWZ.out HOP.out.2)
          have HLL : Hid (rLeft (setBlock w' ob (mObj .u64 0 (mPut OL k (.string D)))) r2 (zn + QL.length) < rLeft wr r2 (zn + QL.length)) := Lib.hid (by have := HLT.out; rw [HRX9.out.left] at this; rw [HRR.out.left]; exact this)
          go_roundw
          case rel =>
            (repeat apply Exists.intro)
            exact ⟨⟨_, _, _, HRR, HC1, HPP, HFF, HWW⟩, rfl⟩
          case measure => exact HLL.out
    · intro i hi w1 hns hr1 hlt hb1 hsz hoth hen
      have HR1 := Lib.hid hr1
      have HRX9 := Lib.hid hr1
      have HLT := Lib.hid hlt
      have HC1 : Hid (Come (keysOf L) n (seen.push (n + i)) (pre ++ [L[i].1])) := Lib.hid (HC.out.snoc HM.out.nodup hi hns)
      have HP1 : Hid (w1.heap[pb]? = some (mObj .u64 0 QL)) := Lib.hid ((hoth pb (by have := HRP.out; omega)).trans HP.out)
      have HW1 : Hid (Below w.heap.size w w1) := Lib.hid (HW.out.trans (hb1 _ (by have := HRP.out; have := HBP.out; omega)))
      obtain ⟨d, hd, hg⟩ := HM.out.at i hi
      have hku := HM.out.u64 _ (List.getElem_mem hi)
      obtain ⟨k, hk⟩ : ∃ k, L[i].1 = k := ⟨_, rfl⟩
      obtain ⟨kn, rfl⟩ : ∃ kn : Nat, k = (kn : Nat) := ⟨k.toNat, by unfold U64 at hku; omega⟩
      rw [hk] at hg hku hen HC1 ⊢
      rw [hd] at hen ⊢
      have HG := Lib.hid hg
      have hk1 : kn < 18446744073709551616 := by unfold U64 at hku; omega
      have HKU := Lib.hid hku
      clear hd hg hku hk hns hr1 hlt hb1 hsz hoth
      obtain ⟨y, hy⟩ : ∃ y, kn % 2 = y := ⟨_, rfl⟩
      have s3 : bits .and .u64 ((kn : Nat) : Int) 1 = ((y : Nat) : Int) := by
        rw [show (1 : Int) = ((1 : Nat) : Int) from rfl, u64_and_nat _ _ hk1 (by omega), Nat.and_one_is_mod, hy]
      have HPA : Hid (∀ w9, Calls Tryz.prog 134 #[.int .u64 ((kn : Nat) : Int)] w9 fun e w' => e = .returned (.int .u64 (((kn : Nat) : Int) / 2)) ∧ w9 = w') := Lib.hid (fun w9 => (parent_any ((kn : Nat) : Int) w9 (by omega) (by omega)).mono (fun e w' h9 => ⟨h9.1, h9.2.symm⟩))
      go_wp2_with fail
      refine (HPA.out w1).mono ?_
      rintro e w2 ⟨rfl, rfl⟩
      obtain ⟨ph, hph⟩ : ∃ ph : Int, ((kn : Nat) : Int) / 2 = ph := ⟨_, rfl⟩
      have HPH := Lib.hid hph
      obtain ⟨x0, hx0⟩ : ∃ x0, kidF (resF g pre) (2 * ph) = x0 := ⟨_, rfl⟩
      obtain ⟨x1, hx1⟩ : ∃ x1, kidF (resF g pre) (2 * ph + 1) = x1 := ⟨_, rfl⟩
      have HLK : Hid ((mGet QL ph).getD (.agg #[.string ⟨#[]⟩, .string ⟨#[]⟩]) = .agg #[.string x0, .string x1]) := Lib.hid (by rw [← hx0, ← hx1]; exact HF.out.look ph)
      have HX0 := Lib.hid hx0
      have HX1 := Lib.hid hx1
      rw [hph] at HPA ⊢
      clear hph hx0 hx1
      go_upto_region 6 with (at_lookup; refine wpList_lookup_m rfl _ _ 218 37 220 .u64 rfl Tryz.underlying218 Tryz.underlying37 (.agg #[.string ⟨#[]⟩, .string ⟨#[]⟩]) (Tryz.zeroValue220 _) pb 0 _ rfl HP1.out _ rfl ?_; rw [HLK.out])
      obtain ⟨q, hq⟩ : ∃ q, w1.heap.size = q := ⟨_, rfl⟩
      obtain ⟨X, hX⟩ : ∃ X, w1.alloc (Obj.cells #[.string x0, .string x1] 220) = X := ⟨_, rfl⟩
      have HQ0 : Hid (X.heap[q]? = some (.cells #[.string x0, .string x1] 220 (0, 0))) := Lib.hid (by rw [← hX]; exact alloc_new_at _ hq)
      have HRX : Hid (Ranging X b r .u64 n L (seen.push (n + i))) := Lib.hid (HR1.out.keep (by rw [← hX]; exact Below.heap_alloc _ _ _ (lt_of_block HR1.out.map)) (by rw [← hX]; exact Below.heap_alloc _ _ _ (lt_of_block HR1.out.iter)))
      have HPX : Hid (X.heap[pb]? = some (mObj .u64 0 QL)) := Lib.hid (by rw [← hX]; exact block_alloc HP1.out _)
      have HWX : Hid (Below w.heap.size w X) := Lib.hid (by rw [← hX]; exact balloc HW1.out _)
      have HQL : Hid (r < q ∧ b < q ∧ pb < q) := Lib.hid ⟨by rw [← hq]; exact lt_of_block HR1.out.iter, by rw [← hq]; exact lt_of_block HR1.out.map, by rw [← hq]; exact lt_of_block HP1.out⟩
      rw [hq, hX]
      clear hq hX HR1 HP1 HW1 HR HC HP HW
      have hy2 : y < 2 := by omega
      obtain ⟨v0, hv0⟩ : ∃ v0, (#[Value.string x0, .string x1] : Array Value)[y]? = some v0 := by
        rcases (show y = 0 ∨ y = 1 by omega) with rfl | rfl <;> exact ⟨_, rfl⟩
      have c0 : X.cell? ⟨q, y, none⟩ = some v0 := by rw [block_cell HQ0.out, hv0]
      have c1 : X.frozen? ⟨q, y, none⟩ = false := block_free HQ0.out y
      have c2 : q < X.heap.size := lt_of_block HQ0.out
      have b1 : ¬ 2 ≤ y := by omega
      have b2 : ¬ (2 : Int) ≤ (y : Int) := by omega
      obtain ⟨z0, hz0⟩ : ∃ z0, (if y = 0 then d else x0) = z0 := ⟨_, rfl⟩
      obtain ⟨z1, hz1⟩ : ∃ z1, (if y = 0 then x1 else d) = z1 := ⟨_, rfl⟩
      have HZS : Hid ((#[Value.string x0, .string x1] : Array Value).setIfInBounds y (.string d) = #[.string z0, .string z1]) := Lib.hid (by
        rw [← hz0, ← hz1]
        rcases (show y = 0 ∨ y = 1 by omega) with rfl | rfl <;> rfl)
      have HZP : Hid (prPut (resF g pre) ((kn : Nat) : Int) d = .agg #[.string z0, .string z1]) := Lib.hid (by
        unfold prPut
        rw [HPH.out, HX0.out, HX1.out, ← hz0, ← hz1]
        rcases (show y = 0 ∨ y = 1 by omega) with rfl | rfl
        · rw [if_pos (show ((kn : Nat) : Int) % 2 = 0 by omega)]; rfl
        · rw [if_neg (show ¬ ((kn : Nat) : Int) % 2 = 0 by omega)]; rfl)
      clear hv0 hy hy2 hz0 hz1
      go_upto_region 7 with fail
      clear c0 c1 c2 b1 b2 s3
      obtain ⟨Y, hY⟩ : ∃ Y, X.setCell ⟨q, y, none⟩ (.string d) = Y := ⟨_, rfl⟩
      have HQB : Hid (Y.heap[q]? = some (.cells #[.string z0, .string z1] 220 (0, 0))) := Lib.hid (by rw [← hY, ← HZS.out]; exact block_setCell HQ0.out _)
      have HRY : Hid (Ranging Y b r .u64 n L (seen.push (n + i))) := Lib.hid (HRX.out.keep (by rw [← hY]; exact Below.heap_setCell _ _ _ _ (show b ≠ q by have := HQL.out; omega)) (by rw [← hY]; exact Below.heap_setCell _ _ _ _ (show r ≠ q by have := HQL.out; omega)))
      have HPY : Hid (Y.heap[pb]? = some (mObj .u64 0 QL)) := Lib.hid (by rw [← hY]; exact (Below.heap_setCell _ _ _ _ (show pb ≠ q by have := HQL.out; omega)).trans HPX.out)
      have HWY : Hid (Below w.heap.size w Y) := Lib.hid (by rw [← hY]; exact bset HWX.out (show w.heap.size ≤ q by have := HQL.out; have := HBP.out; omega) _)
      rw [hY]
      clear hY HQ0 HRX HPX HWX HZS
      have HPB : Hid (∀ w9, Calls Tryz.prog 134 #[.int .u64 ((kn : Nat) : Int)] w9 fun e w' => e = .returned (.int .u64 ph) ∧ Below w9.heap.size w9 w') := Lib.hid (fun w9 => (HPA.out w9).mono (fun e w' h9 => ⟨h9.1, by rw [← h9.2]; exact Below.refl _ _⟩))
      have HI2 : Hid ((Tryz.prog.info? 220).map (·.size) = some (#[Value.string z0, .string z1] : Array Value).size) := Lib.hid (by kernel_rfl)
      refine wp_region_tail 4 1000 (none) (phis (List.map qv [.map (some pb), .int .u64 (kn : Nat), .int .u64 ph, .agg #[.string z0, .string z1]])) rfl (by kernel_rfl) (by kernel_rfl) (mono_of mono_qv) (steps_of 4 ⟨?s0, ?s1, ?s2, ?s3, trivial⟩) ?_
      case s0 =>
        refine qV (fun _ => rfl) rfl fun av wv hE hO hD => ?_
        simp [go_sem, qF av 3 (.map (some pb)) (hO.2.2 3 rfl)]
      case s1 =>
        refine qV (fun _ => rfl) rfl fun av wv hE hO hD => ?_
        simp [go_sem, qF av 4 (.int .u64 (kn : Nat)) (hO.2.2 4 rfl)]
      case s2 =>
        refine step_wp (fun av wv hE hS hO hD => ⟨rfl, ?_⟩)
        have f27 := qE (hD.1 rfl _ rfl)
        refine wp_of_call (v := .int .u64 ph) (by simp [go_sem, f27]) (HPB.out wv) (fun w2 hb => ⟨_, rfl, es_of_ext hb, rfl⟩)
      case s3 =>
        refine step_wp (fun av wv hE hS hO hD => ⟨rfl, ?_⟩)
        have h6 : av.eval (.tmp 6) = (.pointer (some ⟨q, 0, none⟩)) := hO.2.2 6 rfl
        exact wp_load_row 220 _ rfl q h6 220 #[.string z0, .string z1] (0, 0) _ (extB_block hE (by simp) HQB.out) Tryz.underlying220 rfl HI2.out ⟨_, rfl, es_of_ext (Ext_refl _), rfl⟩
      intro a' w' hE hO hall
      have hA := act_of_outer (ds := [26, 27, 28, 29]) rfl hO (by kernel_rfl)
      obtain ⟨j0, j1, j2, j3, -⟩ := hall
      simp only [List.foldl_cons, List.foldl_nil, Act.put, List.setIfInBounds_toArray, List.set_cons_succ, List.set_cons_zero, qJ 26 (j0 _ rfl), qJ 27 (j1 _ rfl), qJ 28 (j2 _ rfl), qJ 29 (j3 _ rfl)] at hA
      clear hO j0 j1 j2 j3
      subst hA
      have hXd := of_drew hE
      have HRZ : Hid (Ranging w' b r .u64 n L (seen.push (n + i))) := Lib.hid (HRY.out.keep (hXd.block _ (lt_of_block HRY.out.map)) (hXd.block _ (lt_of_block HRY.out.iter)))
      have HPZ : Hid (w'.heap[pb]? = some (mObj .u64 0 QL)) := Lib.hid ((hXd.block _ (lt_of_block HPY.out)).trans HPY.out)
      have HWZ : Hid (Below w.heap.size w w') := Lib.hid (bnext HWY.out hXd)
      clear hE hXd HPB HI2 HQB HRY HPY HWY
      simp only [List.drop_succ_cons, List.drop_zero]
      go_wp2_with (at_mapUpdate; refine wpList_mapUpdate_m rfl _ _ _ 218 37 220 .u64 rfl Tryz.underlying218 Tryz.underlying37 pb 0 _ rfl HPZ.out _ _ rfl rfl ?_)
      have HPP : Hid ((setBlock w' pb (mObj .u64 0 (mPut QL ph (.agg #[.string z0, .string z1])))).heap[pb]? = some (mObj .u64 0 (mPut QL ph (.agg #[.string z0, .string z1])))) := Lib.hid (setBlock_same HPZ.out)
      have HFF : Hid (PairF (mPut QL ph (.agg #[.string z0, .string z1])) (resF g (pre ++ [((kn : Nat) : Int)]))) := Lib.hid (by
        rw [resF_snoc pre HG.out, ← HZP.out, ← HPH.out]
        exact HF.out.put _ d HKU.out)
      have HRR : Hid (Ranging (setBlock w' pb (mObj .u64 0 (mPut QL ph (.agg #[.string z0, .string z1])))) b r .u64 n L (seen.push (n + i))) := Lib.hid (HRZ.out.keep (setBlock_other (by have := HBP.out; omega)) (setBlock_other (by have := HRP.out; omega)))
      have HWW : Hid (Below w.heap.size w (setBlock w' pb (mObj .u64 0 (mPut QL ph (.agg #[.string z0, .string z1]))))) := Lib.hid (setBlock_below HWZ.out HBP.out.2)
      have HLL : Hid (rLeft (setBlock w' pb (mObj .u64 0 (mPut QL ph (.agg #[.string z0, .string z1])))) r (n + L.length) < rLeft wr r (n + L.length)) := Lib.hid (by have := HLT.out; rw [HRX9.out.left] at this; rw [HRR.out.left]; exact this)
      go_roundw
      case rel =>
        (repeat apply Exists.intro)
        exact ⟨⟨_, _, _, HRR, HC1, HPP, HFF, HWW⟩, rfl⟩
      case measure => exact HLL.out
end Go.Proofs.YtoafjbillcooiaaGreat
namespace Go.Proofs.YtoafjbillcooiaaGreat
open Go.RowKit Go.ChangeMaps
set_option linter.unusedSimpArgs false
set_option linter.unusedVariables false
set_option maxRecDepth 100000 in
set_option maxHeartbeats 4000000 in
theorem proot_arg (n : Int) (ps : List Int) (es ds : List ByteArray) (pa ea da : Option Addr) (pc ec dc : Nat) (w : World) (hp : U64s w pa ps) (hl : len ps ≤ 100) (h0 : -9223372036854775808 ≤ n) (h1 : n ≤ 9223372036854775807) (hb : ¬ ArgOk n ps es) (hle : len es ≤ 1000000) :
    Calls Tryz.prog 76 #[.int .i64 n, .slice pa (len ps) pc, .slice ea (len es) ec, .slice da (len ds) dc] w (RootIs n ps es ds w) := by
  have HE : Hid (rootE n ps es ds = 2 ∧ rootS n ps es ds = ⟨#[]⟩) := Lib.hid (by
    have h9 : rootE n ps es ds = 2 := by unfold rootE; rw [if_pos hb]
    exact ⟨h9, by unfold rootS; rw [h9]; rfl⟩)
  have HM := Lib.hid (fun w9 hb9 => pmay_any n ps pa pc w9 (hp.below hb9) (by omega) h0 h1)
  by_cases hs : SizeOk n ps
  · have hne : ¬ len es = len ps := fun h9 => hb ⟨hs, h9⟩
    have z1 : ¬ ((len es : Nat) : Int) = ((len ps : Nat) : Int) := by omega
    rw [decide_eq_true hs] at HM
    clear hb hs hp hl h0 h1 hne hle
    go_enter Tryz.func76, Tryz.ntmps76
    go_wp2_with fail
    refine (HM.out _ (balloc (Below.refl _ _) _)).mono ?_
    rintro e w1 ⟨rfl, hb1⟩
    have HB1 : Hid (Below w.heap.size w w1) := Lib.hid (bnext (balloc (Below.refl _ _) _) hb1)
    clear hb1
    go_wp2
    go_ret2
    exact ⟨by rw [HE.out.1, HE.out.2]; rfl, HB1.out⟩
  · rw [decide_eq_false hs] at HM
    clear hb hs hp hl h0 h1 hle
    go_enter Tryz.func76, Tryz.ntmps76
    go_wp2_with fail
    refine (HM.out _ (balloc (Below.refl _ _) _)).mono ?_
    rintro e w1 ⟨rfl, hb1⟩
    have HB1 : Hid (Below w.heap.size w w1) := Lib.hid (bnext (balloc (Below.refl _ _) _) hb1)
    clear hb1
    go_wp2
    go_ret2
    exact ⟨by rw [HE.out.1, HE.out.2]; rfl, HB1.out⟩
set_option maxRecDepth 100000 in
set_option maxHeartbeats 4000000 in
theorem proot_form (n : Int) (ps : List Int) (es ds : List ByteArray) (pa ea da : Option Addr) (pc ec dc : Nat) (w : World) (hp : U64s w pa ps) (hd : Txts w da ds) (hl : len ps ≤ 100) (hld : len ds ≤ 1000000) (h0 : -9223372036854775808 ≤ n) (h1 : n ≤ 9223372036854775807) (hb : ArgOk n ps es) (hbad : badB ds = true) :
    Calls Tryz.prog 76 #[.int .i64 n, .slice pa (len ps) pc, .slice ea (len es) ec, .slice da (len ds) dc] w (RootIs n ps es ds w) := by
  have HE : Hid (rootE n ps es ds = 5 ∧ rootS n ps es ds = ⟨#[]⟩) := Lib.hid (by
    have h9 : rootE n ps es ds = 5 := by unfold rootE; rw [if_neg (fun h => h hb), if_pos hbad]
    exact ⟨h9, by unfold rootS; rw [h9]; rfl⟩)
  have HM := Lib.hid (fun w9 hb9 => pmay_any n ps pa pc w9 (hp.below hb9) (by omega) h0 h1)
  rw [decide_eq_true hb.1] at HM
  have hel := hb.2
  have HBD := Lib.hid (fun w9 hb9 => bad_any da dc ds w9 (hd.below hb9) (by omega))
  rw [hbad] at HBD
  clear hb hp hl h0 h1 hbad hld hd
  go_enter Tryz.func76, Tryz.ntmps76
  rw [hel]
  go_upto_region 1 with fail
  obtain ⟨pb, hpb⟩ : ∃ pb, w.heap.size = pb := ⟨_, rfl⟩
  obtain ⟨V, hV⟩ : ∃ V, w.alloc (.cells #[.slice da (len ds) dc] 22) = V := ⟨_, rfl⟩
  have HVP : Hid (V.heap[pb]? = some (.cells #[.slice da (len ds) dc] 22 (0, 0))) := Lib.hid (by rw [← hV]; exact alloc_new_at _ hpb)
  have HVW : Hid (Below w.heap.size w V) := Lib.hid (by rw [← hV]; exact balloc (Below.refl _ _) _)
  rw [hpb, hV]
  clear hV hpb
  go_wp2_with fail
  refine (HM.out _ HVW.out).mono ?_
  rintro e w1 ⟨rfl, hb1⟩
  have HP1 : Hid (w1.heap[pb]? = some (.cells #[.slice da (len ds) dc] 22 (0, 0))) := Lib.hid ((hb1.block _ (lt_of_block HVP.out)).trans HVP.out)
  have HB1 : Hid (Below w.heap.size w w1) := Lib.hid (bnext HVW.out hb1)
  clear hb1
  have c0 : w1.cell? ⟨pb, 0, none⟩ = some (.slice da (len ds) dc) := by rw [block_cell HP1.out]; rfl
  have c2 : pb < w1.heap.size := lt_of_block HP1.out
  go_wp2_with fail
  refine (HBD.out w1 HB1.out).mono ?_
  rintro e w2 ⟨rfl, rfl⟩
  clear c0 c2
  go_wp2
  go_ret2
  exact ⟨by rw [HE.out.1, HE.out.2]; rfl, HB1.out⟩
end Go.Proofs.YtoafjbillcooiaaGreat
namespace Go.Proofs.YtoafjbillcooiaaGreat
open Go.RowKit Go.ChangeMaps
set_option linter.unusedSimpArgs false
set_option linter.unusedVariables false
def NextIs (pb : Nat) (a : Option Addr) (ds : List ByteArray) (w : World) (e : Ending) (w' : World) : Prop := ∃ a' c', e = .returned (.string (tth ds 0)) ∧ w' = w.setCell ⟨pb, 0, none⟩ (.slice a' (len ds - 1) c') ∧ len ds - 1 ≤ c' ∧ (∀ w9, Txts w9 a ds → Txts w9 a' (ds.drop 1))
theorem txts_drop1 {w : World} {b off : Nat} {ds : List ByteArray} (h : Txts w (some ⟨b, off, none⟩) ds) : Txts w (some ⟨b, off + 1, none⟩) (ds.drop 1) := fun i hi => by
  have h1 : i < (ds.drop 1).length := hi
  rw [List.length_drop] at h1
  obtain ⟨b2, off2, e, hc⟩ := h (i + 1) (show i + 1 < ds.length by omega)
  cases e
  refine ⟨b, off + 1, rfl, ?_⟩
  rw [tth_drop, Nat.add_assoc, Nat.add_comm 1 i]
  exact hc
theorem nextd_any (pb : Nat) (a : Option Addr) (c : Nat) (ds : List ByteArray) (w : World) (hb : w.heap[pb]? = some (.cells #[.slice a (len ds) c] 22 (0, 0))) (ht : Txts w a ds) (h0 : 0 < len ds) (hc : len ds ≤ c) :
    Calls Tryz.prog 126 #[.pointer (some ⟨pb, 0, none⟩)] w (NextIs pb a ds w) := by
  obtain ⟨b, off, rfl, hcell⟩ := ht 0 h0
  have c0 : w.cell? ⟨pb, 0, none⟩ = some (.slice (some ⟨b, off, none⟩) (len ds) c) := by rw [block_cell hb]; rfl
  have c1 : w.frozen? ⟨pb, 0, none⟩ = false := block_free hb 0
  have c2 : pb < w.heap.size := lt_of_block hb
  have l1 := lt_of_cell hcell
  have z0 : (0 : Int) < (len ds : Int) := by omega
  have z1 : ¬ len ds ≤ 0 := by omega
  rw [Nat.add_zero] at hcell
  clear hb ht
  go_enter Tryz.func126, Tryz.ntmps126
  go_wp2_with fail
  · skip
    go_ret
    refine ⟨_, _, rfl, rfl, by omega, fun w9 h9 => ?_⟩
    rw [show ds.drop 1 = [] from List.drop_eq_nil_of_le (by have : len ds = ds.length := rfl; omega)]
    exact Txts.nil _ _
  · skip
    go_ret
    exact ⟨_, _, rfl, rfl, by omega, fun w9 h9 => txts_drop1 h9⟩
end Go.Proofs.YtoafjbillcooiaaGreat
namespace Go.Proofs.YtoafjbillcooiaaGreat
open Go.RowKit Go.ChangeMaps
set_option linter.unusedSimpArgs false
set_option linter.unusedVariables false
theorem leaves_nth (ps : List Int) (d : Int) (m : Nat) (h : m < len ps) : nth (leavesL ps d) m = turnedZ (nth ps m) d := by
  have h2 : m < ps.length := h
  unfold leavesL nth
  simp [h2]
structure LvAt (mb : Nat) (g : KnF) (w : World) : Prop where
  at_ : KnownAt mb 0 g w
  small : SmF g
theorem LvAt.keep {mb : Nat} {g : KnF} {w w' : World} (h : LvAt mb g w) (hk : w'.heap[mb]? = w.heap[mb]?) : LvAt mb g w' := by
  obtain ⟨⟨L, h1, h2⟩, h3⟩ := h
  exact ⟨⟨L, hk.trans h1, h2⟩, h3⟩
theorem LvAt.lt {mb : Nat} {g : KnF} {w : World} (h : LvAt mb g w) : mb < w.heap.size := by
  obtain ⟨⟨L, h1, h2⟩, h3⟩ := h
  exact lt_of_block h1
theorem own_keeps {wr W4 : World} {T : TypeId} {base b n size : Nat} {v : Value} {xs : List Value} (h : wr.ownsRow base T size v n xs) (hg : wr.grownBy W4 v.ownBlock) (hb : b < base) (hl : b < wr.heap.size) : W4.heap[b]? = wr.heap[b]? :=
  hg.block b hl (fun e => by have := (h.lt b e.symm).1; omega)
theorem take_snoc_nth {l : List Int} {m : Nat} (h : m < len l) : l.take (m + 1) = l.take m ++ [nth l m] := by
  have h2 : m < l.length := h
  rw [List.take_succ_eq_append_getElem h2, nth_eq l m h2]
theorem own_setBlock {w : World} {base n : Nat} {T : TypeId} {size : Nat} {v : Value} {xs : List Value} {p : Nat} (h : w.ownsRow base T size v n xs) (hp : p < base) (o : Obj) : (setBlock w p o).ownsRow base T size v n xs := by
  refine ⟨h.1, ?_⟩
  rcases h.2 with h2 | ⟨g, cap, cur, rfl, hg, hgb, h3⟩
  · exact .inl h2
  · exact .inr ⟨g, cap, cur, rfl, hg, (setBlock_other (by omega)).trans hgb, h3⟩
def RowsU (B : Nat) (w : World) (a : Option Addr) (rs : List (List Int)) : Prop :=
  ∀ m, m < len rs → ∃ rb ro ra rc, a = some ⟨rb, ro, none⟩ ∧ B ≤ rb ∧ w.cell? ⟨rb, ro + m, none⟩ = some (.slice ra (len (rnth rs m)) rc) ∧ ∀ q, q < len (rnth rs m) → ∃ ub uo, ra = some ⟨ub, uo, none⟩ ∧ B ≤ ub ∧ w.cell? ⟨ub, uo + q, none⟩ = some (.int .u64 (nth (rnth rs m) q))
theorem rowsU_of {w : World} {B : Nat} {v : Value} {vals : List Value} {rs : List (List Int)} (h : w.ownsRow B 23 1 v vals.length vals) (hr : RowsAre w B vals rs) : ∃ a cap, v = .slice a (len rs) cap ∧ RowsU B w a rs := by
  have hl : vals.length = len rs := hr.1
  rcases h.2 with ⟨rfl, h2⟩ | ⟨g, cap, cur, rfl, hg, hgb, _⟩
  · exact ⟨none, 0, by rw [← hl, h2], fun m hm => by omega⟩
  · refine ⟨some ⟨g, 0, none⟩, cap, by rw [hl], fun m hm => ?_⟩
    have hm2 : m < rs.length := hm
    obtain ⟨u, h1, h2⟩ := hr.2 m hm2
    have hc := h.cellAt m (by omega)
    rw [h1] at hc
    rw [← rnth_eq rs m hm2] at h2
    obtain ⟨ra, rc, rfl, hU, _, _⟩ := own_u64 h2
    refine ⟨g, 0, ra, rc, rfl, hg, by rw [Nat.zero_add]; exact hc, fun q hq => ?_⟩
    obtain ⟨ub, uo, rfl, hcq⟩ := hU q hq
    refine ⟨ub, uo, rfl, ?_, hcq⟩
    exact (h2.lt ub rfl).1
def Upper (B : Nat) (w w' : World) : Prop := ∀ b, B ≤ b → b < w.heap.size → w'.heap[b]? = w.heap[b]?
theorem Upper.refl (B : Nat) (w : World) : Upper B w w := fun b _ _ => rfl
theorem Upper.cell {B : Nat} {w w' : World} (h : Upper B w w') {b o : Nat} {v : Value} (hb : B ≤ b) (hc : w.cell? ⟨b, o, none⟩ = some v) : w'.cell? ⟨b, o, none⟩ = some v :=
  (World.cell?_of_block (w := w) (h b hb (lt_of_cell hc))).trans hc
theorem Upper.bel {B : Nat} {w w' w2 : World} (h : Upper B w w') (hs : w.heap.size ≤ w'.heap.size) (hb : Below w'.heap.size w' w2) : Upper B w w2 := fun b h1 h2 => (hb.block b (by omega)).trans (h b h1 h2)
theorem Upper.set {B : Nat} {w w' : World} (h : Upper B w w') {p : Nat} (hp : p < B) (k : Nat) (v : Value) : Upper B w (w'.setCell ⟨p, k, none⟩ v) := fun b h1 h2 => (Below.heap_setCell _ _ _ _ (show b ≠ p by omega)).trans (h b h1 h2)
theorem Upper.map {B : Nat} {w w' : World} (h : Upper B w w') {p : Nat} (hp : p < B ∨ w.heap.size ≤ p) (o : Obj) : Upper B w (setBlock w' p o) := fun b h1 h2 => (setBlock_other (by omega)).trans (h b h1 h2)
theorem usedR_bd {rs : List (List Int)} (h : ∀ i, len (rnth rs i) ≤ 100) : ∀ m, m ≤ len rs → usedR rs m ≤ 100 * m
  | 0, _ => Nat.le_refl _
  | m + 1, hm => by
    rw [usedR_next rs m (by omega)]
    have := usedR_bd h m (by omega)
    have := h m
    omega
theorem LvAt.put {mb : Nat} {g : KnF} {w : World} {L : List (Int × Value)} (hl : w.heap[mb]? = some (mObj .u64 0 L)) (hm : MapF L g) (hs : SmF g) {t : Int} {D : ByteArray} (ht : U64 t) (hd : D.size ≤ 1000) : LvAt mb (putF g t D) (setBlock w mb (mObj .u64 0 (mPut L t (.string D)))) :=
  ⟨⟨_, setBlock_same hl, hm.put t D ht⟩, hs.put t D hd⟩
theorem row_u64 {ps : List Int} {d i : Nat} {t : Int} (hd : d ≤ 16) (hi : i < d) (h : t ∈ rnth (rowsOf (leavesL ps (d : Nat)) d) i) : U64 t := by
  obtain ⟨⟨y, hy, rfl⟩, _⟩ := (row_mem _ d i hi t).1 h
  obtain ⟨h1, h2⟩ := leaves_in hd y hy
  have h3 := half_bd h1 h2 (Nat.le_of_lt hi)
  obtain ⟨e, he⟩ : ∃ e, d - i = e + 1 := ⟨d - i - 1, by omega⟩
  rw [he] at h3
  have h4 := sib_bd h3.1 h3.2
  have h5 : (2 : Int) ^ (e + 1) ≤ 65536 := by
    rw [pow_cast]
    have : 2 ^ (e + 1) ≤ 65536 := Nat.pow_le_pow_right (n := 2) (by decide) (show e + 1 ≤ 16 by omega)
    omega
  unfold U64
  omega
set_option maxRecDepth 100000 in
set_option maxHeartbeats 8000000 in
theorem proot_main (nn : Nat) (ps : List Int) (es ds : List ByteArray) (pa ea da : Option Addr) (pc ec dc : Nat) (w : World) (hp : U64s w pa ps) (he : Txts w ea es) (hd : Txts w da ds) (hl : len ps ≤ 12) (hu : ∀ k ∈ ps, U64 k) (hld : len ds ≤ 1000000) (hdc : len ds ≤ dc) (hez : ∀ i, i < len es → (tth es i).size ≤ 1000000) (hb : ArgOk (nn : Nat) ps es) (hbad : badB ds = false) :
    Calls Tryz.prog 76 #[.int .i64 (nn : Nat), .slice pa (len ps) pc, .slice ea (len es) ec, .slice da (len ds) dc] w (RootIs (nn : Nat) ps es ds w) := by
  have hn16 : nn ≤ 65536 := by have := hb.1.2.1; omega
  obtain ⟨d, hdd⟩ : ∃ d : Nat, Lib.bitLen (nn - 1) = d := ⟨_, rfl⟩
  have hdz : depthZ (nn : Nat) = (d : Nat) := by unfold depthZ; rw [if_neg (by omega), Int.toNat_natCast, hdd]
  have hdb := depth_bd nn hn16
  rw [hdd] at hdb
  have HD16 : Hid (d ≤ 16) := Lib.hid hdb.1
  obtain ⟨lv, hlv⟩ : ∃ lv, leavesL ps (d : Nat) = lv := ⟨_, rfl⟩
  have HLN : Hid (len lv = len ps) := Lib.hid (by rw [← hlv, leavesL_len])
  have HLU : Hid (∀ k ∈ lv, U64 k) := Lib.hid (by rw [← hlv]; exact leavesL_u64 ps _)
  obtain ⟨rs, hrs⟩ : ∃ rs, rowsOf lv d = rs := ⟨_, rfl⟩
  have HNR : Hid (needsL lv (d : Nat) = rs) := Lib.hid (by rw [← hrs, ← hlv]; exact needsP_rows hdb.1 hb.1.2.2)
  have HRL : Hid (len rs = d) := Lib.hid (by rw [← hrs, rowsOf_len])
  have HLV := Lib.hid hlv
  have HRS := Lib.hid hrs
  have HNM : Hid ((∀ i, len (rnth rs i) ≤ 100) ∧ (flatLv rs).length ≤ 1600) := Lib.hid (by
    rw [← HNR.out]
    exact ⟨rnth_nl _ _ (by rw [HLN.out]; omega), flat_bd _ _ (by rw [HLN.out]; omega)⟩)
  have HRP : Hid (rowsP (nn : Nat) ps = rs) := Lib.hid (by unfold rowsP; rw [hdz, hlv]; exact HNR.out)
  have HDP : Hid (digP (nn : Nat) ps es ds = kidF (rootG (g0F lv es) rs ds) 0) := Lib.hid (by unfold digP; rw [HRP.out, hdz, hlv])
  have HNP : Hid (neededP (nn : Nat) ps = usedR rs (len rs)) := Lib.hid (by unfold neededP; rw [HRP.out])
  have HM := Lib.hid (fun w9 hb9 => pmay_any (nn : Nat) ps pa pc w9 (hp.below hb9) (by omega) (by omega) (by omega))
  rw [decide_eq_true hb.1] at HM
  have hel := hb.2
  have HBD := Lib.hid (fun w9 hb9 => bad_any da dc ds w9 (hd.below hb9) (by omega))
  rw [hbad] at HBD
  have HDE := Lib.hid (fun w9 => depth_any (nn : Nat) w9 (by omega) (by omega))
  rw [hdz] at HDE
  have HLF := Lib.hid (fun k (hk : U64 k) w9 => leaf_any k (d : Nat) w9 hk.1 hk.2)
  have HP := Lib.hid hp
  have HES := Lib.hid he
  have HDS := Lib.hid hd
  have HU := Lib.hid hu
  have HL100 := Lib.hid hl
  have HEZ := Lib.hid hez
  have HEL := Lib.hid hel
  have HLD := Lib.hid hld
  have HDC := Lib.hid hdc
  have HARG := Lib.hid hb
  have HBADF := Lib.hid hbad
  obtain ⟨i0, hi, hz0, hz1, hz2⟩ := info_parts info_u64
  have HZ0 := Lib.hid hz0
  clear hp he hd hl hu hld hdc hez hb hbad hn16 hdd hdz hdb hlv hrs hel hz0
  go_enter Tryz.func76, Tryz.ntmps76
  rw [HEL.out]
  go_upto_region 1 with fail
  obtain ⟨pb, hpb⟩ : ∃ pb, w.heap.size = pb := ⟨_, rfl⟩
  obtain ⟨V, hV⟩ : ∃ V, w.alloc (.cells #[.slice da (len ds) dc] 22) = V := ⟨_, rfl⟩
  have HVP : Hid (V.heap[pb]? = some (.cells #[.slice da (len ds) dc] 22 (0, 0))) := Lib.hid (by rw [← hV]; exact alloc_new_at _ hpb)
  have HVW : Hid (Below w.heap.size w V) := Lib.hid (by rw [← hV]; exact balloc (Below.refl _ _) _)
  have HPB : Hid (w.heap.size ≤ pb) := Lib.hid (Nat.le_of_eq hpb)
  rw [hpb, hV]
  clear hV hpb
  go_wp2_with fail
  refine (HM.out _ HVW.out).mono ?_
  rintro e w1 ⟨rfl, hb1⟩
  have HP1 : Hid (w1.heap[pb]? = some (.cells #[.slice da (len ds) dc] 22 (0, 0))) := Lib.hid ((hb1.block _ (lt_of_block HVP.out)).trans HVP.out)
  have HB1 : Hid (Below w.heap.size w w1) := Lib.hid (bnext HVW.out hb1)
  clear hb1 HVP HVW HM
  have c0 : w1.cell? ⟨pb, 0, none⟩ = some (.slice da (len ds) dc) := by rw [block_cell HP1.out]; rfl
  have c2 : pb < w1.heap.size := lt_of_block HP1.out
  go_wp2_with fail
  refine (HBD.out w1 HB1.out).mono ?_
  rintro e w2 ⟨rfl, rfl⟩
  clear c0 c2 HBD
  go_wp2_with fail
  refine (HDE.out w1).mono ?_
  rintro e w2 ⟨rfl, rfl⟩
  have hmm := @run_makeMap Tryz.prog
  go_upto_region 9 with fail
  clear hmm HDE
  obtain ⟨mb, hmb⟩ : ∃ mb, w1.heap.size = mb := ⟨_, rfl⟩
  obtain ⟨V, hV⟩ : ∃ V, w1.alloc (Obj.map #[] 0) = V := ⟨_, rfl⟩
  have HVM : Hid (LvAt mb (addF noF (lv.take 0) (leafD es)) V) := Lib.hid ⟨⟨[], by rw [← hV]; exact alloc_new_at _ hmb, by rw [List.take_zero]; exact MapF.nil⟩, by rw [List.take_zero]; exact SmF.no⟩
  have HVP : Hid (V.heap[pb]? = some (.cells #[.slice da (len ds) dc] 22 (0, 0))) := Lib.hid (by rw [← hV]; exact block_alloc HP1.out _)
  have HVW : Hid (Below w.heap.size w V) := Lib.hid (by rw [← hV]; exact balloc HB1.out _)
  have HMB : Hid (pb < mb ∧ w.heap.size ≤ mb) := Lib.hid ⟨by rw [← hmb]; exact lt_of_block HP1.out, by rw [← hmb]; exact HB1.out.size⟩
  obtain ⟨B, hB⟩ : ∃ B, V.heap.size = B := ⟨_, rfl⟩
  have HBM : Hid (mb < B) := Lib.hid (by rw [← hB]; exact HVM.out.lt)
  have HVB : Hid (B ≤ V.heap.size) := Lib.hid (Nat.le_of_eq hB.symm)
  rw [hmb, hV]
  clear hV hmb HB1 HP1 hB
  go_loopg [45, 12] (len ps) (fun g i v wr => ∃ m : Nat, g + m = len ps ∧ i = .int .i64 m ∧ Hid (wr.ownsRow B 37 1 v m ((lv.take m).map (Value.int .u64))) ∧ Hid (LvAt mb (addF noF (lv.take m) (leafD es)) wr) ∧ Hid (wr.heap[pb]? = some (.cells #[.slice da (len ds) dc] 22 (0, 0))) ∧ Hid (Below w.heap.size w wr) ∧ Hid (B ≤ wr.heap.size))
  case atStart => exact ⟨0, rfl, rfl, Lib.hid (World.ownsRow_nil _ _ _ _), HVM, HVP, HVW, HVB⟩
  case round =>
    clear HVM HVP HVW HVB
    obtain ⟨m, hm, rfl, HO, HG, HPX, HW, HBS⟩ := hrel
    have HNN := HL100.out
    by_cases hlt : m < len ps
    · have b0 : (m : Int) < len ps := by omega
      have b1 : ¬ len ps ≤ m := by omega
      obtain ⟨b, off, hra, hcell⟩ := HP.out.below HW.out m hlt
      subst hra
      obtain ⟨eb, eo, hea, hcel⟩ := HES.out.below HW.out m (by rw [HEL.out]; exact hlt)
      subst hea
      obtain ⟨k, hk⟩ : ∃ k, nth ps m = k := ⟨_, rfl⟩
      have hku : U64 k := by rw [← hk]; exact HU.out _ (mem_nth hlt)
      obtain ⟨s, hs⟩ : ∃ s, tth es m = s := ⟨_, rfl⟩
      have HSZ : Hid (s.size ≤ 1000000) := Lib.hid (by rw [← hs]; exact HEZ.out m (by rw [HEL.out]; exact hlt))
      obtain ⟨t, ht⟩ : ∃ t, turnedZ k (d : Nat) = t := ⟨_, rfl⟩
      have HSS := Lib.hid hs
      have HTN : Hid (nth lv m = t) := Lib.hid (by rw [← HLV.out, leaves_nth ps _ m hlt, hk, ht])
      have HTU : Hid (U64 t) := Lib.hid (by rw [← HTN.out]; exact HLU.out _ (mem_nth (by rw [HLN.out]; exact hlt)))
      have HLK := Lib.hid (HLF.out k hku wr)
      rw [ht] at HLK
      have HLD9 : Hid (tth (leafD es) m = hashP leafT [s]) := Lib.hid (by rw [leafD_at es m (by rw [HEL.out]; exact hlt), hs])
      rw [hk] at hcell
      rw [hs] at hcel
      have l1 := lt_of_cell hcell
      have HCE := Lib.hid hcel
      clear hk hku hs ht hcel
      go_upto_region 11 with fail
      clear hcell l1
      go_wp2_with fail
      refine HLK.out.mono ?_
      rintro e w2 ⟨rfl, rfl⟩
      go_upto_region 13 with (at_builtin; refine wpList_append_own _ rfl _ _ 23 rfl B 37 i0 (.int .u64 0) 1 8 Tryz.underlying23 hi HZ0.out hz1 hz2 rfl (by decide) _ _ _ rfl (HO.out.alloc _) ⟨wr.heap.size, 0, none⟩ 1 1 [.int .u64 t] rfl rfl (World.news_of_block (heap_alloc_new _ _)) (by intro u hu9; simp at hu9; subst hu9; rfl) (by unfold maxLen; omega) (by omega) (by have := HBS.out; simp; omega) ?_; intro v2 w4 hown2 hgrow2 _)
      have HX9 : Hid (Below wr.heap.size wr (wr.alloc (.cells #[.int .u64 t] 37))) := Lib.hid (balloc (Below.refl _ _) _)
      have HO4 : Hid (w4.ownsRow B 37 1 v2 (m + 1) ((lv.take (m + 1)).map (Value.int .u64))) := Lib.hid (by
        rw [take_snoc_nth (by rw [HLN.out]; exact hlt), HTN.out, List.map_append]
        exact hown2)
      have HG4 : Hid (LvAt mb (addF noF (lv.take m) (leafD es)) w4) := Lib.hid (HG.out.keep ((own_keeps (HO.out.alloc _) hgrow2 HBM.out (by have := HG.out.lt; simp; omega)).trans (HX9.out.block _ HG.out.lt)))
      have HP4 : Hid (w4.heap[pb]? = some (.cells #[.slice da (len ds) dc] 22 (0, 0))) := Lib.hid (((own_keeps (HO.out.alloc _) hgrow2 (by have := HBM.out; have := HMB.out; omega) (by have := lt_of_block HPX.out; simp; omega)).trans (HX9.out.block _ (lt_of_block HPX.out))).trans HPX.out)
      have HW4 : Hid (Below w.heap.size w w4) := Lib.hid (grownBy_below (balloc HW.out _) hgrow2 (fun k hk' => Nat.le_trans (Nat.le_trans HMB.out.2 (Nat.le_of_lt HBM.out)) (HO.out.lt k hk').1))
      have HB4 : Hid (B ≤ w4.heap.size) := Lib.hid (by have h9 := hgrow2.size; have := HBS.out; simp at h9; omega)
      clear hown2 hgrow2 HX9 HO HG HPX HW HBS HLK HCE
      obtain ⟨eb2, eo2, he2, hcel2⟩ := HES.out.below HW4.out m (by rw [HEL.out]; exact hlt)
      cases he2
      rw [HSS.out] at hcel2
      have l2 := lt_of_cell hcel2
      have HELL := HEL.out
      have b3 : (m : Int) < (len es : Int) := by omega
      have b4 : ¬ len es ≤ m := by omega
      go_wp2_with fail
      refine (hash1_any leafT s w4 (by decide) (by decide) HSZ.out).mono ?_
      rintro e w5 ⟨rfl, hb5⟩
      clear hcel2 l2 b3 b4 HELL
      have HO5 : Hid (w5.ownsRow B 37 1 v2 (m + 1) ((lv.take (m + 1)).map (Value.int .u64))) := Lib.hid (own_below HO4.out hb5)
      have HG5 : Hid (LvAt mb (addF noF (lv.take m) (leafD es)) w5) := Lib.hid (HG4.out.keep (hb5.block _ HG4.out.lt))
      have HP5 : Hid (w5.heap[pb]? = some (.cells #[.slice da (len ds) dc] 22 (0, 0))) := Lib.hid ((hb5.block _ (lt_of_block HP4.out)).trans HP4.out)
      have HW5 : Hid (Below w.heap.size w w5) := Lib.hid (bnext HW4.out hb5)
      have HB5 : Hid (B ≤ w5.heap.size) := Lib.hid (Nat.le_trans HB4.out hb5.size)
      obtain ⟨⟨L, hL, hmf⟩, hsm⟩ := HG5.out
      have HLL := Lib.hid hL
      have HMF := Lib.hid hmf
      have HSM := Lib.hid hsm
      obtain ⟨D, hD⟩ : ∃ D, hashP leafT [s] = D := ⟨_, rfl⟩
      have HDZ9 : Hid (D.size ≤ 1000) := Lib.hid (by rw [← hD, hashP_size]; omega)
      have HAF : Hid (addF noF (lv.take (m + 1)) (leafD es) = putF (addF noF (lv.take m) (leafD es)) t D) := Lib.hid (by rw [addF_take _ _ _ m (by rw [HLN.out]; exact hlt), HTN.out, HLD9.out, hD])
      rw [hD]
      clear hb5 hL hmf hsm hD HO4 HG4 HP4 HW4 HB4 HG5
      go_upto_region 14 with (at_mapUpdate; refine wpList_mapUpdate_m rfl _ _ _ 168 37 9 .u64 rfl Tryz.underlying168 Tryz.underlying37 mb 0 _ rfl HLL.out t (.string D) rfl rfl ?_)
      obtain ⟨U, hU⟩ : ∃ U, setBlock w5 mb (mObj .u64 0 (mPut L t (.string D))) = U := ⟨_, rfl⟩
      have HG6 : Hid (LvAt mb (addF noF (lv.take (m + 1)) (leafD es)) U) := Lib.hid (by rw [HAF.out, ← hU]; exact LvAt.put HLL.out HMF.out HSM.out HTU.out HDZ9.out)
      have HO6 : Hid (U.ownsRow B 37 1 v2 (m + 1) ((lv.take (m + 1)).map (Value.int .u64))) := Lib.hid (by rw [← hU]; exact own_setBlock HO5.out HBM.out _)
      have HP6 : Hid (U.heap[pb]? = some (.cells #[.slice da (len ds) dc] 22 (0, 0))) := Lib.hid (by rw [← hU]; exact (setBlock_other (by have := HMB.out; omega)).trans HP5.out)
      have HW6 : Hid (Below w.heap.size w U) := Lib.hid (by rw [← hU]; exact setBlock_below HW5.out HMB.out.2)
      have HB6 : Hid (B ≤ U.heap.size) := Lib.hid (by rw [← hU, setBlock_size]; exact HB5.out)
      rw [hU]
      clear hU HO5 HP5 HW5 HB5 HLL
      go_wp2
      go_roundg (len ps - (m + 1))
      case rel => exact ⟨m + 1, by omega, by go_num, HO6, HG6, HP6, HW6, HB6⟩
      case measure => omega
    · obtain rfl : m = len ps := by omega
      have b0 : ¬ ((len ps : Nat) : Int) < len ps := by omega
      have HGZ : Hid (LvAt mb (g0F lv es) wr) := Lib.hid (by
        have h9 := HG.out
        rw [show lv.take (len ps) = lv by rw [← HLN.out, take_len]] at h9
        exact h9)
      have HOZ : Hid (wr.ownsRow B 37 1 u12 (len ps) (lv.map (Value.int .u64))) := Lib.hid (by
        have h9 := HO.out
        rw [show lv.take (len ps) = lv by rw [← HLN.out, take_len]] at h9
        exact h9)
      obtain ⟨al, cl, rfl, hUl, _, _⟩ := own_u64 HOZ.out
      have HND := Lib.hid (needs_any al cl lv (d : Nat) wr hUl (by rw [HLN.out]; exact HL100.out) HLU.out)
      rw [HNR.out] at HND
      clear hUl HO HG HOZ hm
      go_wp2_with fail
      refine HND.out.mono ?_
      rintro e w3 ⟨v, vals, rfl, hr1, hr2, hb3⟩
      obtain ⟨a3, cap3, rfl, hRU⟩ := rowsU_of hr1 hr2
      have HRU := Lib.hid hRU
      obtain ⟨B2, hB2⟩ : ∃ B2, wr.heap.size = B2 := ⟨_, rfl⟩
      rw [hB2] at HRU
      have HB2 : Hid (mb < B2 ∧ pb < B2) := Lib.hid ⟨by rw [← hB2]; exact HGZ.out.lt, by rw [← hB2]; exact lt_of_block HPX.out⟩
      have HG3 : Hid (LvAt mb (g0F lv es) w3) := Lib.hid (HGZ.out.keep (hb3.block _ HGZ.out.lt))
      have HP3 : Hid (w3.heap[pb]? = some (.cells #[.slice da (len ds) dc] 22 (0, 0))) := Lib.hid ((hb3.block _ (lt_of_block HPX.out)).trans HPX.out)
      have HW3 : Hid (Below w.heap.size w w3) := Lib.hid (bnext HW.out hb3)
      have HB23 : Hid (B2 ≤ w3.heap.size) := Lib.hid (by rw [← hB2]; exact hb3.size)
      clear hr1 hr2 hRU hB2 hb3 HND HGZ HPX HW HBS
      go_upto_region 18 with fail
      go_loopg [71, 17] (len rs) (fun g i v wr => ∃ m : Nat, g + m = len rs ∧ i = .int .i64 m ∧ v = .int .i64 (usedR rs m : Nat) ∧ wr = w3)
      case atStart => exact ⟨0, rfl, rfl, rfl, rfl⟩
      case round =>
        obtain ⟨m, hm, rfl, rfl, rfl⟩ := hrel
        have hr16 : len rs ≤ 16 := by have := HRL.out; have := HD16.out; omega
        by_cases hlt : m < len rs
        · have b1 : (m : Int) < len rs := by omega
          have b2 : ¬ len rs ≤ m := by omega
          obtain ⟨rb, ro, ra, rc, hra3, _, hrc, _⟩ := HRU.out m hlt
          subst hra3
          have l1 := lt_of_cell hrc
          have HN9 : Hid (usedR rs (m + 1) = usedR rs m + len (rnth rs m)) := Lib.hid (usedR_next rs m hlt)
          have hub : usedR rs m + len (rnth rs m) ≤ 1600 := by
            rw [← usedR_next rs m hlt]
            have := usedR_bd HNM.out.1 (m + 1) (by omega)
            omega
          obtain ⟨u, hu⟩ : ∃ u, usedR rs m = u := ⟨_, rfl⟩
          obtain ⟨q, hq⟩ : ∃ q, len (rnth rs m) = q := ⟨_, rfl⟩
          rw [hu, hq] at hub HN9
          rw [hq] at hrc
          rw [hu]
          clear hu hq
          go_wp2
          go_roundg (len rs - (m + 1))
          case rel => exact ⟨m + 1, by omega, by go_num, by rw [HN9.out]; go_num, rfl⟩
          case measure => omega
        · obtain rfl : m = len rs := by omega
          have b1 : ¬ ((len rs : Nat) : Int) < len rs := by omega
          have hub : usedR rs (len rs) ≤ 1600 := by
            have := usedR_bd HNM.out.1 (len rs) (Nat.le_refl _)
            omega
          obtain ⟨N, hN⟩ : ∃ N, usedR rs (len rs) = N := ⟨_, rfl⟩
          have HNN := Lib.hid hN
          rw [hN] at hub HNP ⊢
          have HUB := Lib.hid hub
          clear hN hub hm hr16
          have c0 : wr.cell? ⟨pb, 0, none⟩ = some (.slice da (len ds) dc) := by rw [block_cell HP3.out]; rfl
          have c2 : pb < wr.heap.size := lt_of_block HP3.out
          by_cases hlt4 : len ds < N
          · have z1 : ((len ds : Nat) : Int) < ((N : Nat) : Int) := by omega
            have HE : Hid (rootE (nn : Nat) ps es ds = 4 ∧ rootS (nn : Nat) ps es ds = ⟨#[]⟩) := Lib.hid (by
              have h9 : rootE (nn : Nat) ps es ds = 4 := by unfold rootE; rw [if_neg (fun h => h HARG.out), if_neg (by rw [HBADF.out]; simp), HNP.out, if_pos hlt4]
              exact ⟨h9, by unfold rootS; rw [h9]; rfl⟩)
            clear hlt4
            go_wp2
            go_ret2
            exact ⟨by rw [HE.out.1, HE.out.2]; rfl, HW3.out⟩
          · have z1 : ¬ ((len ds : Nat) : Int) < ((N : Nat) : Int) := by omega
            by_cases hlt3 : N < len ds
            · have z2 : ((N : Nat) : Int) < ((len ds : Nat) : Int) := by omega
              have HE : Hid (rootE (nn : Nat) ps es ds = 3 ∧ rootS (nn : Nat) ps es ds = ⟨#[]⟩) := Lib.hid (by
                have h9 : rootE (nn : Nat) ps es ds = 3 := by unfold rootE; rw [if_neg (fun h => h HARG.out), if_neg (by rw [HBADF.out]; simp), HNP.out, if_neg hlt4, if_pos hlt3]
                exact ⟨h9, by unfold rootS; rw [h9]; rfl⟩)
              clear hlt4 hlt3
              go_wp2
              go_ret2
              exact ⟨by rw [HE.out.1, HE.out.2]; rfl, HW3.out⟩
            · have z2 : ¬ ((N : Nat) : Int) < ((len ds : Nat) : Int) := by omega
              have HEQ : Hid (len ds = N) := Lib.hid (by omega)
              have HE : Hid (rootE (nn : Nat) ps es ds = 0 ∧ rootS (nn : Nat) ps es ds = kidF (rootG (g0F lv es) rs ds) 0) := Lib.hid (by
                have h9 : rootE (nn : Nat) ps es ds = 0 := by unfold rootE; rw [if_neg (fun h => h HARG.out), if_neg (by rw [HBADF.out]; simp), HNP.out, if_neg hlt4, if_neg hlt3]
                exact ⟨h9, by unfold rootS; rw [h9, if_pos rfl]; exact HDP.out⟩)
              clear hlt4 hlt3
              go_upto_region 28 with fail
              clear z1 z2 c0 c2
              obtain ⟨W3, hW3⟩ : ∃ W3, W3 = wr := ⟨_, rfl⟩
              subst hW3
              have HG9 : Hid (LvAt mb (rootT (g0F lv es) rs ds 0) W3) := HG3
              have HBX9 : Hid (∃ a' c', W3.heap[pb]? = some (.cells #[.slice a' (len (ds.drop (usedR rs 0))) c'] 22 (0, 0)) ∧ len (ds.drop (usedR rs 0)) ≤ c' ∧ ∀ w9, Txts w9 da ds → Txts w9 a' (ds.drop (usedR rs 0))) := Lib.hid ⟨da, dc, HP3.out, HDC.out, fun _ h9 => h9⟩
              clear HG3 HP3
              go_loopg [93, 11] (len rs) (fun g i v wz => ∃ m kb : Nat, g + m = len rs ∧ i = .int .i64 m ∧ v = .map (some kb) ∧ Hid (LvAt kb (rootT (g0F lv es) rs ds m) wz) ∧ Hid (∃ a' c', wz.heap[pb]? = some (.cells #[.slice a' (len (ds.drop (usedR rs m))) c'] 22 (0, 0)) ∧ len (ds.drop (usedR rs m)) ≤ c' ∧ ∀ w9, Txts w9 da ds → Txts w9 a' (ds.drop (usedR rs m))) ∧ Hid (Below w.heap.size w wz) ∧ Hid (Upper B2 W3 wz) ∧ Hid (pb < kb ∧ w.heap.size ≤ kb ∧ (kb < B2 ∨ W3.heap.size ≤ kb) ∧ W3.heap.size ≤ wz.heap.size))
              case atStart => exact ⟨0, mb, rfl, rfl, rfl, HG9, HBX9, HW3, Lib.hid (Upper.refl _ _), Lib.hid ⟨HMB.out.1, HMB.out.2, .inl HB2.out.1, Nat.le_refl _⟩⟩
              case round =>
                clear HG9 HBX9
                obtain ⟨m, kb, hm, rfl, rfl, HG, HBX, HWZ, HUP, HKB⟩ := hrel
                obtain ⟨wz, hwz⟩ : ∃ wz, wz = wr := ⟨_, rfl⟩
                subst hwz
                have hr16 : len rs ≤ 16 := by have := HRL.out; have := HD16.out; omega
                by_cases hlt : m < len rs
                · have b1 : (m : Int) < len rs := by omega
                  have b2 : ¬ len rs ≤ m := by omega
                  obtain ⟨rb, ro, ra, rc, hra3, hrb, hrc, hrq⟩ := HRU.out m hlt
                  subst hra3
                  have hrc2 := HUP.out.cell hrb hrc
                  have l1 := lt_of_cell hrc2
                  obtain ⟨row, hrow⟩ : ∃ row, rnth rs m = row := ⟨_, rfl⟩
                  have HROW := Lib.hid hrow
                  rw [hrow] at hrc2 hrq
                  have HRQ := Lib.hid hrq
                  have HRLN : Hid (len row ≤ 100) := Lib.hid (by rw [← hrow]; exact HNM.out.1 m)
                  have HHM := Lib.hid hm
                  have HHL := Lib.hid hlt
                  obtain ⟨u, hu⟩ : ∃ u, usedR rs m = u := ⟨_, rfl⟩
                  have HUU : Hid (usedR rs m = u) := Lib.hid hu
                  have HUT : Hid (u + len row ≤ len ds) := Lib.hid (by
                    have h1 := usedR_next rs m hlt
                    have h2 := usedR_le rs (m + 1)
                    rw [hrow, hu] at h1
                    rw [HEQ.out, ← HNN.out]
                    omega)
                  obtain ⟨GT, hGT⟩ : ∃ GT, rootT (g0F lv es) rs ds m = GT := ⟨_, rfl⟩
                  have HGT := Lib.hid hGT
                  rw [hGT] at HG
                  rw [hu] at HBX
                  have HG0 : Hid (LvAt kb (addF GT (row.take 0) (ds.drop u)) wz) := Lib.hid (by rw [List.take_zero]; exact HG.out)
                  have HBX0 : Hid (∃ a' c', wz.heap[pb]? = some (.cells #[.slice a' (len (ds.drop (u + 0))) c'] 22 (0, 0)) ∧ len (ds.drop (u + 0)) ≤ c' ∧ ∀ w9, Txts w9 da ds → Txts w9 a' (ds.drop (u + 0))) := HBX
                  obtain ⟨GK, hGK⟩ : ∃ G, G = gk := ⟨_, rfl⟩
                  subst hGK
                  clear hrc hrq hrow hu hGT HG HBX hm hlt hr16
                  go_upto_region 31 with fail
                  clear hrc2 l1 b1 b2
                  go_loopg [99] (len row) (fun g j wy => ∃ q : Nat, g + q = len row ∧ j = .int .i64 q ∧ Hid (LvAt kb (addF GT (row.take q) (ds.drop u)) wy) ∧ Hid (∃ a' c', wy.heap[pb]? = some (.cells #[.slice a' (len (ds.drop (u + q))) c'] 22 (0, 0)) ∧ len (ds.drop (u + q)) ≤ c' ∧ ∀ w9, Txts w9 da ds → Txts w9 a' (ds.drop (u + q))) ∧ Hid (Below w.heap.size w wy) ∧ Hid (Upper B2 W3 wy) ∧ Hid (W3.heap.size ≤ wy.heap.size))
                  case atStart => exact ⟨0, rfl, rfl, HG0, HBX0, HWZ, HUP, Lib.hid HKB.out.2.2.2⟩
                  case round =>
                    clear HG0 HBX0 HWZ HUP
                    obtain ⟨q, hq, rfl, HG, HBX, HWZ, HUP, HSZ⟩ := hrel
                    obtain ⟨wy, hwy⟩ : ∃ wy, wy = wr := ⟨_, rfl⟩
                    subst hwy
                    have hr100 := HRLN.out
                    by_cases hlq : q < len row
                    · have b1 : (q : Int) < len row := by omega
                      have b2 : ¬ len row ≤ q := by omega
                      obtain ⟨ub, uo, hua, hub, huc⟩ := HRQ.out q hlq
                      subst hua
                      have huc2 := HUP.out.cell hub huc
                      have l2 := lt_of_cell huc2
                      obtain ⟨t, ht⟩ : ∃ t, nth row q = t := ⟨_, rfl⟩
                      rw [ht] at huc2
                      have HTU : Hid (U64 t) := Lib.hid (by
                        have h1 : t ∈ rnth rs m := by rw [HROW.out, ← ht]; exact mem_nth hlq
                        rw [← HRS.out, ← HLV.out] at h1
                        exact row_u64 HD16.out (by rw [← HRL.out]; exact HHL.out) h1)
                      obtain ⟨a9, c9, hbx, hc9, hta⟩ := HBX.out
                      have HTN : Hid (addF GT (row.take (q + 1)) (ds.drop u) = putF (addF GT (row.take q) (ds.drop u)) t (tth ds (u + q))) := Lib.hid (by rw [addF_take _ _ _ q hlq, ht, tth_drop])
                      have hdl : len (ds.drop (u + q)) = len ds - (u + q) := by rw [len_eq, List.length_drop]; rfl
                      have hut := HUT.out
                      have HNX := Lib.hid (nextd_any pb a9 c9 (ds.drop (u + q)) wy hbx (hta _ (HDS.out.below HWZ.out)) (by omega) hc9)
                      have HDD : Hid ((tth ds (u + q)).size ≤ 1000) := Lib.hid (by
                        have h1 := of_decide_eq_false HBADF.out
                        have h2 : u + q < ds.length := by have : len ds = ds.length := rfl; omega
                        apply Classical.byContradiction
                        intro h3
                        exact h1 ⟨ds[u + q], List.getElem_mem h2, fun h4 => h3 (by rw [tth_eq ds (u + q) h2, h4]; omega)⟩)
                      have HC9 : Hid (len (ds.drop (u + q)) - 1 ≤ c9) := Lib.hid (by omega)
                      have HBQ := Lib.hid hbx
                      have HDL1 : Hid (len (ds.drop (u + (q + 1))) = len (ds.drop (u + q)) - 1) := Lib.hid (by rw [len_eq, List.length_drop, hdl]; have : len ds = ds.length := rfl; omega)
                      obtain ⟨⟨L, hL, hmf⟩, hsm⟩ := HG.out
                      have HLW := Lib.hid hL
                      have HMF := Lib.hid hmf
                      have HSM := Lib.hid hsm
                      obtain ⟨D, hD⟩ : ∃ D, tth ds (u + q) = D := ⟨_, rfl⟩
                      have HT0 : Hid (tth (ds.drop (u + q)) 0 = D) := Lib.hid (by rw [tth_drop, Nat.add_zero, hD])
                      rw [hD] at HDD HTN
                      clear hbx hc9 hut hdl hL hmf hsm hD huc ht
                      go_wp2_with fail
                      refine HNX.out.mono ?_
                      rintro e w2 ⟨a', c', rfl, hw2, hc', hta'⟩
                      rw [HT0.out]
                      have HCC := Lib.hid hc'
                      have HTA := Lib.hid hta'
                      have HKP : Hid (pb ≠ kb) := Lib.hid (by have := HKB.out.1; omega)
                      have HL2 : Hid (w2.heap[kb]? = some (mObj .u64 0 L)) := Lib.hid (by rw [hw2]; exact (Below.heap_setCell _ _ _ _ (show kb ≠ pb by have := HKP.out; omega)).trans HLW.out)
                      have HP2 : Hid (w2.heap[pb]? = some (.cells #[.slice a' (len (ds.drop (u + q)) - 1) c'] 22 (0, 0))) := Lib.hid (by rw [hw2]; exact block_setCell HBQ.out _)
                      have HW2 : Hid (Below w.heap.size w w2) := Lib.hid (by rw [hw2]; exact bset HWZ.out HPB.out _)
                      have HU2 : Hid (Upper B2 W3 w2) := Lib.hid (by rw [hw2]; exact HUP.out.set HB2.out.2 _ _)
                      have HS2 : Hid (W3.heap.size ≤ w2.heap.size) := Lib.hid (by rw [hw2]; have := HSZ.out; simp [World.setCell]; exact this)
                      clear hw2 hc' hta' HLW HBQ HBX HWZ HUP HSZ HNX huc2 l2 b2
                      go_upto_region 34 with (at_mapUpdate; refine wpList_mapUpdate_m rfl _ _ _ 168 37 9 .u64 rfl Tryz.underlying168 Tryz.underlying37 kb 0 _ rfl HL2.out t (.string D) rfl rfl ?_)
                      obtain ⟨U, hU⟩ : ∃ U, setBlock w2 kb (mObj .u64 0 (mPut L t (.string D))) = U := ⟨_, rfl⟩
                      have HG6 : Hid (LvAt kb (addF GT (row.take (q + 1)) (ds.drop u)) U) := Lib.hid (by rw [HTN.out, ← hU]; exact LvAt.put HL2.out HMF.out HSM.out HTU.out HDD.out)
                      have HBX6 : Hid (∃ a' c', U.heap[pb]? = some (.cells #[.slice a' (len (ds.drop (u + (q + 1)))) c'] 22 (0, 0)) ∧ len (ds.drop (u + (q + 1))) ≤ c' ∧ ∀ w9, Txts w9 da ds → Txts w9 a' (ds.drop (u + (q + 1)))) := Lib.hid (by
                        rw [HDL1.out, ← hU]
                        refine ⟨a', c', (setBlock_other HKP.out).trans HP2.out, HCC.out, fun w9 h9 => ?_⟩
                        have h8 := HTA.out w9 (hta w9 h9)
                        rw [List.drop_drop] at h8
                        exact h8)
                      have HW6 : Hid (Below w.heap.size w U) := Lib.hid (by rw [← hU]; exact setBlock_below HW2.out HKB.out.2.1)
                      have HU6 : Hid (Upper B2 W3 U) := Lib.hid (by rw [← hU]; exact HU2.out.map HKB.out.2.2.1 _)
                      have HS6 : Hid (W3.heap.size ≤ U.heap.size) := Lib.hid (by rw [← hU, setBlock_size]; exact HS2.out)
                      rw [hU]
                      clear hU HL2 HP2 HW2 HU2 HS2
                      go_wp2
                      go_roundg (len row - (q + 1))
                      case rel => exact ⟨q + 1, by omega, by go_num, HG6, HBX6, HW6, HU6, HS6⟩
                      case measure => omega
                    · obtain rfl : q = len row := by omega
                      have b1 : ¬ ((len row : Nat) : Int) < len row := by omega
                      have HOV := Lib.hid (kover_any kb 0 _ wy HG.out.at_ HG.out.small)
                      have hm := HHM.out
                      have hlt := HHL.out
                      have hr16 : len rs ≤ 16 := by have := HRL.out; have := HD16.out; omega
                      have HRT : Hid (rootT (g0F lv es) rs ds (m + 1) = overF (addF GT (row.take (len row)) (ds.drop u))) := Lib.hid (by rw [rootT_next _ _ _ m hlt, HGT.out, HROW.out, HUU.out, take_len])
                      have HUN : Hid (usedR rs (m + 1) = u + len row) := Lib.hid (by rw [usedR_next rs m hlt, HUU.out, HROW.out])
                      have HPLT : Hid (pb < wy.heap.size) := Lib.hid (by obtain ⟨a9, c9, hbx, _⟩ := HBX.out; exact lt_of_block hbx)
                      go_wp2_with fail
                      refine HOV.out.mono ?_
                      rintro e w2 ⟨b9, rfl, hk9, hb9, hbel⟩
                      have HG6 : Hid (LvAt b9 (rootT (g0F lv es) rs ds (m + 1)) w2) := Lib.hid (by rw [HRT.out]; exact ⟨hk9, SmF.over _⟩)
                      have HBX6 : Hid (∃ a' c', w2.heap[pb]? = some (.cells #[.slice a' (len (ds.drop (usedR rs (m + 1)))) c'] 22 (0, 0)) ∧ len (ds.drop (usedR rs (m + 1))) ≤ c' ∧ ∀ w9, Txts w9 da ds → Txts w9 a' (ds.drop (usedR rs (m + 1)))) := Lib.hid (by
                        rw [HUN.out]
                        obtain ⟨a9, c9, hbx, h2, h3⟩ := HBX.out
                        exact ⟨a9, c9, (hbel.block _ (lt_of_block hbx)).trans hbx, h2, h3⟩)
                      have HW6 : Hid (Below w.heap.size w w2) := Lib.hid (bnext HWZ.out hbel)
                      have HUP6 : Hid (Upper B2 W3 w2) := Lib.hid (HUP.out.bel HSZ.out hbel)
                      have HKB6 : Hid (pb < b9 ∧ w.heap.size ≤ b9 ∧ (b9 < B2 ∨ W3.heap.size ≤ b9) ∧ W3.heap.size ≤ w2.heap.size) := Lib.hid (by
                        have h1 := HPLT.out
                        have h2 := HSZ.out
                        have h3 := hbel.size
                        have h4 := HWZ.out.size
                        exact ⟨by omega, by omega, .inr (by omega), by omega⟩)
                      clear hk9 hb9 hbel
                      go_wp2
                      go_roundg (len rs - (m + 1))
                      case rel => exact ⟨m + 1, b9, by omega, by go_num, rfl, HG6, HBX6, HW6, HUP6, HKB6⟩
                      case measure => omega
                · obtain rfl : m = len rs := by omega
                  have b1 : ¬ ((len rs : Nat) : Int) < len rs := by omega
                  obtain ⟨⟨L, hL, hmf⟩, _⟩ := HG.out
                  have HLL := Lib.hid hL
                  have HLK : Hid ((mGet L 0).getD (.string ⟨#[]⟩) = .string (rootS (nn : Nat) ps es ds)) := Lib.hid (by
                    have h1 := hmf.look 0
                    rw [HE.out.2]
                    unfold rootT at h1
                    rw [take_len] at h1
                    exact h1)
                  clear hL hmf
                  go_wp2_with (at_lookup; refine wpList_lookup_m rfl _ _ 168 37 9 .u64 rfl Tryz.underlying168 Tryz.underlying37 (.string ⟨#[]⟩) (Tryz.zeroValue9 _) kb 0 _ rfl HLL.out 0 rfl ?_; rw [HLK.out])
                  go_ret2
                  exact ⟨by rw [HE.out.1]; rfl, HWZ.out⟩
end Go.Proofs.YtoafjbillcooiaaGreat
namespace Go.Proofs.YtoafjbillcooiaaGreat
open Go.RowKit
set_option linter.unusedSimpArgs false
set_option linter.unusedVariables false
structure Plc where
  K : Int
  d : ByteArray
abbrev Plc.val (r : Plc) : Value := .agg #[.int .u64 r.K, .string r.d]
def Plc.cells (r : Plc) : List Value := [.int .u64 r.K, .string r.d]
theorem Plc.cells_len (r : Plc) : r.cells.length = 2 := rfl
def Plc.zero : Plc := ⟨0, ByteArray.empty⟩
def plth (l : List Plc) (i : Nat) : Plc := l.getD i Plc.zero
theorem plth_eq (l : List Plc) (i : Nat) (h : i < l.length) : plth l i = l[i] := by unfold plth; rw [List.getD_eq_getElem?_getD, List.getElem?_eq_getElem h]; rfl
structure PlcAt (w : World) (b o : Nat) (r : Plc) : Prop where
  c0 : w.cell? ⟨b, o, none⟩ = some (.int .u64 r.K)
  c1 : w.cell? ⟨b, o + 1, none⟩ = some (.string r.d)
theorem PlcAt.below {w w' : World} {b o : Nat} {r : Plc} (h : PlcAt w b o r) (hb : Below w.heap.size w w') : PlcAt w' b o r := by
  have hl := lt_of_cell h.c0
  have e : ∀ q, w'.cell? ⟨b, q, none⟩ = w.cell? ⟨b, q, none⟩ := fun q => hb.cell (p := ⟨b, q, none⟩) hl
  obtain ⟨c0, c1⟩ := h
  constructor <;> (rw [e]; assumption)
def Plcs (w : World) (a : Option Addr) (l : List Plc) : Prop := ∀ i, i < len l → ∃ b off, a = some ⟨b, off, none⟩ ∧ PlcAt w b (off + i * 2) (plth l i)
theorem Plcs.nil (w : World) (a : Option Addr) : Plcs w a [] := fun i hi => absurd hi (by simp [len])
theorem Plcs.below {w w' : World} {a : Option Addr} {l : List Plc} (h : Plcs w a l) (hb : Below w.heap.size w w') : Plcs w' a l := fun i hi => by
  obtain ⟨b, off, rfl, hc⟩ := h i hi
  exact ⟨b, off, rfl, hc.below hb⟩
theorem Plcs.drew {w w' : World} {a : Option Addr} {l : List Plc} (h : Plcs w a l) (hb : Drew w w') : Plcs w' a l := h.below (hb.below _)
theorem Plcs.take {w : World} {a : Option Addr} {l : List Plc} (h : Plcs w a l) (k : Nat) : Plcs w a (l.take k) := fun i hi => by
  have hi2 : i < l.length ∧ i < k := by simp only [len, List.length_take] at hi; omega
  have hi3 : i < (l.take k).length := hi
  have e : plth (l.take k) i = plth l i := by rw [plth_eq l i hi2.1, plth_eq _ i hi3, List.getElem_take]
  rw [e]; exact h i hi2.1
theorem Plcs.drop {w : World} {b off : Nat} {l : List Plc} (h : Plcs w (some ⟨b, off, none⟩) l) (k : Nat) : Plcs w (some ⟨b, off + k * 2, none⟩) (l.drop k) := fun i hi => by
  have hi2 : k + i < l.length := by simp only [len, List.length_drop] at hi; omega
  have hi3 : i < (l.drop k).length := hi
  have e : plth (l.drop k) i = plth l (k + i) := by rw [plth_eq l _ hi2, plth_eq _ i hi3, List.getElem_drop]
  obtain ⟨b', off', e2, hc⟩ := h (k + i) hi2
  cases e2
  exact ⟨b, _, rfl, by rw [e, show off + k * 2 + i * 2 = off + (k + i) * 2 by omega]; exact hc⟩
theorem Plcs.own {w : World} {base e n : Nat} {v : Value} {l : List Plc} (h : w.ownsRow base e 2 v n (l.flatMap Plc.cells)) : ∃ a cap, v = .slice a (len l) cap ∧ Plcs w a l ∧ len l ≤ cap := by
  have hn : len l = n := by have := h.1; rw [flat_length Plc.cells 2 Plc.cells_len] at this; rw [len_eq]; omega
  obtain ⟨h1, h2⟩ := h
  rcases h2 with ⟨rfl, h2⟩ | ⟨g, cap, cur, rfl, hg, hh, hc1, hc2, hc3, hc4⟩
  · obtain rfl : l = [] := List.eq_nil_of_length_eq_zero (by rw [← len_eq]; omega)
    exact ⟨none, 0, rfl, Plcs.nil _ _, Nat.le_refl _⟩
  · refine ⟨some ⟨g, 0, none⟩, cap, by rw [hn], fun i hi => ⟨g, 0, rfl, ?_⟩, by omega⟩
    have hown : w.ownsRow base e 2 (.slice (some ⟨g, 0, none⟩) n cap) n (l.flatMap Plc.cells) := ⟨h1, .inr ⟨g, cap, cur, rfl, hg, hh, hc1, hc2, hc3, hc4⟩⟩
    have key : ∀ r, r < 2 → w.cell? ⟨g, 0 + i * 2 + r, none⟩ = (plth l i).cells[r]? := fun r hr => by
      have := hown.cellAt (i * 2 + r) (by rw [← hn]; omega)
      rw [Nat.zero_add, this, flat_get Plc.cells 2 Plc.cells_len l i r hi hr, plth_eq l i hi]
    exact ⟨key 0 (by decide), key 1 (by decide)⟩
theorem Plcs.block {w : World} {g : Nat} {l : List Plc} {t : TypeId} {fr : Nat × Nat} (h : w.heap[g]? = some (.cells (l.flatMap Plc.cells).toArray t fr)) : Plcs w (some ⟨g, 0, none⟩) l := fun i hi => ⟨g, 0, rfl, by
  have key : ∀ r, r < 2 → w.cell? ⟨g, 0 + i * 2 + r, none⟩ = (plth l i).cells[r]? := fun r hr => by
    rw [Nat.zero_add, block_cell h, List.getElem?_toArray, flat_get Plc.cells 2 Plc.cells_len l i r hi hr, plth_eq l i hi]
  exact ⟨key 0 (by decide), key 1 (by decide)⟩⟩
theorem info_plc : (Tryz.prog.info? 173).map (fun i => (i.zero, i.size, i.bytes)) = some (some Plc.zero.val, 2, 24) := by kernel_rfl
def fndF (l : List Plc) : KnF := fun k => (l.find? (fun x => x.K == k)).map (·.d)
theorem fndF_cons (x : Plc) (l : List Plc) (k : Int) : fndF (x :: l) k = if x.K = k then some x.d else fndF l k := by
  unfold fndF
  rw [List.find?_cons]
  by_cases h : x.K = k
  · simp [h]
  · have : (x.K == k) = false := by simpa using h
    simp [this, h]
theorem fndF_none : ∀ (l : List Plc) (k : Int), (∀ j, j < len l → (plth l j).K ≠ k) → fndF l k = none
  | [], k, _ => rfl
  | x :: l, k, h => by
    rw [fndF_cons, if_neg (show ¬ x.K = k from h 0 (show 0 < (x :: l).length by simp))]
    exact fndF_none l k (fun j hj => h (j + 1) (show j + 1 < (x :: l).length by simp; exact hj))
theorem fndF_at : ∀ (l : List Plc) (k : Int) (m : Nat), m < len l → (∀ j, j < m → (plth l j).K ≠ k) → (plth l m).K = k → fndF l k = some (plth l m).d
  | x :: l, k, 0, _, _, h => by rw [fndF_cons]; exact if_pos h
  | x :: l, k, m + 1, hm, hn, h => by
    rw [fndF_cons, if_neg (show ¬ x.K = k from hn 0 (Nat.succ_pos _))]
    exact fndF_at l k m (Nat.lt_of_succ_lt_succ hm) (fun j hj => hn (j + 1) (Nat.succ_lt_succ hj)) h
theorem fndF_snoc : ∀ (l : List Plc) (x : Plc), fndF l x.K = none → fndF (l ++ [x]) = putF (fndF l) x.K x.d
  | [], x, _ => by
    funext k
    show fndF [x] k = _
    rw [fndF_cons]
    unfold putF
    by_cases h : x.K = k
    · rw [if_pos h, if_pos h.symm]
    · rw [if_neg h, if_neg (fun e => h e.symm)]
  | y :: l, x, h => by
    rw [fndF_cons] at h
    by_cases e : y.K = x.K
    · rw [if_pos e] at h; cases h
    · rw [if_neg e] at h
      have ih := fndF_snoc l x h
      funext k
      show fndF (y :: (l ++ [x])) k = _
      rw [fndF_cons, ih]
      by_cases e2 : y.K = k
      · rw [if_pos e2, putF_other _ _ (fun e3 => e (e2.trans e3)), fndF_cons, if_pos e2]
      · rw [if_neg e2]
        by_cases e3 : k = x.K
        · subst e3; rw [putF_same, putF_same]
        · rw [putF_other _ _ e3, putF_other _ _ e3, fndF_cons, if_neg e2]
set_option maxRecDepth 100000 in
set_option maxHeartbeats 4000000 in
theorem find_any (l : List Plc) (k : Int) (a : Option Addr) (cap : Nat) (w : World) (h : Plcs w a l) (hn : len l ≤ 1000000) :
    Calls Tryz.prog 129 #[.slice a (len l) cap, .int .u64 k] w fun e w' => e = .returned (.string (kidF (fndF l) k)) ∧ Below w.heap.size w w' := by
  have H := Lib.hid h
  have HN := Lib.hid hn
  clear h hn
  go_enter Tryz.func129, Tryz.ntmps129
  go_wp2
  go_loopg [5] (len l) (fun g i wr => ∃ m : Nat, g + m = len l ∧ i = .int .i64 m ∧ Hid (∀ j, j < m → (plth l j).K ≠ k) ∧ Hid (Below w.heap.size w wr))
  case atStart => exact ⟨0, rfl, rfl, Lib.hid (fun j hj => by omega), Lib.hid (Below.refl _ _)⟩
  case round =>
    obtain ⟨m, hm, rfl, HE, HW⟩ := hrel
    have hnn := HN.out
    by_cases hlt : m < len l
    · have b0 : (m : Int) < len l := by omega
      have b2 : ¬ len l ≤ m := by omega
      obtain ⟨b, off, rfl, hc⟩ := (H.out.below HW.out) m hlt
      have c0 := hc.c0
      have c1 := hc.c1
      have l1 := lt_of_cell c0
      have HLT := Lib.hid hlt
      obtain ⟨x, hx⟩ : ∃ x, plth l m = x := ⟨_, rfl⟩
      have HX := Lib.hid hx
      rw [hx] at c0 c1
      clear hx hc
      by_cases e : x.K = k
      · have HEQ := Lib.hid e
        have d0 : (x.K == k) = true := by simpa using e
        clear e
        go_wp2
        go_ret
        refine ⟨?_, HW.out⟩
        have h1 := fndF_at l k m HLT.out HE.out (by rw [HX.out]; exact HEQ.out)
        unfold kidF
        rw [h1, HX.out]
        rfl
      · have HNE := Lib.hid e
        have d0 : (x.K == k) = false := by simpa using e
        clear e
        go_wp2
        go_roundg (len l - (m + 1))
        case rel => exact ⟨m + 1, by omega, by go_num, Lib.hid (fun j hj => by
          by_cases e : j = m
          · subst e; rw [HX.out]; exact HNE.out
          · exact HE.out j (by omega)), HW⟩
        case measure => omega
    · obtain rfl : m = len l := by omega
      have b0 : ¬ ((len l : Nat) : Int) < len l := by omega
      go_wp2
      go_ret
      refine ⟨?_, HW.out⟩
      have h1 := fndF_none l k HE.out
      unfold kidF
      rw [h1]
      rfl
end Go.Proofs.YtoafjbillcooiaaGreat
namespace Go.Proofs.YtoafjbillcooiaaGreat
open Go.RowKit
set_option linter.unusedSimpArgs false
set_option linter.unusedVariables false
set_option maxRecDepth 100000 in
theorem rturned_any (x : W32) (n : Nat) (w : World) (h1 : 1 ≤ n) (h2 : n ≤ 31) : Calls Tryz.prog 141 #[.int .u32 (wI x), .int .i64 (n : Nat)] w fun e w' => e = .returned (.int .u32 (wI (rotr x n))) ∧ Drew w w' := by
  have s1 := bv_shrm x n
  have s2 := bv_shlm x (32 - n)
  have s3 : bits .or .u32 (wI (x >>> n)) (wI (x <<< (32 - n))) = wI (rotr x n) := by rw [bv_or]; rfl
  have m1 : min n 32 = n := by omega
  have m2 : min (32 - n) 32 = 32 - n := by omega
  have a1 : ¬ ((n : Nat) : Int) < 0 := by omega
  have a2 : ¬ (32 : Int) - ((n : Nat) : Int) < 0 := by omega
  have a3 : IntKind.i64.wrap (32 - ((n : Nat) : Int)) = 32 - ((n : Nat) : Int) := IntWalk.i64_in _ (by omega)
  have a4 : ((32 : Int) - ((n : Nat) : Int)).toNat = 32 - n := by omega
  go_enter Tryz.func141, Tryz.ntmps141
  go_wp2
  go_quiet (fail)
  go_wp2
  go_ret
  exact ⟨rfl, _, rfl⟩
theorem app_data (a b : ByteArray) : (a ++ b).data.toList = a.data.toList ++ b.data.toList := by rw [ByteArray.data_append, Array.toList_append]
theorem data_size (a : ByteArray) : a.data.toList.length = a.size := by rw [Array.length_toList]; rfl
theorem ba_eq {a : ByteArray} {L : List UInt8} (h : a.data.toList = L) : a = ⟨L.toArray⟩ := by
  refine ByteArray.ext (Array.ext' ?_)
  rw [h]
def padS (s : ByteArray) : ByteArray := ⟨(padW s.data.toList).toArray⟩
set_option maxRecDepth 100000 in
set_option maxHeartbeats 4000000 in
theorem rpadded_any (s : ByteArray) (w : World) (hs : s.size ≤ 1152921504606846976) : Calls Tryz.prog 97 #[.string s] w fun e w' => e = .returned (.string (padS s)) ∧ Below w.heap.size w w' := by
  obtain ⟨n, hn⟩ : ∃ n, s.size = n := ⟨_, rfl⟩
  have HN := Lib.hid hn
  rw [hn] at hs
  have HS := Lib.hid hs
  have HL : Hid (s.data.toList.length = n) := Lib.hid (by rw [data_size, hn])
  have u1 : IntKind.u64.wrap ((n : Nat) : Int) = (n : Int) := IntWalk.u64_in _ (by omega)
  have u2 : IntKind.u64.wrap (8 * ((n : Nat) : Int)) = 8 * (n : Int) := IntWalk.u64_in _ (by omega)
  have hn2 : ((s.size : Nat) : Int) = (n : Int) := by omega
  have q0 : s.size + 1 ≤ 9223372036854775807 := by omega
  clear hs
  go_enter Tryz.func97, Tryz.ntmps97
  go_upto_region 3 with fail
  obtain ⟨N, hN⟩ : ∃ N : Nat, 8 * n = N := ⟨_, rfl⟩
  have HN8 := Lib.hid hN
  rw [show 8 * ((n : Nat) : Int) = ((N : Nat) : Int) by omega]
  obtain ⟨X0, hX0⟩ : ∃ X0, s ++ (⟨#[128]⟩ : ByteArray) = X0 := ⟨_, rfl⟩
  rw [hX0]
  have HX0 : Hid (X0.data.toList = s.data.toList ++ [128] ++ List.replicate 0 0) := Lib.hid (by rw [← hX0, app_data]; simp)
  clear hX0 hN u1 u2 hn2 hn q0
  go_loopg [0] (zerosW n) (fun g x wr => ∃ (m : Nat) (X : ByteArray), g + m = zerosW n ∧ x = .string X ∧ Hid (X.data.toList = s.data.toList ++ [128] ++ List.replicate m 0) ∧ Hid (Below w.heap.size w wr))
  case atStart => exact ⟨0, X0, rfl, rfl, HX0, Lib.hid (Below.refl _ _)⟩
  case round =>
    clear HX0
    obtain ⟨m, X, hm, rfl, HX, HW⟩ := hrel
    have hz := zerosW_le n
    have HSZ : Hid (X.size = n + 1 + m) := Lib.hid (by
      have h1 := congrArg List.length HX.out
      rw [data_size] at h1
      simp only [List.length_append, List.length_replicate, List.length_singleton] at h1
      have := HL.out
      omega)
    by_cases hlt : m < zerosW n
    · have q1 : ¬ ((X.size : Nat) : Int) % 64 = 56 := by have := zerosW_not n m hlt; have := HSZ.out; omega
      have q2 : X.size + 1 ≤ 9223372036854775807 := by have := HSZ.out; have := HS.out; omega
      have HX2 : Hid ((X ++ (⟨#[0]⟩ : ByteArray)).data.toList = s.data.toList ++ [128] ++ List.replicate (m + 1) 0) := Lib.hid (by
        rw [app_data, HX.out, List.replicate_succ', List.append_assoc (s.data.toList ++ [128])])
      go_wp2
      go_roundg (zerosW n - (m + 1))
      case rel => exact ⟨m + 1, _, by omega, rfl, HX2, HW⟩
      case measure => omega
    · obtain rfl : m = zerosW n := by omega
      have q1 : ((X.size : Nat) : Int) % 64 = 56 := by have := zerosW_end n; have := HSZ.out; omega
      clear hz hlt hm
      go_upto_region 6 with fail
      have HX0 : Hid (X.data.toList = (s.data.toList ++ [128] ++ List.replicate (zerosW n) 0) ++ (num8 N).take 0) := Lib.hid (by rw [List.take_zero, List.append_nil]; exact HX.out)
      go_loopg [4, 0] 8 (fun g i x wr => ∃ (m : Nat) (X : ByteArray), g + m = 8 ∧ i = .int .i64 (56 - 8 * (m : Int)) ∧ x = .string X ∧ Hid (X.data.toList = (s.data.toList ++ [128] ++ List.replicate (zerosW n) 0) ++ (num8 N).take m) ∧ Hid (Below w.heap.size w wr))
      case atStart => exact ⟨0, X, rfl, rfl, rfl, HX0, HW⟩
      case round =>
        clear HX HX0 HW HSZ q1
        obtain ⟨m, X, hm, rfl, rfl, HX, HW⟩ := hrel
        by_cases hlt : m < 8
        · obtain ⟨e, he⟩ : ∃ e : Nat, 56 - 8 * m = e := ⟨_, rfl⟩
          rw [show (56 : Int) - 8 * (m : Int) = ((e : Nat) : Int) by omega]
          have a1 : (0 : Int) ≤ ((e : Nat) : Int) := by omega
          have a2 : ¬ ((e : Nat) : Int) < 0 := by omega
          have a3 : min e 64 = e := by omega
          have a4 : IntKind.i64.wrap (((e : Nat) : Int) - 8) = ((e : Nat) : Int) - 8 := IntWalk.i64_in _ (by omega)
          have HB9 : Hid (Value.int .u8 ((N : Int) / 2 ^ e % 256) = byV ((num8 N).getD m 0)) := Lib.hid (by
            have := num8_byte N m hlt
            rw [show 8 * (7 - m) = e by omega] at this
            exact this)
          obtain ⟨b9, hb9⟩ : ∃ b9, (num8 N).getD m 0 = b9 := ⟨_, rfl⟩
          rw [hb9] at HB9
          have cv : (convert 114 9 (.slice (some ⟨wr.heap.size, 0, none⟩) 1 1)).run Tryz.prog (wr.alloc (.cells #[.int .u8 ((N : Int) / 2 ^ e % 256)] 5)) = .ok (.string ⟨#[b9]⟩) (wr.alloc (.cells #[.int .u8 ((N : Int) / 2 ^ e % 256)] 5)) := by
            rw [HB9.out]
            exact conv_new wr 5 1 1 [b9] rfl
          have HX2 : Hid ((X ++ (⟨#[b9]⟩ : ByteArray)).data.toList = (s.data.toList ++ [128] ++ List.replicate (zerosW n) 0) ++ (num8 N).take (m + 1)) := Lib.hid (by
            have h8 : m < (num8 N).length := by rw [num8_len]; exact hlt
            rw [app_data, HX.out, List.take_succ_eq_append_getElem h8, List.append_assoc]
            congr 2
            rw [← hb9, List.getD_eq_getElem?_getD, List.getElem?_eq_getElem h8]
            rfl)
          have q2 : X.size + 1 ≤ 9223372036854775807 := by
            have h1 := congrArg List.length HX.out
            rw [data_size] at h1
            simp only [List.length_append, List.length_replicate, List.length_singleton, List.length_take] at h1
            have := HL.out
            have := HS.out
            have := zerosW_le n
            omega
          have HE := Lib.hid he
          clear he hb9
          go_wp2
          go_roundg (8 - (m + 1))
          case rel => exact ⟨m + 1, _, by omega, by have := HE.out; congr 1; omega, rfl, HX2, by (repeat (first | exact Below.refl _ _ | assumption | (refine bdrew ?_) | (refine bdrewN ?_ _) | (refine balloc ?_ _) | (refine bset ?_ (by first | omega | (simp; done) | (simp; omega)) _) | (refine bnext ?_ (by assumption))))⟩
          case measure => omega
        · obtain rfl : m = 8 := by omega
          have a1 : ¬ (0 : Int) ≤ 56 - 8 * ((8 : Nat) : Int) := by decide
          have HF : Hid (X = padS s) := Lib.hid (ba_eq (by
            rw [HX.out, padW_parts, HL.out, HN8.out, Nat.mod_eq_of_lt (by have := HN8.out; have := HS.out; omega), List.take_of_length_le (by rw [num8_len]; exact Nat.le_refl _)]))
          go_wp2
          go_ret
          exact ⟨by rw [HF.out]; rfl, HW.out⟩
end Go.Proofs.YtoafjbillcooiaaGreat
namespace Go.Proofs.YtoafjbillcooiaaGreat
open Go.RowKit Go.Great
set_option linter.unusedSimpArgs false
set_option linter.unusedVariables false
theorem idx_str (s : ByteArray) (i : Nat) (x : Int) (hx : x = (i : Int)) (h : i < s.size) (w : World) : (Instr.index 9 (.string s) (.int .i64 x)).run Tryz.prog w = .ok (.int .u8 (wI (bW (bth s.data.toList i)))) w := by
  subst hx
  have h2 : i < s.data.toList.length := by rw [data_size]; exact h
  have e : (s[i]).toNat = (bth s.data.toList i).toNat := by
    unfold bth
    rw [List.getD_eq_getElem?_getD, List.getElem?_eq_getElem h2]
    rfl
  have e3 : ((s[i]).toNat : Int) = wI (bW (bth s.data.toList i)) := by rw [e, wI_bW]
  rw [run_index_string (P := Tryz.prog) (w := w) 9 s .i64 ((i : Nat) : Int) Tryz.underlying9, dif_pos ⟨by omega, by omega⟩]
  have e4 : ∀ (k : Nat) (hk : k < s.size), k = i → ((s[k]'hk).toNat : Int) = wI (bW (bth s.data.toList i)) := fun k hk he => by subst he; exact e3
  rw [e4 _ _ (Int.toNat_natCast i)]
theorem bv_not2 (x : W32) : bits .xor .u32 (if IntKind.u32.signed = true then -1 else IntKind.u32.max) (wI x) = wI (~~~ x) := bv_not x
theorem wpList_build_ofR {P : Program} {ops : Array Oper} {rest : List Oper} {o : Oper} {a : Act} {w : World} {Q : Exit → Act → World → Prop} (hg : o.guard = none) (t : TypeId) (parts : Array (Nat × Operand)) (ho : o.op = .build t parts) (cs : Array Value)
    (hf : P.built t (parts.map fun (i, x) => (i, a.eval x)).toList = some cs) (h : wpList P ops Q rest (a.put o.dst (.agg cs)) w) : wpList P ops Q (o :: rest) a w :=
  wpList_build hg t parts ho (by rw [hf]; rfl) (by rw [hf]; exact h)
def Ev (a : Act) (n : Nat) (l : List (Nat × Value)) : Prop := a.tmps.size = n ∧ a.defers = [] ∧ ∀ p ∈ l, a.eval (.tmp p.1) = p.2
theorem Ev.put {a : Act} {n : Nat} {l : List (Nat × Value)} (h : Ev a n l) (d : Nat) (v : Value) (hd : d < n) (hf : l.all (fun p => p.1 != d) = true) : Ev (a.put (some d) v) n ((d, v) :: l) := by
  refine ⟨by simp [Act.put, h.1], h.2.1, ?_⟩
  intro p hp
  rcases List.mem_cons.1 hp with rfl | hp
  · exact eval_put_same (by rw [h.1]; exact hd)
  · have h1 := List.all_eq_true.1 hf p hp
    rw [eval_put_ne (by simpa using h1)]
    exact h.2.2 p hp
theorem Ev.at {a : Act} {n : Nat} {l : List (Nat × Value)} (h : Ev a n l) (k d : Nat) (v : Value) (hk : l[k]? = some (d, v)) : a.eval (.tmp d) = v := h.2.2 (d, v) (List.mem_of_getElem? hk)
theorem Ev.atf {a : Act} {n : Nat} {l : List (Nat × Value)} (h : Ev a n l) (k d : Nat) (v : Value) (hk : l[k]? = some (d, v)) : a.tmps[d]?.getD undef = v := (ev_form a d).symm.trans (h.at k d v hk)
theorem wp_of_act {P : Program} {c : Code} {Q : Exit → Act → World → Prop} {a : Act} {w : World} (h : ∀ a0 : Act, a0 = a → Code.wp P c Q a0 w) : Code.wp P c Q a w := h a rfl
def zero8R : List W32 := List.replicate 8 0
structure BlkAt (pb rb : Nat) (A9 : Array Value) (w wr : World) : Prop where
  below : Below w.heap.size w wr
  p : wr.heap[pb]? = some (.cells A9 147 (0, 0))
  r : wr.heap[rb]? = some (.cells (wsC zero8R) 147 (0, 0))
theorem BlkAt.next {pb rb : Nat} {A9 : Array Value} {w wr w' : World} (h : BlkAt pb rb A9 w wr) (hb : Below wr.heap.size wr w') : BlkAt pb rb A9 w w' :=
  ⟨bnext h.below hb, (hb.block _ (lt_of_block h.p)).trans h.p, (hb.block _ (lt_of_block h.r)).trans h.r⟩
theorem BlkAt.set {pb rb b o : Nat} {A9 : Array Value} {w wr : World} {v : Value} (h : BlkAt pb rb A9 w wr) (h0 : w.heap.size ≤ b) (h1 : pb ≠ b) (h2 : rb ≠ b) : BlkAt pb rb A9 w (wr.setCell ⟨b, o, none⟩ v) :=
  ⟨bset h.below h0 _, block_setCell_ne h.p h1 _, block_setCell_ne h.r h2 _⟩
set_option maxRecDepth 100000 in
set_option maxHeartbeats 4000000 in
theorem rconsts_any (w : World) : Calls Tryz.prog 142 #[] w fun e w' => e = .returned (.agg (wsC kW)) ∧ Below w.heap.size w w' := by
  go_enter Tryz.func142, Tryz.ntmps142
  go_upto_region 1 with fail
  obtain ⟨b, hb⟩ : ∃ b, w.heap.size = b := ⟨_, rfl⟩
  show Code.wp _ _ _ _ (w.alloc (.cells (wsC zeroW) 193))
  obtain ⟨V, hV⟩ : ∃ V, w.alloc (.cells (wsC zeroW) 193) = V := ⟨_, rfl⟩
  have HV : Hid (V.heap[b]? = some (.cells (wsC zeroW) 193 (0, 0))) := Lib.hid (by rw [← hV, ← hb]; exact heap_alloc_new _ _)
  have HS : Hid (Below w.heap.size w V) := Lib.hid (by rw [← hV]; exact balloc (Below.refl _ _) _)
  have HBW : Hid (w.heap.size ≤ b) := Lib.hid (Nat.le_of_eq hb)
  rw [hV, hb]
  clear hV hb
  apply wp_region_lit
  refine wpList_build rfl 193 _ rfl (by as_aux_lemma => kernel_rfl) ?_
  refine wpList_store_row rfl 193 _ _ rfl b (wsC kW) rfl (by as_aux_lemma => kernel_rfl) 193 (wsC zeroW) HV.out (by as_aux_lemma => kernel_rfl) (by as_aux_lemma => kernel_rfl) (by as_aux_lemma => kernel_rfl) ?_
  apply wpList_nil
  obtain ⟨U, hU⟩ : ∃ U, V.setRow b (wsC kW) = U := ⟨_, rfl⟩
  have HU : Hid (U.heap[b]? = some (.cells (wsC kW) 193 (0, 0))) := Lib.hid (by rw [← hU]; exact setRow_heap V b _ _ _ _ HV.out)
  have HUB : Hid (Below w.heap.size w U) := Lib.hid (by
    rw [← hU]
    exact ⟨HS.out.os, HS.out.tape, HS.out.output, by rw [setRow_size]; exact HS.out.size, fun i hi => by rw [setRow_other _ _ _ _ (show i ≠ b by have := HBW.out; omega)]; exact HS.out.block i hi⟩)
  rw [hU]
  rename_i Q' K hK
  refine hK _ _ ?_
  apply wp_ret
  refine bodyPost_ret (v := .agg (wsC kW)) ?_ rfl ?_
  · exact results_cell_row rfl _ _ b 193 (wsC kW) (0, 0) _ rfl HU.out rfl rfl (by as_aux_lemma => kernel_rfl)
  · exact ⟨rfl, HUB.out⟩
attribute [local go_sem] bv_xor bv_and bv_or bv_add bv_addm
set_option maxRecDepth 100000 in
set_option maxHeartbeats 8000000 in
theorem rblock_any (v : St8) (s : ByteArray) (w : World) (hs : s.size = 64) :
    Calls Tryz.prog 98 #[.agg (wsC (stL v)), .string s] w fun e w' => e = .returned (.agg (wsC (stL (pressW v s.data.toList)))) ∧ Below w.heap.size w w' := by
  have HS := Lib.hid hs
  obtain ⟨A9, hA9⟩ : ∃ A9, wsC (stL v) = A9 := ⟨_, rfl⟩
  have HA9 := Lib.hid hA9
  rw [hA9]
  clear hs hA9
  go_enter Tryz.func98, Tryz.ntmps98
  go_upto_region 3 with fail
  obtain ⟨pb, hpb⟩ : ∃ pb, w.heap.size = pb := ⟨_, rfl⟩
  obtain ⟨rb, hrb⟩ : ∃ rb, pb + 1 = rb := ⟨_, rfl⟩
  obtain ⟨wb, hwb⟩ : ∃ wb, rb + 1 = wb := ⟨_, rfl⟩
  have e1 : w.heap.size + 1 = rb := by omega
  have e2 : w.heap.size + 1 + 1 = wb := by omega
  rw [e2, e1, hpb]
  obtain ⟨L, hL⟩ : ∃ L, s.data.toList = L := ⟨_, rfl⟩
  have HLL := Lib.hid hL
  have HLN : Hid (L.length = 64) := Lib.hid (by rw [← hL, data_size]; exact HS.out)
  have HNE : Hid (w.heap.size ≤ pb ∧ w.heap.size ≤ rb ∧ w.heap.size ≤ wb ∧ pb ≠ wb ∧ rb ≠ wb ∧ pb < wb ∧ rb < wb) := Lib.hid (by omega)
  change Code.wp _ _ _ _ (((w.alloc (.cells A9 147)).alloc (.cells (wsC zero8R) 147)).alloc (.cells (wsC zeroW) 193))
  obtain ⟨U, hU⟩ : ∃ U, (((w.alloc (.cells A9 147)).alloc (.cells (wsC zero8R) 147)).alloc (.cells (wsC zeroW) 193)) = U := ⟨_, rfl⟩
  rw [hU]
  have HB0 : Hid (BlkAt pb rb A9 w U) := Lib.hid ⟨by rw [← hU]; exact balloc (balloc (balloc (Below.refl _ _) _) _) _, by rw [← hU]; exact block_alloc (block_alloc (alloc_new_at _ hpb) _) _, by rw [← hU]; exact block_alloc (alloc_new_at _ (by rw [alloc_size _ rfl]; omega)) _⟩
  have HW0 : Hid (U.heap[wb]? = some (.cells (wsC (headZ L 0)) 193 (0, 0))) := Lib.hid (by rw [← hU]; exact alloc_new_at _ (by rw [alloc_size _ (alloc_size _ rfl)]; omega))
  clear hU e1 e2 hwb hrb hpb
  go_loopg [6] 16 (fun g i wr => ∃ m : Nat, g + m = 16 ∧ i = .int .i64 m ∧ Hid (wr.heap[wb]? = some (.cells (wsC (headZ L m)) 193 (0, 0))) ∧ Hid (BlkAt pb rb A9 w wr))
  case atStart => exact ⟨0, rfl, rfl, HW0, HB0⟩
  case round =>
    clear HW0 HB0
    obtain ⟨m, hm, rfl, HW, HB⟩ := hrel
    by_cases hlt : m < 16
    · have i1 : (m : Int) < 16 := by omega
      have i4 : IntKind.i64.wrap (4 * ((m : Nat) : Int)) = 4 * ((m : Nat) : Int) := IntWalk.i64_in _ (by omega)
      have i5 : IntKind.i64.wrap (4 * ((m : Nat) : Int) + 1) = 4 * ((m : Nat) : Int) + 1 := IntWalk.i64_in _ (by omega)
      have i6 : IntKind.i64.wrap (4 * ((m : Nat) : Int) + 2) = 4 * ((m : Nat) : Int) + 2 := IntWalk.i64_in _ (by omega)
      have i7 : IntKind.i64.wrap (4 * ((m : Nat) : Int) + 3) = 4 * ((m : Nat) : Int) + 3 := IntWalk.i64_in _ (by omega)
      have m64 : ¬ (64 : Int) ≤ (m : Int) := by omega
      have m65 : ¬ 64 ≤ m := by omega
      obtain ⟨B0, hB0⟩ : ∃ B, bW (bth L (4 * m)) = B := ⟨_, rfl⟩
      obtain ⟨B1, hB1⟩ : ∃ B, bW (bth L (4 * m + 1)) = B := ⟨_, rfl⟩
      obtain ⟨B2, hB2⟩ : ∃ B, bW (bth L (4 * m + 2)) = B := ⟨_, rfl⟩
      obtain ⟨B3, hB3⟩ : ∃ B, bW (bth L (4 * m + 3)) = B := ⟨_, rfl⟩
      have hs4 := HS.out
      have x0 : ∀ wv : World, (Instr.index 9 (.string s) (.int .i64 (4 * ((m : Nat) : Int)))).run Tryz.prog wv = .ok (.int .u8 (wI B0)) wv := fun wv => by rw [idx_str s (4 * m) _ (by omega) (by omega), HLL.out, hB0]
      have x1 : ∀ wv : World, (Instr.index 9 (.string s) (.int .i64 (4 * ((m : Nat) : Int) + 1))).run Tryz.prog wv = .ok (.int .u8 (wI B1)) wv := fun wv => by rw [idx_str s (4 * m + 1) _ (by omega) (by omega), HLL.out, hB1]
      have x2 : ∀ wv : World, (Instr.index 9 (.string s) (.int .i64 (4 * ((m : Nat) : Int) + 2))).run Tryz.prog wv = .ok (.int .u8 (wI B2)) wv := fun wv => by rw [idx_str s (4 * m + 2) _ (by omega) (by omega), HLL.out, hB2]
      have x3 : ∀ wv : World, (Instr.index 9 (.string s) (.int .i64 (4 * ((m : Nat) : Int) + 3))).run Tryz.prog wv = .ok (.int .u8 (wI B3)) wv := fun wv => by rw [idx_str s (4 * m + 3) _ (by omega) (by omega), HLL.out, hB3]
      have HW4 : Hid (B0 <<< 24 ||| B1 <<< 16 ||| B2 <<< 8 ||| B3 = w4 (bth L (4 * m)) (bth L (4 * m + 1)) (bth L (4 * m + 2)) (bth L (4 * m + 3))) := Lib.hid (by rw [← hB0, ← hB1, ← hB2, ← hB3]; rfl)
      clear hB0 hB1 hB2 hB3 hs4
      go_upto_region 5 with fail
      refine wp_region_qt 31 rfl (by kernel_rfl) fun w' hE => ?_
      have y1 := @wI_wrap; have y2 := @wI_mod; have y3 := @bv_shl24; have y4 := @bv_shl16; have y5 := @bv_shl8; have y6 := @bv_or
      simp only [List.take_succ_cons, List.take_zero, List.drop_succ_cons, List.drop_zero]
      repeat go_big_quiet_step (fail)
      refine wpQuiet_nil ?_
      clear y1 y2 y3 y4 y5 y6
      have hEw := of_drew hE
      have HW1 := Lib.hid ((hEw.block _ (lt_of_block HW.out)).trans HW.out)
      have HB1 := Lib.hid (HB.out.next hEw)
      have cw : w'.cell? ⟨wb, m, none⟩ = some (.int .u32 (wI (wth (headZ L m) m))) := by rw [block_cell HW1.out, wsC_at _ _ (by rw [headZ_len _ _ (by omega)]; omega)]
      have cf : w'.frozen? ⟨wb, m, none⟩ = false := block_free HW1.out m
      have cl : wb < w'.heap.size := lt_of_block HW1.out
      have HW2 : Hid ((w'.setCell ⟨wb, m, none⟩ (.int .u32 (wI (B0 <<< 24 ||| B1 <<< 16 ||| B2 <<< 8 ||| B3)))).heap[wb]? = some (.cells (wsC (headZ L (m + 1))) 193 (0, 0))) := Lib.hid (by
        have := block_setCell HW1.out (o := m) (.int .u32 (wI (B0 <<< 24 ||| B1 <<< 16 ||| B2 <<< 8 ||| B3)))
        rw [HW4.out] at this ⊢
        rw [wsC_set, headZ_next _ _ (by omega)] at this
        exact this)
      have HB2 : Hid (BlkAt pb rb A9 w (w'.setCell ⟨wb, m, none⟩ (.int .u32 (wI (B0 <<< 24 ||| B1 <<< 16 ||| B2 <<< 8 ||| B3))))) := Lib.hid (HB1.out.set HNE.out.2.2.1 HNE.out.2.2.2.1 HNE.out.2.2.2.2.1)
      clear hE hEw x0 x1 x2 x3 i4 i5 i6 i7 m64 m65
      go_wp2
      go_roundg (16 - (m + 1))
      case rel => exact ⟨m + 1, by omega, by go_num, HW2, HB2⟩
      case measure => omega
    · obtain rfl : m = 16 := by omega
      have i1 : ¬ ((16 : Nat) : Int) < 16 := by decide
      rw [headZ_more] at HW
      go_upto_region 7 with fail
      go_loopg [7, 8, 9] 48 (fun g i _ _ wr => ∃ j : Nat, g + j = 48 ∧ i = .int .i64 ((16 + j : Nat) : Int) ∧ Hid (wr.heap[wb]? = some (.cells (wsC (moreZ L j)) 193 (0, 0))) ∧ Hid (BlkAt pb rb A9 w wr))
      case atStart => exact ⟨0, rfl, rfl, HW, HB⟩
      case round =>
        clear HW HB
        obtain ⟨j, hj, rfl, HW, HB⟩ := hrel
        by_cases hlt : j < 48
        · obtain ⟨t, ht⟩ : ∃ t, 16 + j = t := ⟨_, rfl⟩
          rw [ht]
          have i1 : (t : Int) < 64 := by omega
          obtain ⟨p15, hp15⟩ : ∃ p, t = p + 15 := ⟨t - 15, by omega⟩
          obtain ⟨p2, hp2⟩ : ∃ p, t = p + 2 := ⟨t - 2, by omega⟩
          obtain ⟨p16, hp16⟩ : ∃ p, t = p + 16 := ⟨t - 16, by omega⟩
          obtain ⟨p7, hp7⟩ : ∃ p, t = p + 7 := ⟨t - 7, by omega⟩
          have k15 : IntKind.i64.wrap (((t : Nat) : Int) - 15) = ((p15 : Nat) : Int) := by rw [IntWalk.i64_in _ (by omega)]; omega
          have k2 : IntKind.i64.wrap (((t : Nat) : Int) - 2) = ((p2 : Nat) : Int) := by rw [IntWalk.i64_in _ (by omega)]; omega
          have k16 : IntKind.i64.wrap (((t : Nat) : Int) - 16) = ((p16 : Nat) : Int) := by rw [IntWalk.i64_in _ (by omega)]; omega
          have k7 : IntKind.i64.wrap (((t : Nat) : Int) - 7) = ((p7 : Nat) : Int) := by rw [IntWalk.i64_in _ (by omega)]; omega
          have b15 : ¬ (64 : Int) ≤ (p15 : Int) := by omega
          have b15n : ¬ 64 ≤ p15 := by omega
          have b2 : ¬ (64 : Int) ≤ (p2 : Int) := by omega
          have b2n : ¬ 64 ≤ p2 := by omega
          have b16 : ¬ (64 : Int) ≤ (p16 : Int) := by omega
          have b16n : ¬ 64 ≤ p16 := by omega
          have b7 : ¬ (64 : Int) ≤ (p7 : Int) := by omega
          have b7n : ¬ 64 ≤ p7 := by omega
          have bt : ¬ (64 : Int) ≤ (t : Int) := by omega
          have btn : ¬ 64 ≤ t := by omega
          have hml := moreZ_len L j (by omega)
          have HNX : Hid (nextW (moreW (headW L 16) j) (16 + j) = wth (moreZ L j) p16 + s0W (wth (moreZ L j) p15) + wth (moreZ L j) p7 + s1W (wth (moreZ L j) p2)) := Lib.hid (by
            unfold nextW
            rw [moreZ_at _ _ p16 (by omega), moreZ_at _ _ p15 (by omega), moreZ_at _ _ p7 (by omega), moreZ_at _ _ p2 (by omega), ht, show t - 16 = p16 by omega, show t - 15 = p15 by omega, show t - 7 = p7 by omega, show t - 2 = p2 by omega])
          obtain ⟨W, hW⟩ : ∃ W, wr = W := ⟨_, rfl⟩
          rw [hW] at HW HB ⊢
          obtain ⟨X15, hX15⟩ : ∃ X, wth (moreZ L j) p15 = X := ⟨_, rfl⟩
          obtain ⟨X2, hX2⟩ : ∃ X, wth (moreZ L j) p2 = X := ⟨_, rfl⟩
          obtain ⟨X16, hX16⟩ : ∃ X, wth (moreZ L j) p16 = X := ⟨_, rfl⟩
          obtain ⟨X7, hX7⟩ : ∃ X, wth (moreZ L j) p7 = X := ⟨_, rfl⟩
          have HC : Hid (∀ W9 : World, W9.heap[wb]? = some (.cells (wsC (moreZ L j)) 193 (0, 0)) → W9.cell? ⟨wb, p15, none⟩ = some (.int .u32 (wI X15)) ∧ W9.cell? ⟨wb, p2, none⟩ = some (.int .u32 (wI X2)) ∧ W9.cell? ⟨wb, p16, none⟩ = some (.int .u32 (wI X16)) ∧ W9.cell? ⟨wb, p7, none⟩ = some (.int .u32 (wI X7)) ∧ W9.cell? ⟨wb, t, none⟩ = some (.int .u32 (wI (wth (moreZ L j) t)))) := Lib.hid (fun W9 h9 => by
            refine ⟨?_, ?_, ?_, ?_, ?_⟩
            · rw [block_cell h9, wsC_at _ _ (by rw [hml]; omega), hX15]
            · rw [block_cell h9, wsC_at _ _ (by rw [hml]; omega), hX2]
            · rw [block_cell h9, wsC_at _ _ (by rw [hml]; omega), hX16]
            · rw [block_cell h9, wsC_at _ _ (by rw [hml]; omega), hX7]
            · rw [block_cell h9, wsC_at _ _ (by rw [hml]; omega)])
          rw [hX15, hX2, hX16, hX7] at HNX
          have HT := Lib.hid ht
          have bs3 : (wI X15).fdiv 8 = wI (X15 >>> 3) := bv_shr X15 3
          have bs3m : wI X15 / 8 = wI (X15 >>> 3) := bv_shrm X15 3
          have bs10 : (wI X2).fdiv 1024 = wI (X2 >>> 10) := bv_shr X2 10
          have bs10m : wI X2 / 1024 = wI (X2 >>> 10) := bv_shrm X2 10
          have c15 := (HC.out W HW.out).1
          clear hX15 hX2 hX16 hX7 hW hp15 hp2 hp16 hp7 hml ht
          go_upto_region 9 with fail
          refine wp_region_tail 17 1000 (none) (phis (List.map qv [.int .i64 (t : Nat), .int .i64 (p15 : Nat), .pointer (some ⟨wb, p15, none⟩), .int .u32 (wI X15), .int .u32 (wI (rotr X15 7)), .int .i64 (t : Nat), .int .i64 (p15 : Nat), .pointer (some ⟨wb, p15, none⟩), .int .u32 (wI X15), .int .u32 (wI (rotr X15 18)), .int .u32 (wI (rotr X15 7 ^^^ rotr X15 18)), .int .i64 (t : Nat), .int .i64 (p15 : Nat), .pointer (some ⟨wb, p15, none⟩), .int .u32 (wI X15), .int .u32 (wI (X15 >>> 3)), .int .u32 (wI (rotr X15 7 ^^^ rotr X15 18 ^^^ X15 >>> 3))])) rfl (by kernel_rfl) (by kernel_rfl) (mono_of mono_qv) (steps_of 17 ⟨?s0, ?s1, ?s2, ?s3, ?s4, ?s5, ?s6, ?s7, ?s8, ?s9, ?s10, ?s11, ?s12, ?s13, ?s14, ?s15, ?s16, trivial⟩) ?_
          case s0 =>
            refine qV (fun _ => rfl) rfl fun av wv hE hO hD => ?_
            simp [go_sem, qF av 7 (.int .i64 (t : Nat)) (hO.2.2 7 rfl), k15, b15, b15n, bv_xor, bv_shrm, bs3, bs3m]
          case s1 =>
            refine qV (fun _ => rfl) rfl fun av wv hE hO hD => ?_
            simp [go_sem, qE (hD.1 rfl _ rfl), k15, b15, b15n, bv_xor, bv_shrm, bs3, bs3m]
          case s2 =>
            refine qV (fun _ => rfl) rfl fun av wv hE hO hD => ?_
            simp [go_sem, qF av 5 (.pointer (some ⟨wb, 0, none⟩)) (hO.2.2 5 rfl), qE (hD.1 rfl _ rfl), k15, b15, b15n, bv_xor, bv_shrm, bs3, bs3m]
          case s3 =>
            refine qV (fun _ => rfl) rfl fun av wv hE hO hD => ?_
            simp [go_sem, qE (hD.1 rfl _ rfl), extB_cell hE (by simp) c15, k15, b15, b15n, bv_xor, bv_shrm, bs3, bs3m]
          case s4 =>
            refine step_wp (fun av wv hE hS hO hD => ⟨rfl, ?_⟩)
            have f64 := qE (hD.1 rfl _ rfl)
            refine wp_of_call (v := .int .u32 (wI (rotr X15 7))) (by simp [go_sem, f64]) ((rturned_any X15 7 wv (by decide) (by decide)).mono (fun e w2 ⟨h1, h2⟩ => ⟨h1, h2.below _⟩)) (fun w2 hb => ⟨_, rfl, es_of_ext hb, rfl⟩)
          case s5 =>
            refine qV (fun _ => rfl) rfl fun av wv hE hO hD => ?_
            simp [go_sem, qF av 7 (.int .i64 (t : Nat)) (hO.2.2 7 rfl), k15, b15, b15n, bv_xor, bv_shrm, bs3, bs3m]
          case s6 =>
            refine qV (fun _ => rfl) rfl fun av wv hE hO hD => ?_
            simp [go_sem, qE (hD.1 rfl _ rfl), k15, b15, b15n, bv_xor, bv_shrm, bs3, bs3m]
          case s7 =>
            refine qV (fun _ => rfl) rfl fun av wv hE hO hD => ?_
            simp [go_sem, qF av 5 (.pointer (some ⟨wb, 0, none⟩)) (hO.2.2 5 rfl), qE (hD.1 rfl _ rfl), k15, b15, b15n, bv_xor, bv_shrm, bs3, bs3m]
          case s8 =>
            refine qV (fun _ => rfl) rfl fun av wv hE hO hD => ?_
            simp [go_sem, qE (hD.1 rfl _ rfl), extB_cell hE (by simp) c15, k15, b15, b15n, bv_xor, bv_shrm, bs3, bs3m]
          case s9 =>
            refine step_wp (fun av wv hE hS hO hD => ⟨rfl, ?_⟩)
            have f69 := qE (hD.1 rfl _ rfl)
            refine wp_of_call (v := .int .u32 (wI (rotr X15 18))) (by simp [go_sem, f69]) ((rturned_any X15 18 wv (by decide) (by decide)).mono (fun e w2 ⟨h1, h2⟩ => ⟨h1, h2.below _⟩)) (fun w2 hb => ⟨_, rfl, es_of_ext hb, rfl⟩)
          case s10 =>
            refine qV (fun _ => rfl) rfl fun av wv hE hO hD => ?_
            simp [go_sem, qE (hD.1 rfl _ rfl), qE (hD.2.1 rfl _ rfl), k15, b15, b15n, bv_xor, bv_shrm, bs3, bs3m]
          case s11 =>
            refine qV (fun _ => rfl) rfl fun av wv hE hO hD => ?_
            simp [go_sem, qF av 7 (.int .i64 (t : Nat)) (hO.2.2 7 rfl), k15, b15, b15n, bv_xor, bv_shrm, bs3, bs3m]
          case s12 =>
            refine qV (fun _ => rfl) rfl fun av wv hE hO hD => ?_
            simp [go_sem, qE (hD.1 rfl _ rfl), k15, b15, b15n, bv_xor, bv_shrm, bs3, bs3m]
          case s13 =>
            refine qV (fun _ => rfl) rfl fun av wv hE hO hD => ?_
            simp [go_sem, qF av 5 (.pointer (some ⟨wb, 0, none⟩)) (hO.2.2 5 rfl), qE (hD.1 rfl _ rfl), k15, b15, b15n, bv_xor, bv_shrm, bs3, bs3m]
          case s14 =>
            refine qV (fun _ => rfl) rfl fun av wv hE hO hD => ?_
            simp [go_sem, qE (hD.1 rfl _ rfl), extB_cell hE (by simp) c15, k15, b15, b15n, bv_xor, bv_shrm, bs3, bs3m]
          case s15 =>
            refine step_wp (fun av wv hE hS hO hD => ⟨rfl, ?_⟩)
            have f75 := qE (hD.1 rfl _ rfl)
            exact wp_of_run (v := .int .u32 (wI (X15 >>> 3))) (by simp [go_sem, f75]; exact bs3m) ⟨_, rfl, es_of_ext (Ext_refl _), rfl⟩
          case s16 =>
            refine qV (fun _ => rfl) rfl fun av wv hE hO hD => ?_
            simp [go_sem, qE (hD.1 rfl _ rfl), qE (hD.2.1 rfl _ rfl), k15, b15, b15n, bv_xor, bv_shrm, bs3, bs3m]
          intro a' w' hE hO hall
          have hA := act_of_outer (ds := [61, 62, 63, 64, 65, 66, 67, 68, 69, 70, 71, 72, 73, 74, 75, 76, 77]) rfl hO (by kernel_rfl)
          obtain ⟨j0, j1, j2, j3, j4, j5, j6, j7, j8, j9, j10, j11, j12, j13, j14, j15, j16, -⟩ := hall
          simp only [List.foldl_cons, List.foldl_nil, Act.put, List.setIfInBounds_toArray, List.set_cons_succ, List.set_cons_zero, qJ 61 (j0 _ rfl), qJ 62 (j1 _ rfl), qJ 63 (j2 _ rfl), qJ 64 (j3 _ rfl), qJ 65 (j4 _ rfl), qJ 66 (j5 _ rfl), qJ 67 (j6 _ rfl), qJ 68 (j7 _ rfl), qJ 69 (j8 _ rfl), qJ 70 (j9 _ rfl), qJ 71 (j10 _ rfl), qJ 72 (j11 _ rfl), qJ 73 (j12 _ rfl), qJ 74 (j13 _ rfl), qJ 75 (j14 _ rfl), qJ 76 (j15 _ rfl), qJ 77 (j16 _ rfl)] at hA
          clear hO j0 j1 j2 j3 j4 j5 j6 j7 j8 j9 j10 j11 j12 j13 j14 j15 j16
          subst hA
          have hX := of_drew hE
          have HW := Lib.hid ((hX.block _ (lt_of_block HW.out)).trans HW.out)
          have HB := Lib.hid (HB.out.next hX)
          clear hE hX c15
          obtain ⟨W2, hW2⟩ : ∃ W2, w' = W2 := ⟨_, rfl⟩
          rw [hW2] at HW HB ⊢
          clear hW2 w'
          obtain ⟨Y15, hY15⟩ : ∃ Y, rotr X15 7 ^^^ rotr X15 18 ^^^ X15 >>> 3 = Y := ⟨_, rfl⟩
          rw [hY15]
          have HY15 := Lib.hid hY15
          clear hY15
          have c2 := (HC.out W2 HW.out).2.1
          go_upto_region 10 with fail
          refine wp_region_tail 17 1000 (none) (phis (List.map qv [.int .i64 (t : Nat), .int .i64 (p2 : Nat), .pointer (some ⟨wb, p2, none⟩), .int .u32 (wI X2), .int .u32 (wI (rotr X2 17)), .int .i64 (t : Nat), .int .i64 (p2 : Nat), .pointer (some ⟨wb, p2, none⟩), .int .u32 (wI X2), .int .u32 (wI (rotr X2 19)), .int .u32 (wI (rotr X2 17 ^^^ rotr X2 19)), .int .i64 (t : Nat), .int .i64 (p2 : Nat), .pointer (some ⟨wb, p2, none⟩), .int .u32 (wI X2), .int .u32 (wI (X2 >>> 10)), .int .u32 (wI (rotr X2 17 ^^^ rotr X2 19 ^^^ X2 >>> 10))])) rfl (by kernel_rfl) (by kernel_rfl) (mono_of mono_qv) (steps_of 17 ⟨?s0, ?s1, ?s2, ?s3, ?s4, ?s5, ?s6, ?s7, ?s8, ?s9, ?s10, ?s11, ?s12, ?s13, ?s14, ?s15, ?s16, trivial⟩) ?_
          case s0 =>
            refine qV (fun _ => rfl) rfl fun av wv hE hO hD => ?_
            simp [go_sem, qF av 7 (.int .i64 (t : Nat)) (hO.2.2 7 rfl), k2, b2, b2n, bv_xor, bv_shrm, bs10, bs10m]
          case s1 =>
            refine qV (fun _ => rfl) rfl fun av wv hE hO hD => ?_
            simp [go_sem, qE (hD.1 rfl _ rfl), k2, b2, b2n, bv_xor, bv_shrm, bs10, bs10m]
          case s2 =>
            refine qV (fun _ => rfl) rfl fun av wv hE hO hD => ?_
            simp [go_sem, qF av 5 (.pointer (some ⟨wb, 0, none⟩)) (hO.2.2 5 rfl), qE (hD.1 rfl _ rfl), k2, b2, b2n, bv_xor, bv_shrm, bs10, bs10m]
          case s3 =>
            refine qV (fun _ => rfl) rfl fun av wv hE hO hD => ?_
            simp [go_sem, qE (hD.1 rfl _ rfl), extB_cell hE (by simp) c2, k2, b2, b2n, bv_xor, bv_shrm, bs10, bs10m]
          case s4 =>
            refine step_wp (fun av wv hE hS hO hD => ⟨rfl, ?_⟩)
            have f81 := qE (hD.1 rfl _ rfl)
            refine wp_of_call (v := .int .u32 (wI (rotr X2 17))) (by simp [go_sem, f81]) ((rturned_any X2 17 wv (by decide) (by decide)).mono (fun e w2 ⟨h1, h2⟩ => ⟨h1, h2.below _⟩)) (fun w2 hb => ⟨_, rfl, es_of_ext hb, rfl⟩)
          case s5 =>
            refine qV (fun _ => rfl) rfl fun av wv hE hO hD => ?_
            simp [go_sem, qF av 7 (.int .i64 (t : Nat)) (hO.2.2 7 rfl), k2, b2, b2n, bv_xor, bv_shrm, bs10, bs10m]
          case s6 =>
            refine qV (fun _ => rfl) rfl fun av wv hE hO hD => ?_
            simp [go_sem, qE (hD.1 rfl _ rfl), k2, b2, b2n, bv_xor, bv_shrm, bs10, bs10m]
          case s7 =>
            refine qV (fun _ => rfl) rfl fun av wv hE hO hD => ?_
            simp [go_sem, qF av 5 (.pointer (some ⟨wb, 0, none⟩)) (hO.2.2 5 rfl), qE (hD.1 rfl _ rfl), k2, b2, b2n, bv_xor, bv_shrm, bs10, bs10m]
          case s8 =>
            refine qV (fun _ => rfl) rfl fun av wv hE hO hD => ?_
            simp [go_sem, qE (hD.1 rfl _ rfl), extB_cell hE (by simp) c2, k2, b2, b2n, bv_xor, bv_shrm, bs10, bs10m]
          case s9 =>
            refine step_wp (fun av wv hE hS hO hD => ⟨rfl, ?_⟩)
            have f86 := qE (hD.1 rfl _ rfl)
            refine wp_of_call (v := .int .u32 (wI (rotr X2 19))) (by simp [go_sem, f86]) ((rturned_any X2 19 wv (by decide) (by decide)).mono (fun e w2 ⟨h1, h2⟩ => ⟨h1, h2.below _⟩)) (fun w2 hb => ⟨_, rfl, es_of_ext hb, rfl⟩)
          case s10 =>
            refine qV (fun _ => rfl) rfl fun av wv hE hO hD => ?_
            simp [go_sem, qE (hD.1 rfl _ rfl), qE (hD.2.1 rfl _ rfl), k2, b2, b2n, bv_xor, bv_shrm, bs10, bs10m]
          case s11 =>
            refine qV (fun _ => rfl) rfl fun av wv hE hO hD => ?_
            simp [go_sem, qF av 7 (.int .i64 (t : Nat)) (hO.2.2 7 rfl), k2, b2, b2n, bv_xor, bv_shrm, bs10, bs10m]
          case s12 =>
            refine qV (fun _ => rfl) rfl fun av wv hE hO hD => ?_
            simp [go_sem, qE (hD.1 rfl _ rfl), k2, b2, b2n, bv_xor, bv_shrm, bs10, bs10m]
          case s13 =>
            refine qV (fun _ => rfl) rfl fun av wv hE hO hD => ?_
            simp [go_sem, qF av 5 (.pointer (some ⟨wb, 0, none⟩)) (hO.2.2 5 rfl), qE (hD.1 rfl _ rfl), k2, b2, b2n, bv_xor, bv_shrm, bs10, bs10m]
          case s14 =>
            refine qV (fun _ => rfl) rfl fun av wv hE hO hD => ?_
            simp [go_sem, qE (hD.1 rfl _ rfl), extB_cell hE (by simp) c2, k2, b2, b2n, bv_xor, bv_shrm, bs10, bs10m]
          case s15 =>
            refine step_wp (fun av wv hE hS hO hD => ⟨rfl, ?_⟩)
            have f92 := qE (hD.1 rfl _ rfl)
            exact wp_of_run (v := .int .u32 (wI (X2 >>> 10))) (by simp [go_sem, f92]; exact bs10m) ⟨_, rfl, es_of_ext (Ext_refl _), rfl⟩
          case s16 =>
            refine qV (fun _ => rfl) rfl fun av wv hE hO hD => ?_
            simp [go_sem, qE (hD.1 rfl _ rfl), qE (hD.2.1 rfl _ rfl), k2, b2, b2n, bv_xor, bv_shrm, bs10, bs10m]
          intro a' w' hE hO hall
          have hA := act_of_outer (ds := [78, 79, 80, 81, 82, 83, 84, 85, 86, 87, 88, 89, 90, 91, 92, 93, 94]) rfl hO (by kernel_rfl)
          obtain ⟨j0, j1, j2, j3, j4, j5, j6, j7, j8, j9, j10, j11, j12, j13, j14, j15, j16, -⟩ := hall
          simp only [List.foldl_cons, List.foldl_nil, Act.put, List.setIfInBounds_toArray, List.set_cons_succ, List.set_cons_zero, qJ 78 (j0 _ rfl), qJ 79 (j1 _ rfl), qJ 80 (j2 _ rfl), qJ 81 (j3 _ rfl), qJ 82 (j4 _ rfl), qJ 83 (j5 _ rfl), qJ 84 (j6 _ rfl), qJ 85 (j7 _ rfl), qJ 86 (j8 _ rfl), qJ 87 (j9 _ rfl), qJ 88 (j10 _ rfl), qJ 89 (j11 _ rfl), qJ 90 (j12 _ rfl), qJ 91 (j13 _ rfl), qJ 92 (j14 _ rfl), qJ 93 (j15 _ rfl), qJ 94 (j16 _ rfl)] at hA
          clear hO j0 j1 j2 j3 j4 j5 j6 j7 j8 j9 j10 j11 j12 j13 j14 j15 j16
          subst hA
          have hX := of_drew hE
          have HW := Lib.hid ((hX.block _ (lt_of_block HW.out)).trans HW.out)
          have HB := Lib.hid (HB.out.next hX)
          clear hE hX c2
          obtain ⟨W3, hW3⟩ : ∃ W3, w' = W3 := ⟨_, rfl⟩
          rw [hW3] at HW HB ⊢
          clear hW3 w'
          obtain ⟨Y2, hY2⟩ : ∃ Y, rotr X2 17 ^^^ rotr X2 19 ^^^ X2 >>> 10 = Y := ⟨_, rfl⟩
          rw [hY2]
          have HY2 := Lib.hid hY2
          clear hY2
          have c16 := (HC.out W3 HW.out).2.2.1
          have c7 := (HC.out W3 HW.out).2.2.2.1
          go_upto_region 11 with fail
          refine wp_region_qt 15 rfl (by kernel_rfl) fun w' hE => ?_
          have c16 := extB_cell hE (by simp) c16
          have c7 := extB_cell hE (by simp) c7
          simp only [List.take_succ_cons, List.take_zero, List.drop_succ_cons, List.drop_zero]
          repeat go_big_quiet_step (fail)
          refine wpQuiet_nil ?_
          have hX := of_drew hE
          have HW := Lib.hid ((hX.block _ (lt_of_block HW.out)).trans HW.out)
          have HB := Lib.hid (HB.out.next hX)
          clear hE hX c16 c7
          obtain ⟨W4, hW4⟩ : ∃ W4, w' = W4 := ⟨_, rfl⟩
          rw [hW4] at HW HB ⊢
          clear hW4 w'
          have c0 := (HC.out W4 HW.out).2.2.2.2
          have f0 : W4.frozen? ⟨wb, t, none⟩ = false := block_free HW.out t
          have l0 : wb < W4.heap.size := lt_of_block HW.out
          clear k15 k2 k16 k7 b15 b15n b2 b2n b16 b16n b7 b7n bt btn bs3 bs3m bs10 bs10m
          have iw : IntKind.i64.wrap (((t : Nat) : Int) + 1) = ((t : Nat) : Int) + 1 := IntWalk.i64_in _ (by omega)
          go_wp2
          go_roundg (48 - (j + 1))
          case rel => exact ⟨j + 1, by omega, by have := HT.out; congr 1; omega, Lib.hid (by
            have h9 := block_setCell HW.out (o := t) (wV (X16 + Y15 + X7 + Y2))
            rw [wsC_set] at h9
            rw [← moreZ_next L j hlt, HNX.out, HT.out]
            unfold s0W s1W
            rw [HY15.out, HY2.out]
            exact h9), Lib.hid (HB.out.set HNE.out.2.2.1 HNE.out.2.2.2.1 HNE.out.2.2.2.2.1)⟩
          case measure => omega
        · obtain rfl : j = 48 := by omega
          have i1 : ¬ ((16 + 48 : Nat) : Int) < 64 := by decide
          clear hj hlt i1
          obtain ⟨Ws, hWs⟩ : ∃ Ws, moreW (headW L 16) 48 = Ws := ⟨_, rfl⟩
          have HWL : Hid (Ws.length = 64) := Lib.hid (by rw [← hWs, moreW_len, headW_len])
          have HWS := Lib.hid hWs
          have HW : Hid (wr.heap[wb]? = some (.cells (wsC Ws) 193 (0, 0))) := Lib.hid (by
            have e9 : moreZ L 48 = Ws := by rw [← hWs]; unfold moreZ; rw [Nat.sub_self, List.replicate_zero, List.append_nil]
            rw [← e9]; exact HW.out)
          clear hWs
          have i1 : ¬ ((16 + 48 : Nat) : Int) < 64 := by decide
          go_upto_region 12 with fail
          go_wp2_with fail
          refine (rconsts_any wr).mono ?_
          rintro e w2 ⟨rfl, hb2⟩
          have HW2 := Lib.hid ((hb2.block _ (lt_of_block HW.out)).trans HW.out)
          have HB2 := Lib.hid (HB.out.next hb2)
          obtain ⟨KC, hKC⟩ : ∃ KC, wsC kW = KC := ⟨_, rfl⟩
          have HKC := Lib.hid hKC
          have HKS : Hid (KC.size = 64) := Lib.hid (by rw [← hKC]; rfl)
          have HON : Hid (KC.all (·.oneCell') = true) := Lib.hid (by rw [← hKC]; kernel_rfl)
          have HI : Hid ((Tryz.prog.info? 193).map (·.size) = some KC.size) := Lib.hid (by rw [HKS.out]; kernel_rfl)
          rw [hKC]
          clear hb2 hKC HW HB
          go_upto_region 13 with (first | (refine wpList_store_row ?_ 193 (.tmp 10) (.tmp 110) ?_ w2.heap.size KC ?_ ?_ 193 _ (heap_alloc_new _ _) HI.out ?_ HON.out ?_; rfl; rfl; rfl; rfl; (rw [HKS.out]; rfl); skip))
          have HKB : Hid (w.heap.size ≤ w2.heap.size ∧ pb < w2.heap.size ∧ rb < w2.heap.size ∧ wb < w2.heap.size) := Lib.hid ⟨HB2.out.below.size, lt_of_block HB2.out.p, lt_of_block HB2.out.r, lt_of_block HW2.out⟩
          change Code.wp _ _ _ _ ((w2.alloc (.cells (wsC zeroW) 193)).setRow w2.heap.size KC)
          obtain ⟨V, hV⟩ : ∃ V, (w2.alloc (.cells (wsC zeroW) 193)).setRow w2.heap.size KC = V := ⟨_, rfl⟩
          rw [hV]
          obtain ⟨kb, hkb⟩ : ∃ kb, w2.heap.size = kb := ⟨_, rfl⟩
          rw [hkb] at hV HKB ⊢
          have HVK : Hid (V.heap[kb]? = some (.cells (wsC kW) 193 (0, 0))) := Lib.hid (by rw [HKC.out, ← hV]; exact setRow_heap _ _ _ _ _ _ (by rw [← hkb]; exact heap_alloc_new _ _))
          have HVO : ∀ b c, b < kb → w2.heap[b]? = some c → V.heap[b]? = some c := fun b c hb hc => by
            rw [← hV, setRow_other _ _ _ _ (show b ≠ kb by omega)]
            exact block_alloc hc _
          have HVS : w2.heap.size ≤ V.heap.size := by rw [← hV, setRow_size]; exact (balloc (Below.refl _ w2) _).size
          have HVB : Hid (Below w.heap.size w V) := Lib.hid (by
            have h1 : Below w.heap.size w (w2.alloc (.cells (wsC zeroW) 193)) := balloc HB2.out.below _
            rw [← hV]
            exact ⟨h1.os, h1.tape, h1.output, by rw [setRow_size]; exact h1.size, fun i hi => by rw [setRow_other _ _ _ _ (show i ≠ kb by have := HKB.out; omega)]; exact h1.block i hi⟩)
          have HVW := Lib.hid (HVO wb _ HKB.out.2.2.2 HW2.out)
          have HVA : Hid (BlkAt pb rb A9 w V) := Lib.hid ⟨HVB.out, HVO pb _ HKB.out.2.1 HB2.out.p, HVO rb _ HKB.out.2.2.1 HB2.out.r⟩
          clear hV hkb HVO HVS HVB HB2 HW2 HI HON HKS
          have p0 : V.cell? ⟨pb, 0, none⟩ = some (.int .u32 (wI v.a)) := (block_cell HVA.out.p 0).trans (by rw [← HA9.out]; rfl)
          have p1 : V.cell? ⟨pb, 1, none⟩ = some (.int .u32 (wI v.b)) := (block_cell HVA.out.p 1).trans (by rw [← HA9.out]; rfl)
          have p2 : V.cell? ⟨pb, 2, none⟩ = some (.int .u32 (wI v.c)) := (block_cell HVA.out.p 2).trans (by rw [← HA9.out]; rfl)
          have p3 : V.cell? ⟨pb, 3, none⟩ = some (.int .u32 (wI v.d)) := (block_cell HVA.out.p 3).trans (by rw [← HA9.out]; rfl)
          refine wp_region_all 1000 (none) (phis (List.map qv [.pointer (some ⟨pb, 0, none⟩), .int .u32 (wI v.a), .pointer (some ⟨pb, 1, none⟩), .int .u32 (wI v.b), .pointer (some ⟨pb, 2, none⟩), .int .u32 (wI v.c), .pointer (some ⟨pb, 3, none⟩), .int .u32 (wI v.d), .int .u32 (wI v.a), .int .u32 (wI v.b), .int .u32 (wI v.c), .int .u32 (wI v.d)])) rfl (by kernel_rfl) (mono_of mono_qv) (steps_of 12 ⟨?s0, ?s1, ?s2, ?s3, ?s4, ?s5, ?s6, ?s7, ?s8, ?s9, ?s10, ?s11, trivial⟩) ?_
          case s0 =>
            refine qV (fun _ => rfl) rfl fun av wv hE hO hD => ?_
            simp [go_sem, qF av 2 (.pointer (some ⟨pb, 0, none⟩)) (hO.2.2 2 rfl)]
          case s1 =>
            refine qV (fun _ => rfl) rfl fun av wv hE hO hD => ?_
            simp [go_sem, qE (hD.1 rfl _ rfl), extB_cell hE (by simp) p0, extB_cell hE (by simp) p1, extB_cell hE (by simp) p2, extB_cell hE (by simp) p3]
          case s2 =>
            refine qV (fun _ => rfl) rfl fun av wv hE hO hD => ?_
            simp [go_sem, qF av 2 (.pointer (some ⟨pb, 0, none⟩)) (hO.2.2 2 rfl)]
          case s3 =>
            refine qV (fun _ => rfl) rfl fun av wv hE hO hD => ?_
            simp [go_sem, qE (hD.1 rfl _ rfl), extB_cell hE (by simp) p0, extB_cell hE (by simp) p1, extB_cell hE (by simp) p2, extB_cell hE (by simp) p3]
          case s4 =>
            refine qV (fun _ => rfl) rfl fun av wv hE hO hD => ?_
            simp [go_sem, qF av 2 (.pointer (some ⟨pb, 0, none⟩)) (hO.2.2 2 rfl)]
          case s5 =>
            refine qV (fun _ => rfl) rfl fun av wv hE hO hD => ?_
            simp [go_sem, qE (hD.1 rfl _ rfl), extB_cell hE (by simp) p0, extB_cell hE (by simp) p1, extB_cell hE (by simp) p2, extB_cell hE (by simp) p3]
          case s6 =>
            refine qV (fun _ => rfl) rfl fun av wv hE hO hD => ?_
            simp [go_sem, qF av 2 (.pointer (some ⟨pb, 0, none⟩)) (hO.2.2 2 rfl)]
          case s7 =>
            refine qV (fun _ => rfl) rfl fun av wv hE hO hD => ?_
            simp [go_sem, qE (hD.1 rfl _ rfl), extB_cell hE (by simp) p0, extB_cell hE (by simp) p1, extB_cell hE (by simp) p2, extB_cell hE (by simp) p3]
          case s8 =>
            refine qV (fun _ => rfl) rfl fun av wv hE hO hD => ?_
            simp [go_sem, qE (hD.1 rfl _ rfl)]
          case s9 =>
            refine qV (fun _ => rfl) rfl fun av wv hE hO hD => ?_
            simp [go_sem, qE (hD.1 rfl _ rfl)]
          case s10 =>
            refine qV (fun _ => rfl) rfl fun av wv hE hO hD => ?_
            simp [go_sem, qE (hD.1 rfl _ rfl)]
          case s11 =>
            refine qV (fun _ => rfl) rfl fun av wv hE hO hD => ?_
            simp [go_sem, qE (hD.1 rfl _ rfl)]
          intro a' w' hE hO hall
          have hA := act_of_outer (ds := [111, 112, 113, 114, 115, 116, 117, 118, 11, 12, 13, 14]) rfl hO (by kernel_rfl)
          obtain ⟨j0, j1, j2, j3, j4, j5, j6, j7, j8, j9, j10, j11, -⟩ := hall
          simp only [List.foldl_cons, List.foldl_nil, Act.put, List.setIfInBounds_toArray, List.set_cons_succ, List.set_cons_zero, qJ 111 (j0 _ rfl), qJ 112 (j1 _ rfl), qJ 113 (j2 _ rfl), qJ 114 (j3 _ rfl), qJ 115 (j4 _ rfl), qJ 116 (j5 _ rfl), qJ 117 (j6 _ rfl), qJ 118 (j7 _ rfl), qJ 11 (j8 _ rfl), qJ 12 (j9 _ rfl), qJ 13 (j10 _ rfl), qJ 14 (j11 _ rfl)] at hA
          clear hO j0 j1 j2 j3 j4 j5 j6 j7 j8 j9 j10 j11
          subst hA
          have hX := of_drew hE
          have HVK := Lib.hid ((hX.block _ (lt_of_block HVK.out)).trans HVK.out)
          have HVW := Lib.hid ((hX.block _ (lt_of_block HVW.out)).trans HVW.out)
          have HVA := Lib.hid (HVA.out.next hX)
          clear hE hX p0 p1 p2 p3
          obtain ⟨V2, hV2⟩ : ∃ V2, w' = V2 := ⟨_, rfl⟩
          rw [hV2] at HVK HVW HVA ⊢
          clear hV2 w'
          have p4 : V2.cell? ⟨pb, 4, none⟩ = some (.int .u32 (wI v.e)) := (block_cell HVA.out.p 4).trans (by rw [← HA9.out]; rfl)
          have p5 : V2.cell? ⟨pb, 5, none⟩ = some (.int .u32 (wI v.f)) := (block_cell HVA.out.p 5).trans (by rw [← HA9.out]; rfl)
          have p6 : V2.cell? ⟨pb, 6, none⟩ = some (.int .u32 (wI v.g)) := (block_cell HVA.out.p 6).trans (by rw [← HA9.out]; rfl)
          have p7 : V2.cell? ⟨pb, 7, none⟩ = some (.int .u32 (wI v.h)) := (block_cell HVA.out.p 7).trans (by rw [← HA9.out]; rfl)
          go_upto_region 14 with fail
          refine wp_region_qa rfl (by kernel_rfl) fun w' hE => ?_
          have p4 := extB_cell hE (by simp) p4
          have p5 := extB_cell hE (by simp) p5
          have p6 := extB_cell hE (by simp) p6
          have p7 := extB_cell hE (by simp) p7
          repeat go_big_quiet_step (fail)
          refine wpQuiet_nil ?_
          have hX := of_drew hE
          have HVK := Lib.hid ((hX.block _ (lt_of_block HVK.out)).trans HVK.out)
          have HVW := Lib.hid ((hX.block _ (lt_of_block HVW.out)).trans HVW.out)
          have HVA := Lib.hid (HVA.out.next hX)
          clear hE hX p4 p5 p6 p7
          obtain ⟨V3, hV3⟩ : ∃ V3, w' = V3 := ⟨_, rfl⟩
          rw [hV3] at HVK HVW HVA ⊢
          clear hV3 w'
          go_upto_region 16 with fail
          go_loopg [19, 11, 12, 13, 14, 15, 16, 17, 18] 64 (fun g i xa xb xc xd xe xf xg xh wr => ∃ (m : Nat) (z8 : St8), g + m = 64 ∧ i = .int .i64 (m : Nat) ∧ xa = .int .u32 (wI z8.a) ∧ xb = .int .u32 (wI z8.b) ∧ xc = .int .u32 (wI z8.c) ∧ xd = .int .u32 (wI z8.d) ∧ xe = .int .u32 (wI z8.e) ∧ xf = .int .u32 (wI z8.f) ∧ xg = .int .u32 (wI z8.g) ∧ xh = .int .u32 (wI z8.h) ∧ Hid (roundsW kW Ws v m = z8) ∧ Hid (wr.heap[kb]? = some (.cells (wsC kW) 193 (0, 0))) ∧ Hid (wr.heap[wb]? = some (.cells (wsC Ws) 193 (0, 0))) ∧ Hid (BlkAt pb rb A9 w wr))
          case atStart => exact ⟨0, v, rfl, rfl, rfl, rfl, rfl, rfl, rfl, rfl, rfl, rfl, Lib.hid rfl, HVK, HVW, HVA⟩
          case round =>
            clear HVK HVW HVA
            obtain ⟨m, z8, hm, rfl, rfl, rfl, rfl, rfl, rfl, rfl, rfl, rfl, HZ, HVK, HVW, HVA⟩ := hrel
            by_cases hlt : m < 64
            · have i1 : (m : Int) < 64 := by omega
              have bm : ¬ (64 : Int) ≤ (m : Int) := by omega
              have bmn : ¬ 64 ≤ m := by omega
              obtain ⟨KM, hKM⟩ : ∃ X, wth kW m = X := ⟨_, rfl⟩
              obtain ⟨WM, hWM⟩ : ∃ X, wth Ws m = X := ⟨_, rfl⟩
              obtain ⟨W5, hW5⟩ : ∃ W5, wr = W5 := ⟨_, rfl⟩
              rw [hW5] at HVK HVW HVA ⊢
              clear hW5
              have ck : W5.cell? ⟨kb, m, none⟩ = some (.int .u32 (wI KM)) := by rw [block_cell HVK.out, wsC_at _ _ (show m < 64 from hlt), hKM]
              have cw : W5.cell? ⟨wb, m, none⟩ = some (.int .u32 (wI WM)) := by rw [block_cell HVW.out, wsC_at _ _ (by rw [HWL.out]; exact hlt), hWM]
              have HNZ : Hid (roundsW kW Ws v (m + 1) = stepW z8 KM WM) := Lib.hid (by rw [roundsW, HZ.out, hKM, hWM])
              clear hKM hWM
              go_upto_region 18 with fail
              refine wp_region_tail 27 1000 (none) (phis (List.map qv [.int .u32 (wI z8.h), .int .i64 (m : Nat), .pointer (some ⟨kb, m, none⟩), .int .u32 (wI KM), .int .u32 (wI (z8.h + KM)), .int .i64 (m : Nat), .pointer (some ⟨wb, m, none⟩), .int .u32 (wI WM), .int .u32 (wI (z8.h + KM + WM)), .int .u32 (wI z8.e), .int .u32 (wI (rotr z8.e 6)), .int .u32 (wI z8.e), .int .u32 (wI (rotr z8.e 11)), .int .u32 (wI (rotr z8.e 6 ^^^ rotr z8.e 11)), .int .u32 (wI z8.e), .int .u32 (wI (rotr z8.e 25)), .int .u32 (wI (rotr z8.e 6 ^^^ rotr z8.e 11 ^^^ rotr z8.e 25)), .int .u32 (wI (z8.h + KM + WM + (rotr z8.e 6 ^^^ rotr z8.e 11 ^^^ rotr z8.e 25))), .int .u32 (wI z8.e), .int .u32 (wI z8.f), .int .u32 (wI (z8.e &&& z8.f)), .int .u32 (wI z8.e), .int .u32 (wI (~~~ z8.e)), .int .u32 (wI z8.g), .int .u32 (wI (~~~ z8.e &&& z8.g)), .int .u32 (wI (z8.e &&& z8.f ||| ~~~ z8.e &&& z8.g)), .int .u32 (wI (z8.h + KM + WM + (rotr z8.e 6 ^^^ rotr z8.e 11 ^^^ rotr z8.e 25) + (z8.e &&& z8.f ||| ~~~ z8.e &&& z8.g)))])) rfl (by kernel_rfl) (by kernel_rfl) (mono_of mono_qv) (steps_of 27 ⟨?s0, ?s1, ?s2, ?s3, ?s4, ?s5, ?s6, ?s7, ?s8, ?s9, ?s10, ?s11, ?s12, ?s13, ?s14, ?s15, ?s16, ?s17, ?s18, ?s19, ?s20, ?s21, ?s22, ?s23, ?s24, ?s25, ?s26, trivial⟩) ?_
              case s0 =>
                refine qV (fun _ => rfl) rfl fun av wv hE hO hD => ?_
                simp [go_sem, qF av 18 (.int .u32 (wI z8.h)) (hO.2.2 18 rfl), bv_add, bv_addm, bv_xor, bv_and, bv_or, bv_not2, bm, bmn]
              case s1 =>
                refine qV (fun _ => rfl) rfl fun av wv hE hO hD => ?_
                simp [go_sem, qF av 19 (.int .i64 (m : Nat)) (hO.2.2 19 rfl), bv_add, bv_addm, bv_xor, bv_and, bv_or, bv_not2, bm, bmn]
              case s2 =>
                refine qV (fun _ => rfl) rfl fun av wv hE hO hD => ?_
                simp [go_sem, qF av 10 (.pointer (some ⟨kb, 0, none⟩)) (hO.2.2 10 rfl), qE (hD.1 rfl _ rfl), bv_add, bv_addm, bv_xor, bv_and, bv_or, bv_not2, bm, bmn]
              case s3 =>
                refine qV (fun _ => rfl) rfl fun av wv hE hO hD => ?_
                simp [go_sem, qE (hD.1 rfl _ rfl), extB_cell hE (by simp) ck, extB_cell hE (by simp) cw, bv_add, bv_addm, bv_xor, bv_and, bv_or, bv_not2, bm, bmn]
              case s4 =>
                refine qV (fun _ => rfl) rfl fun av wv hE hO hD => ?_
                simp [go_sem, qE (hD.1 rfl _ rfl), qE (hD.2.1 rfl _ rfl), bv_add, bv_addm, bv_xor, bv_and, bv_or, bv_not2, bm, bmn]
              case s5 =>
                refine qV (fun _ => rfl) rfl fun av wv hE hO hD => ?_
                simp [go_sem, qF av 19 (.int .i64 (m : Nat)) (hO.2.2 19 rfl), bv_add, bv_addm, bv_xor, bv_and, bv_or, bv_not2, bm, bmn]
              case s6 =>
                refine qV (fun _ => rfl) rfl fun av wv hE hO hD => ?_
                simp [go_sem, qF av 5 (.pointer (some ⟨wb, 0, none⟩)) (hO.2.2 5 rfl), qE (hD.1 rfl _ rfl), bv_add, bv_addm, bv_xor, bv_and, bv_or, bv_not2, bm, bmn]
              case s7 =>
                refine qV (fun _ => rfl) rfl fun av wv hE hO hD => ?_
                simp [go_sem, qE (hD.1 rfl _ rfl), extB_cell hE (by simp) ck, extB_cell hE (by simp) cw, bv_add, bv_addm, bv_xor, bv_and, bv_or, bv_not2, bm, bmn]
              case s8 =>
                refine qV (fun _ => rfl) rfl fun av wv hE hO hD => ?_
                simp [go_sem, qE (hD.1 rfl _ rfl), qE (hD.2.1 rfl _ rfl), bv_add, bv_addm, bv_xor, bv_and, bv_or, bv_not2, bm, bmn]
              case s9 =>
                refine qV (fun _ => rfl) rfl fun av wv hE hO hD => ?_
                simp [go_sem, qF av 15 (.int .u32 (wI z8.e)) (hO.2.2 15 rfl), bv_add, bv_addm, bv_xor, bv_and, bv_or, bv_not2, bm, bmn]
              case s10 =>
                refine step_wp (fun av wv hE hS hO hD => ⟨rfl, ?_⟩)
                have f140 := qE (hD.1 rfl _ rfl)
                refine wp_of_call (v := .int .u32 (wI (rotr z8.e 6))) (by simp [go_sem, f140]) ((rturned_any z8.e 6 wv (by decide) (by decide)).mono (fun e w2 ⟨h1, h2⟩ => ⟨h1, h2.below _⟩)) (fun w2 hb => ⟨_, rfl, es_of_ext hb, rfl⟩)
              case s11 =>
                refine qV (fun _ => rfl) rfl fun av wv hE hO hD => ?_
                simp [go_sem, qF av 15 (.int .u32 (wI z8.e)) (hO.2.2 15 rfl), bv_add, bv_addm, bv_xor, bv_and, bv_or, bv_not2, bm, bmn]
              case s12 =>
                refine step_wp (fun av wv hE hS hO hD => ⟨rfl, ?_⟩)
                have f142 := qE (hD.1 rfl _ rfl)
                refine wp_of_call (v := .int .u32 (wI (rotr z8.e 11))) (by simp [go_sem, f142]) ((rturned_any z8.e 11 wv (by decide) (by decide)).mono (fun e w2 ⟨h1, h2⟩ => ⟨h1, h2.below _⟩)) (fun w2 hb => ⟨_, rfl, es_of_ext hb, rfl⟩)
              case s13 =>
                refine qV (fun _ => rfl) rfl fun av wv hE hO hD => ?_
                simp [go_sem, qE (hD.1 rfl _ rfl), qE (hD.2.1 rfl _ rfl), bv_add, bv_addm, bv_xor, bv_and, bv_or, bv_not2, bm, bmn]
              case s14 =>
                refine qV (fun _ => rfl) rfl fun av wv hE hO hD => ?_
                simp [go_sem, qF av 15 (.int .u32 (wI z8.e)) (hO.2.2 15 rfl), bv_add, bv_addm, bv_xor, bv_and, bv_or, bv_not2, bm, bmn]
              case s15 =>
                refine step_wp (fun av wv hE hS hO hD => ⟨rfl, ?_⟩)
                have f145 := qE (hD.1 rfl _ rfl)
                refine wp_of_call (v := .int .u32 (wI (rotr z8.e 25))) (by simp [go_sem, f145]) ((rturned_any z8.e 25 wv (by decide) (by decide)).mono (fun e w2 ⟨h1, h2⟩ => ⟨h1, h2.below _⟩)) (fun w2 hb => ⟨_, rfl, es_of_ext hb, rfl⟩)
              case s16 =>
                refine qV (fun _ => rfl) rfl fun av wv hE hO hD => ?_
                simp [go_sem, qE (hD.1 rfl _ rfl), qE (hD.2.1 rfl _ rfl), bv_add, bv_addm, bv_xor, bv_and, bv_or, bv_not2, bm, bmn]
              case s17 =>
                refine qV (fun _ => rfl) rfl fun av wv hE hO hD => ?_
                simp [go_sem, qE (hD.1 rfl _ rfl), qE (hD.2.1 rfl _ rfl), bv_add, bv_addm, bv_xor, bv_and, bv_or, bv_not2, bm, bmn]
              case s18 =>
                refine qV (fun _ => rfl) rfl fun av wv hE hO hD => ?_
                simp [go_sem, qF av 15 (.int .u32 (wI z8.e)) (hO.2.2 15 rfl), bv_add, bv_addm, bv_xor, bv_and, bv_or, bv_not2, bm, bmn]
              case s19 =>
                refine qV (fun _ => rfl) rfl fun av wv hE hO hD => ?_
                simp [go_sem, qF av 16 (.int .u32 (wI z8.f)) (hO.2.2 16 rfl), bv_add, bv_addm, bv_xor, bv_and, bv_or, bv_not2, bm, bmn]
              case s20 =>
                refine qV (fun _ => rfl) rfl fun av wv hE hO hD => ?_
                simp [go_sem, qE (hD.1 rfl _ rfl), qE (hD.2.1 rfl _ rfl), bv_add, bv_addm, bv_xor, bv_and, bv_or, bv_not2, bm, bmn]
              case s21 =>
                refine qV (fun _ => rfl) rfl fun av wv hE hO hD => ?_
                simp [go_sem, qF av 15 (.int .u32 (wI z8.e)) (hO.2.2 15 rfl), bv_add, bv_addm, bv_xor, bv_and, bv_or, bv_not2, bm, bmn]
              case s22 =>
                refine qV (fun _ => rfl) rfl fun av wv hE hO hD => ?_
                simp [go_sem, qE (hD.1 rfl _ rfl), bv_add, bv_addm, bv_xor, bv_and, bv_or, bv_not2, bm, bmn]
              case s23 =>
                refine qV (fun _ => rfl) rfl fun av wv hE hO hD => ?_
                simp [go_sem, qF av 17 (.int .u32 (wI z8.g)) (hO.2.2 17 rfl), bv_add, bv_addm, bv_xor, bv_and, bv_or, bv_not2, bm, bmn]
              case s24 =>
                refine qV (fun _ => rfl) rfl fun av wv hE hO hD => ?_
                simp [go_sem, qE (hD.1 rfl _ rfl), qE (hD.2.1 rfl _ rfl), bv_add, bv_addm, bv_xor, bv_and, bv_or, bv_not2, bm, bmn]
              case s25 =>
                refine qV (fun _ => rfl) rfl fun av wv hE hO hD => ?_
                simp [go_sem, qE (hD.1 rfl _ rfl), qE (hD.2.1 rfl _ rfl), bv_add, bv_addm, bv_xor, bv_and, bv_or, bv_not2, bm, bmn]
              case s26 =>
                refine qV (fun _ => rfl) rfl fun av wv hE hO hD => ?_
                simp [go_sem, qE (hD.1 rfl _ rfl), qE (hD.2.1 rfl _ rfl), bv_add, bv_addm, bv_xor, bv_and, bv_or, bv_not2, bm, bmn]
              intro a' w' hE hO hall
              have hA := act_of_outer (ds := [131, 132, 133, 134, 135, 136, 137, 138, 139, 140, 141, 142, 143, 144, 145, 146, 147, 148, 149, 150, 151, 152, 153, 154, 155, 156, 157]) rfl hO (by kernel_rfl)
              obtain ⟨j0, j1, j2, j3, j4, j5, j6, j7, j8, j9, j10, j11, j12, j13, j14, j15, j16, j17, j18, j19, j20, j21, j22, j23, j24, j25, j26, -⟩ := hall
              simp only [List.foldl_cons, List.foldl_nil, Act.put, List.setIfInBounds_toArray, List.set_cons_succ, List.set_cons_zero, qJ 131 (j0 _ rfl), qJ 132 (j1 _ rfl), qJ 133 (j2 _ rfl), qJ 134 (j3 _ rfl), qJ 135 (j4 _ rfl), qJ 136 (j5 _ rfl), qJ 137 (j6 _ rfl), qJ 138 (j7 _ rfl), qJ 139 (j8 _ rfl), qJ 140 (j9 _ rfl), qJ 141 (j10 _ rfl), qJ 142 (j11 _ rfl), qJ 143 (j12 _ rfl), qJ 144 (j13 _ rfl), qJ 145 (j14 _ rfl), qJ 146 (j15 _ rfl), qJ 147 (j16 _ rfl), qJ 148 (j17 _ rfl), qJ 149 (j18 _ rfl), qJ 150 (j19 _ rfl), qJ 151 (j20 _ rfl), qJ 152 (j21 _ rfl), qJ 153 (j22 _ rfl), qJ 154 (j23 _ rfl), qJ 155 (j24 _ rfl), qJ 156 (j25 _ rfl), qJ 157 (j26 _ rfl)] at hA
              clear hO j0 j1 j2 j3 j4 j5 j6 j7 j8 j9 j10 j11 j12 j13 j14 j15 j16 j17 j18 j19 j20 j21 j22 j23 j24 j25 j26
              subst hA
              have hX := of_drew hE
              have HVK := Lib.hid ((hX.block _ (lt_of_block HVK.out)).trans HVK.out)
              have HVW := Lib.hid ((hX.block _ (lt_of_block HVW.out)).trans HVW.out)
              have HVA := Lib.hid (HVA.out.next hX)
              clear hE hX ck cw bm bmn
              obtain ⟨V4, hV4⟩ : ∃ V4, w' = V4 := ⟨_, rfl⟩
              rw [hV4] at HVK HVW HVA ⊢
              clear hV4 w'
              obtain ⟨XX, hXX⟩ : ∃ XX, z8.h + KM + WM + (rotr z8.e 6 ^^^ rotr z8.e 11 ^^^ rotr z8.e 25) + (z8.e &&& z8.f ||| ~~~ z8.e &&& z8.g) = XX := ⟨_, rfl⟩
              rw [hXX]
              have HXX := Lib.hid hXX
              clear hXX
              go_upto_region 19 with fail
              go_wp2_with fail
              refine (rturned_any z8.a 2 V4 (by decide) (by decide)).mono ?_
              rintro e wa ⟨rfl, ha⟩
              have Ha := Lib.hid ha
              clear ha
              go_wp2_with fail
              refine (rturned_any z8.a 13 wa (by decide) (by decide)).mono ?_
              rintro e wb9 ⟨rfl, hb⟩
              have Hb := Lib.hid hb
              clear hb
              go_wp2_with fail
              refine (rturned_any z8.a 22 wb9 (by decide) (by decide)).mono ?_
              rintro e wc9 ⟨rfl, hc⟩
              have hX : Below V4.heap.size V4 wc9 := ((Ha.out.below _).trans (Hb.out.below _)).trans (hc.below _)
              have HVK := Lib.hid ((hX.block _ (lt_of_block HVK.out)).trans HVK.out)
              have HVW := Lib.hid ((hX.block _ (lt_of_block HVW.out)).trans HVW.out)
              have HVA := Lib.hid (HVA.out.next hX)
              clear hX hc Ha Hb
              have HSA : Hid ((stepW z8 KM WM).a = XX + (rotr z8.a 2 ^^^ rotr z8.a 13 ^^^ rotr z8.a 22) + (z8.a &&& z8.b ||| z8.a &&& z8.c ||| z8.b &&& z8.c) ∧ (stepW z8 KM WM).a = XX + ((rotr z8.a 2 ^^^ rotr z8.a 13 ^^^ rotr z8.a 22) + (z8.a &&& z8.b ||| z8.a &&& z8.c ||| z8.b &&& z8.c))) := Lib.hid (by
                have e : xW z8 KM WM = XX := HXX.out
                have e2 : (stepW z8 KM WM).a = XX + ((rotr z8.a 2 ^^^ rotr z8.a 13 ^^^ rotr z8.a 22) + (z8.a &&& z8.b ||| z8.a &&& z8.c ||| z8.b &&& z8.c)) := by
                  show xW z8 KM WM + yW z8 = _
                  rw [e]; rfl
                exact ⟨by rw [e2, BitVec.add_assoc], e2⟩)
              have HSE : Hid ((stepW z8 KM WM).e = z8.d + XX) := Lib.hid (by
                have e : xW z8 KM WM = XX := HXX.out
                show z8.d + xW z8 KM WM = _
                rw [e])
              go_wp2
              go_roundg (64 - (m + 1))
              case rel => exact ⟨m + 1, stepW z8 KM WM, by omega, by go_num, by rw [HSA.out.2], rfl, rfl, rfl, by rw [HSE.out], rfl, rfl, rfl, HNZ, HVK, HVW, HVA⟩
              case measure => omega
            · obtain rfl : m = 64 := by omega
              have i1 : ¬ ((64 : Nat) : Int) < 64 := by decide
              go_upto_region 28 with fail
              have p0 : wr.cell? ⟨pb, 0, none⟩ = some (.int .u32 (wI v.a)) := (block_cell HVA.out.p 0).trans (by rw [← HA9.out]; rfl)
              have p1 : wr.cell? ⟨pb, 1, none⟩ = some (.int .u32 (wI v.b)) := (block_cell HVA.out.p 1).trans (by rw [← HA9.out]; rfl)
              have p2 : wr.cell? ⟨pb, 2, none⟩ = some (.int .u32 (wI v.c)) := (block_cell HVA.out.p 2).trans (by rw [← HA9.out]; rfl)
              have p3 : wr.cell? ⟨pb, 3, none⟩ = some (.int .u32 (wI v.d)) := (block_cell HVA.out.p 3).trans (by rw [← HA9.out]; rfl)
              have p4 : wr.cell? ⟨pb, 4, none⟩ = some (.int .u32 (wI v.e)) := (block_cell HVA.out.p 4).trans (by rw [← HA9.out]; rfl)
              have p5 : wr.cell? ⟨pb, 5, none⟩ = some (.int .u32 (wI v.f)) := (block_cell HVA.out.p 5).trans (by rw [← HA9.out]; rfl)
              have p6 : wr.cell? ⟨pb, 6, none⟩ = some (.int .u32 (wI v.g)) := (block_cell HVA.out.p 6).trans (by rw [← HA9.out]; rfl)
              have p7 : wr.cell? ⟨pb, 7, none⟩ = some (.int .u32 (wI v.h)) := (block_cell HVA.out.p 7).trans (by rw [← HA9.out]; rfl)
              clear HVK HVW hm hlt i1
              refine wp_of_act fun a0 ha0 => ?_
              have E0 : Ev a0 223 [(2, Value.pointer (some ⟨pb, 0, none⟩)), (4, Value.pointer (some ⟨rb, 0, none⟩)), (11, Value.int .u32 (wI z8.a)), (12, Value.int .u32 (wI z8.b)), (13, Value.int .u32 (wI z8.c)), (14, Value.int .u32 (wI z8.d)), (15, Value.int .u32 (wI z8.e)), (16, Value.int .u32 (wI z8.f)), (17, Value.int .u32 (wI z8.g)), (18, Value.int .u32 (wI z8.h))] := by
                refine ⟨by rw [ha0]; rfl, by rw [ha0], ?_⟩
                intro p hp
                simp only [List.mem_cons, List.not_mem_nil, or_false] at hp
                rw [ha0]
                rcases hp with rfl | rfl | rfl | rfl | rfl | rfl | rfl | rfl | rfl | rfl <;> rfl
              clear ha0
              apply wp_region_lit
              refine wpList_readTo rfl (some 190) rfl (Value.pointer (some ⟨pb, 0, none⟩)) ?_ ?_
              case refine_1 =>
                have g2 := E0.atf 0 2 _ rfl
                simp [go_sem, g2]
              have E1 := E0.put 190 (Value.pointer (some ⟨pb, 0, none⟩)) (by decide) rfl
              obtain ⟨a1, ha1⟩ : ∃ b : Act, a0.put (some 190) (Value.pointer (some ⟨pb, 0, none⟩)) = b := ⟨_, rfl⟩
              rw [ha1] at E1 ⊢
              clear ha1 E0
              refine wpList_readTo rfl (some 191) rfl (Value.int .u32 (wI v.a)) ?_ ?_
              case refine_1 =>
                have g190 := E1.atf 0 190 _ rfl
                simp [go_sem, g190, p0]
              have E2 := E1.put 191 (Value.int .u32 (wI v.a)) (by decide) rfl
              obtain ⟨a2, ha2⟩ : ∃ b : Act, a1.put (some 191) (Value.int .u32 (wI v.a)) = b := ⟨_, rfl⟩
              rw [ha2] at E2 ⊢
              clear ha2 E1
              refine wpList_readTo rfl (some 192) rfl (Value.int .u32 (wI z8.a)) ?_ ?_
              case refine_1 =>
                have g11 := E2.atf 4 11 _ rfl
                simp [go_sem, g11]
              have E3 := E2.put 192 (Value.int .u32 (wI z8.a)) (by decide) rfl
              obtain ⟨a3, ha3⟩ : ∃ b : Act, a2.put (some 192) (Value.int .u32 (wI z8.a)) = b := ⟨_, rfl⟩
              rw [ha3] at E3 ⊢
              clear ha3 E2
              refine wpList_readTo rfl (some 193) rfl (Value.int .u32 (wI (v.a + z8.a))) ?_ ?_
              case refine_1 =>
                have g191 := E3.atf 1 191 _ rfl
                have g192 := E3.atf 0 192 _ rfl
                simp [go_sem, g191, g192, bv_add, bv_addm]
              have E4 := E3.put 193 (Value.int .u32 (wI (v.a + z8.a))) (by decide) rfl
              obtain ⟨a4, ha4⟩ : ∃ b : Act, a3.put (some 193) (Value.int .u32 (wI (v.a + z8.a))) = b := ⟨_, rfl⟩
              rw [ha4] at E4 ⊢
              clear ha4 E3
              refine wpList_readTo rfl (some 194) rfl (Value.pointer (some ⟨pb, 1, none⟩)) ?_ ?_
              case refine_1 =>
                have g2 := E4.atf 4 2 _ rfl
                simp [go_sem, g2]
              have E5 := E4.put 194 (Value.pointer (some ⟨pb, 1, none⟩)) (by decide) rfl
              obtain ⟨a5, ha5⟩ : ∃ b : Act, a4.put (some 194) (Value.pointer (some ⟨pb, 1, none⟩)) = b := ⟨_, rfl⟩
              rw [ha5] at E5 ⊢
              clear ha5 E4
              refine wpList_readTo rfl (some 195) rfl (Value.int .u32 (wI v.b)) ?_ ?_
              case refine_1 =>
                have g194 := E5.atf 0 194 _ rfl
                simp [go_sem, g194, p1]
              have E6 := E5.put 195 (Value.int .u32 (wI v.b)) (by decide) rfl
              obtain ⟨a6, ha6⟩ : ∃ b : Act, a5.put (some 195) (Value.int .u32 (wI v.b)) = b := ⟨_, rfl⟩
              rw [ha6] at E6 ⊢
              clear ha6 E5
              refine wpList_readTo rfl (some 196) rfl (Value.int .u32 (wI z8.b)) ?_ ?_
              case refine_1 =>
                have g12 := E6.atf 9 12 _ rfl
                simp [go_sem, g12]
              have E7 := E6.put 196 (Value.int .u32 (wI z8.b)) (by decide) rfl
              obtain ⟨a7, ha7⟩ : ∃ b : Act, a6.put (some 196) (Value.int .u32 (wI z8.b)) = b := ⟨_, rfl⟩
              rw [ha7] at E7 ⊢
              clear ha7 E6
              refine wpList_readTo rfl (some 197) rfl (Value.int .u32 (wI (v.b + z8.b))) ?_ ?_
              case refine_1 =>
                have g195 := E7.atf 1 195 _ rfl
                have g196 := E7.atf 0 196 _ rfl
                simp [go_sem, g195, g196, bv_add, bv_addm]
              have E8 := E7.put 197 (Value.int .u32 (wI (v.b + z8.b))) (by decide) rfl
              obtain ⟨a8, ha8⟩ : ∃ b : Act, a7.put (some 197) (Value.int .u32 (wI (v.b + z8.b))) = b := ⟨_, rfl⟩
              rw [ha8] at E8 ⊢
              clear ha8 E7
              refine wpList_readTo rfl (some 198) rfl (Value.pointer (some ⟨pb, 2, none⟩)) ?_ ?_
              case refine_1 =>
                have g2 := E8.atf 8 2 _ rfl
                simp [go_sem, g2]
              have E9 := E8.put 198 (Value.pointer (some ⟨pb, 2, none⟩)) (by decide) rfl
              obtain ⟨a9, ha9⟩ : ∃ b : Act, a8.put (some 198) (Value.pointer (some ⟨pb, 2, none⟩)) = b := ⟨_, rfl⟩
              rw [ha9] at E9 ⊢
              clear ha9 E8
              refine wpList_readTo rfl (some 199) rfl (Value.int .u32 (wI v.c)) ?_ ?_
              case refine_1 =>
                have g198 := E9.atf 0 198 _ rfl
                simp [go_sem, g198, p2]
              have E10 := E9.put 199 (Value.int .u32 (wI v.c)) (by decide) rfl
              obtain ⟨a10, ha10⟩ : ∃ b : Act, a9.put (some 199) (Value.int .u32 (wI v.c)) = b := ⟨_, rfl⟩
              rw [ha10] at E10 ⊢
              clear ha10 E9
              refine wpList_readTo rfl (some 200) rfl (Value.int .u32 (wI z8.c)) ?_ ?_
              case refine_1 =>
                have g13 := E10.atf 14 13 _ rfl
                simp [go_sem, g13]
              have E11 := E10.put 200 (Value.int .u32 (wI z8.c)) (by decide) rfl
              obtain ⟨a11, ha11⟩ : ∃ b : Act, a10.put (some 200) (Value.int .u32 (wI z8.c)) = b := ⟨_, rfl⟩
              rw [ha11] at E11 ⊢
              clear ha11 E10
              refine wpList_readTo rfl (some 201) rfl (Value.int .u32 (wI (v.c + z8.c))) ?_ ?_
              case refine_1 =>
                have g199 := E11.atf 1 199 _ rfl
                have g200 := E11.atf 0 200 _ rfl
                simp [go_sem, g199, g200, bv_add, bv_addm]
              have E12 := E11.put 201 (Value.int .u32 (wI (v.c + z8.c))) (by decide) rfl
              obtain ⟨a12, ha12⟩ : ∃ b : Act, a11.put (some 201) (Value.int .u32 (wI (v.c + z8.c))) = b := ⟨_, rfl⟩
              rw [ha12] at E12 ⊢
              clear ha12 E11
              refine wpList_readTo rfl (some 202) rfl (Value.pointer (some ⟨pb, 3, none⟩)) ?_ ?_
              case refine_1 =>
                have g2 := E12.atf 12 2 _ rfl
                simp [go_sem, g2]
              have E13 := E12.put 202 (Value.pointer (some ⟨pb, 3, none⟩)) (by decide) rfl
              obtain ⟨a13, ha13⟩ : ∃ b : Act, a12.put (some 202) (Value.pointer (some ⟨pb, 3, none⟩)) = b := ⟨_, rfl⟩
              rw [ha13] at E13 ⊢
              clear ha13 E12
              refine wpList_readTo rfl (some 203) rfl (Value.int .u32 (wI v.d)) ?_ ?_
              case refine_1 =>
                have g202 := E13.atf 0 202 _ rfl
                simp [go_sem, g202, p3]
              have E14 := E13.put 203 (Value.int .u32 (wI v.d)) (by decide) rfl
              obtain ⟨a14, ha14⟩ : ∃ b : Act, a13.put (some 203) (Value.int .u32 (wI v.d)) = b := ⟨_, rfl⟩
              rw [ha14] at E14 ⊢
              clear ha14 E13
              refine wpList_readTo rfl (some 204) rfl (Value.int .u32 (wI z8.d)) ?_ ?_
              case refine_1 =>
                have g14 := E14.atf 19 14 _ rfl
                simp [go_sem, g14]
              have E15 := E14.put 204 (Value.int .u32 (wI z8.d)) (by decide) rfl
              obtain ⟨a15, ha15⟩ : ∃ b : Act, a14.put (some 204) (Value.int .u32 (wI z8.d)) = b := ⟨_, rfl⟩
              rw [ha15] at E15 ⊢
              clear ha15 E14
              refine wpList_readTo rfl (some 205) rfl (Value.int .u32 (wI (v.d + z8.d))) ?_ ?_
              case refine_1 =>
                have g203 := E15.atf 1 203 _ rfl
                have g204 := E15.atf 0 204 _ rfl
                simp [go_sem, g203, g204, bv_add, bv_addm]
              have E16 := E15.put 205 (Value.int .u32 (wI (v.d + z8.d))) (by decide) rfl
              obtain ⟨a16, ha16⟩ : ∃ b : Act, a15.put (some 205) (Value.int .u32 (wI (v.d + z8.d))) = b := ⟨_, rfl⟩
              rw [ha16] at E16 ⊢
              clear ha16 E15
              refine wpList_readTo rfl (some 206) rfl (Value.pointer (some ⟨pb, 4, none⟩)) ?_ ?_
              case refine_1 =>
                have g2 := E16.atf 16 2 _ rfl
                simp [go_sem, g2]
              have E17 := E16.put 206 (Value.pointer (some ⟨pb, 4, none⟩)) (by decide) rfl
              obtain ⟨a17, ha17⟩ : ∃ b : Act, a16.put (some 206) (Value.pointer (some ⟨pb, 4, none⟩)) = b := ⟨_, rfl⟩
              rw [ha17] at E17 ⊢
              clear ha17 E16
              refine wpList_readTo rfl (some 207) rfl (Value.int .u32 (wI v.e)) ?_ ?_
              case refine_1 =>
                have g206 := E17.atf 0 206 _ rfl
                simp [go_sem, g206, p4]
              have E18 := E17.put 207 (Value.int .u32 (wI v.e)) (by decide) rfl
              obtain ⟨a18, ha18⟩ : ∃ b : Act, a17.put (some 207) (Value.int .u32 (wI v.e)) = b := ⟨_, rfl⟩
              rw [ha18] at E18 ⊢
              clear ha18 E17
              refine wpList_readTo rfl (some 208) rfl (Value.int .u32 (wI z8.e)) ?_ ?_
              case refine_1 =>
                have g15 := E18.atf 24 15 _ rfl
                simp [go_sem, g15]
              have E19 := E18.put 208 (Value.int .u32 (wI z8.e)) (by decide) rfl
              obtain ⟨a19, ha19⟩ : ∃ b : Act, a18.put (some 208) (Value.int .u32 (wI z8.e)) = b := ⟨_, rfl⟩
              rw [ha19] at E19 ⊢
              clear ha19 E18
              refine wpList_readTo rfl (some 209) rfl (Value.int .u32 (wI (v.e + z8.e))) ?_ ?_
              case refine_1 =>
                have g207 := E19.atf 1 207 _ rfl
                have g208 := E19.atf 0 208 _ rfl
                simp [go_sem, g207, g208, bv_add, bv_addm]
              have E20 := E19.put 209 (Value.int .u32 (wI (v.e + z8.e))) (by decide) rfl
              obtain ⟨a20, ha20⟩ : ∃ b : Act, a19.put (some 209) (Value.int .u32 (wI (v.e + z8.e))) = b := ⟨_, rfl⟩
              rw [ha20] at E20 ⊢
              clear ha20 E19
              refine wpList_readTo rfl (some 210) rfl (Value.pointer (some ⟨pb, 5, none⟩)) ?_ ?_
              case refine_1 =>
                have g2 := E20.atf 20 2 _ rfl
                simp [go_sem, g2]
              have E21 := E20.put 210 (Value.pointer (some ⟨pb, 5, none⟩)) (by decide) rfl
              obtain ⟨a21, ha21⟩ : ∃ b : Act, a20.put (some 210) (Value.pointer (some ⟨pb, 5, none⟩)) = b := ⟨_, rfl⟩
              rw [ha21] at E21 ⊢
              clear ha21 E20
              refine wpList_readTo rfl (some 211) rfl (Value.int .u32 (wI v.f)) ?_ ?_
              case refine_1 =>
                have g210 := E21.atf 0 210 _ rfl
                simp [go_sem, g210, p5]
              have E22 := E21.put 211 (Value.int .u32 (wI v.f)) (by decide) rfl
              obtain ⟨a22, ha22⟩ : ∃ b : Act, a21.put (some 211) (Value.int .u32 (wI v.f)) = b := ⟨_, rfl⟩
              rw [ha22] at E22 ⊢
              clear ha22 E21
              refine wpList_readTo rfl (some 212) rfl (Value.int .u32 (wI z8.f)) ?_ ?_
              case refine_1 =>
                have g16 := E22.atf 29 16 _ rfl
                simp [go_sem, g16]
              have E23 := E22.put 212 (Value.int .u32 (wI z8.f)) (by decide) rfl
              obtain ⟨a23, ha23⟩ : ∃ b : Act, a22.put (some 212) (Value.int .u32 (wI z8.f)) = b := ⟨_, rfl⟩
              rw [ha23] at E23 ⊢
              clear ha23 E22
              refine wpList_readTo rfl (some 213) rfl (Value.int .u32 (wI (v.f + z8.f))) ?_ ?_
              case refine_1 =>
                have g211 := E23.atf 1 211 _ rfl
                have g212 := E23.atf 0 212 _ rfl
                simp [go_sem, g211, g212, bv_add, bv_addm]
              have E24 := E23.put 213 (Value.int .u32 (wI (v.f + z8.f))) (by decide) rfl
              obtain ⟨a24, ha24⟩ : ∃ b : Act, a23.put (some 213) (Value.int .u32 (wI (v.f + z8.f))) = b := ⟨_, rfl⟩
              rw [ha24] at E24 ⊢
              clear ha24 E23
              refine wpList_readTo rfl (some 214) rfl (Value.pointer (some ⟨pb, 6, none⟩)) ?_ ?_
              case refine_1 =>
                have g2 := E24.atf 24 2 _ rfl
                simp [go_sem, g2]
              have E25 := E24.put 214 (Value.pointer (some ⟨pb, 6, none⟩)) (by decide) rfl
              obtain ⟨a25, ha25⟩ : ∃ b : Act, a24.put (some 214) (Value.pointer (some ⟨pb, 6, none⟩)) = b := ⟨_, rfl⟩
              rw [ha25] at E25 ⊢
              clear ha25 E24
              refine wpList_readTo rfl (some 215) rfl (Value.int .u32 (wI v.g)) ?_ ?_
              case refine_1 =>
                have g214 := E25.atf 0 214 _ rfl
                simp [go_sem, g214, p6]
              have E26 := E25.put 215 (Value.int .u32 (wI v.g)) (by decide) rfl
              obtain ⟨a26, ha26⟩ : ∃ b : Act, a25.put (some 215) (Value.int .u32 (wI v.g)) = b := ⟨_, rfl⟩
              rw [ha26] at E26 ⊢
              clear ha26 E25
              refine wpList_readTo rfl (some 216) rfl (Value.int .u32 (wI z8.g)) ?_ ?_
              case refine_1 =>
                have g17 := E26.atf 34 17 _ rfl
                simp [go_sem, g17]
              have E27 := E26.put 216 (Value.int .u32 (wI z8.g)) (by decide) rfl
              obtain ⟨a27, ha27⟩ : ∃ b : Act, a26.put (some 216) (Value.int .u32 (wI z8.g)) = b := ⟨_, rfl⟩
              rw [ha27] at E27 ⊢
              clear ha27 E26
              refine wpList_readTo rfl (some 217) rfl (Value.int .u32 (wI (v.g + z8.g))) ?_ ?_
              case refine_1 =>
                have g215 := E27.atf 1 215 _ rfl
                have g216 := E27.atf 0 216 _ rfl
                simp [go_sem, g215, g216, bv_add, bv_addm]
              have E28 := E27.put 217 (Value.int .u32 (wI (v.g + z8.g))) (by decide) rfl
              obtain ⟨a28, ha28⟩ : ∃ b : Act, a27.put (some 217) (Value.int .u32 (wI (v.g + z8.g))) = b := ⟨_, rfl⟩
              rw [ha28] at E28 ⊢
              clear ha28 E27
              refine wpList_readTo rfl (some 218) rfl (Value.pointer (some ⟨pb, 7, none⟩)) ?_ ?_
              case refine_1 =>
                have g2 := E28.atf 28 2 _ rfl
                simp [go_sem, g2]
              have E29 := E28.put 218 (Value.pointer (some ⟨pb, 7, none⟩)) (by decide) rfl
              obtain ⟨a29, ha29⟩ : ∃ b : Act, a28.put (some 218) (Value.pointer (some ⟨pb, 7, none⟩)) = b := ⟨_, rfl⟩
              rw [ha29] at E29 ⊢
              clear ha29 E28
              refine wpList_readTo rfl (some 219) rfl (Value.int .u32 (wI v.h)) ?_ ?_
              case refine_1 =>
                have g218 := E29.atf 0 218 _ rfl
                simp [go_sem, g218, p7]
              have E30 := E29.put 219 (Value.int .u32 (wI v.h)) (by decide) rfl
              obtain ⟨a30, ha30⟩ : ∃ b : Act, a29.put (some 219) (Value.int .u32 (wI v.h)) = b := ⟨_, rfl⟩
              rw [ha30] at E30 ⊢
              clear ha30 E29
              refine wpList_readTo rfl (some 220) rfl (Value.int .u32 (wI z8.h)) ?_ ?_
              case refine_1 =>
                have g18 := E30.atf 39 18 _ rfl
                simp [go_sem, g18]
              have E31 := E30.put 220 (Value.int .u32 (wI z8.h)) (by decide) rfl
              obtain ⟨a31, ha31⟩ : ∃ b : Act, a30.put (some 220) (Value.int .u32 (wI z8.h)) = b := ⟨_, rfl⟩
              rw [ha31] at E31 ⊢
              clear ha31 E30
              refine wpList_readTo rfl (some 221) rfl (Value.int .u32 (wI (v.h + z8.h))) ?_ ?_
              case refine_1 =>
                have g219 := E31.atf 1 219 _ rfl
                have g220 := E31.atf 0 220 _ rfl
                simp [go_sem, g219, g220, bv_add, bv_addm]
              have E32 := E31.put 221 (Value.int .u32 (wI (v.h + z8.h))) (by decide) rfl
              obtain ⟨a32, ha32⟩ : ∃ b : Act, a31.put (some 221) (Value.int .u32 (wI (v.h + z8.h))) = b := ⟨_, rfl⟩
              rw [ha32] at E32 ⊢
              clear ha32 E31
              refine wpList_build_ofR rfl 147 _ rfl (wsC (stL (plusW v z8))) ?_ ?_
              case refine_1 =>
                have hb8 : ∀ x0 x1 x2 x3 x4 x5 x6 x7 : Value, x0 = .int .u32 (wI (v.a + z8.a)) → x1 = .int .u32 (wI (v.b + z8.b)) → x2 = .int .u32 (wI (v.c + z8.c)) → x3 = .int .u32 (wI (v.d + z8.d)) → x4 = .int .u32 (wI (v.e + z8.e)) → x5 = .int .u32 (wI (v.f + z8.f)) → x6 = .int .u32 (wI (v.g + z8.g)) → x7 = .int .u32 (wI (v.h + z8.h)) → Tryz.prog.built 147 [(0, x0), (1, x1), (2, x2), (3, x3), (4, x4), (5, x5), (6, x6), (7, x7)] = some (wsC (stL (plusW v z8))) := by
                  rintro _ _ _ _ _ _ _ _ rfl rfl rfl rfl rfl rfl rfl rfl
                  kernel_rfl
                simp only [List.map_toArray, List.map_cons, List.map_nil]
                exact hb8 _ _ _ _ _ _ _ _ (E32.at 28 193 _ rfl) (E32.at 24 197 _ rfl) (E32.at 20 201 _ rfl) (E32.at 16 205 _ rfl) (E32.at 12 209 _ rfl) (E32.at 8 213 _ rfl) (E32.at 4 217 _ rfl) (E32.at 0 221 _ rfl)
              have E33 := E32.put 222 (.agg (wsC (stL (plusW v z8)))) (by decide) rfl
              obtain ⟨a33, ha33⟩ : ∃ b : Act, a32.put (some 222) (.agg (wsC (stL (plusW v z8)))) = b := ⟨_, rfl⟩
              change wpList _ _ _ _ (a32.put (some 222) (.agg (wsC (stL (plusW v z8))))) _
              rw [ha33] at E33 ⊢
              clear ha33 E32
              refine wpList_store_row rfl 147 _ _ rfl rb (wsC (stL (plusW v z8))) (E33.at 34 4 _ rfl) (E33.at 0 222 _ rfl) 147 _ HVA.out.r (by kernel_rfl) rfl (by kernel_rfl) ?_
              apply wpList_nil
              obtain ⟨U, hU⟩ : ∃ U, wr.setRow rb (wsC (stL (plusW v z8))) = U := ⟨_, rfl⟩
              have HU : Hid (U.heap[rb]? = some (.cells (wsC (stL (plusW v z8))) 147 (0, 0))) := Lib.hid (by rw [← hU]; exact setRow_heap wr rb _ _ _ _ HVA.out.r)
              have HUB : Hid (Below w.heap.size w U) := Lib.hid (by
                rw [← hU]
                have h1 := HVA.out.below
                exact ⟨h1.os, h1.tape, h1.output, by rw [setRow_size]; exact h1.size, fun i hi => by rw [setRow_other _ _ _ _ (show i ≠ rb by have := HNE.out.2.1; omega)]; exact h1.block i hi⟩)
              rw [hU]
              clear hU
              rename_i hK
              refine hK _ _ ?_
              apply wp_ret
              refine bodyPost_ret (v := .agg (wsC (stL (plusW v z8)))) ?_ E33.2.1 ?_
              · exact results_cell_row rfl _ _ rb 147 (wsC (stL (plusW v z8))) (0, 0) _ (E33.at 34 4 _ rfl) HU.out rfl rfl (by as_aux_lemma => kernel_rfl)
              · refine ⟨?_, HUB.out⟩
                rw [HLL.out]
                unfold pressW
                rw [HWS.out, HZ.out]
end Go.Proofs.YtoafjbillcooiaaGreat
namespace Go.Proofs.YtoafjbillcooiaaGreat
open Go.RowKit Go.Great
set_option linter.unusedSimpArgs false
set_option linter.unusedVariables false
theorem blocksW_snoc (m : Nat) (v : St8) (l : List UInt8) : blocksW (m + 1) v l = pressW (blocksW m v l) ((l.drop (64 * m)).take 64) := by
  rw [blocksW_add m 1]; rfl
theorem info_b8R : (Tryz.prog.info? 5).map (fun i => (i.zero, i.size, i.bytes)) = some (some (.int .u8 0), 1, 1) := by kernel_rfl
def z32R : Array Value := madeCells (Value.int .u8 0).cells (32 * 1)
theorem make_z32R (W : World) : (Instr.makeSlice 114 (.int .i64 0) (.int .i64 32)).run Tryz.prog W = .ok (.slice (some ⟨W.heap.size, 0, none⟩) 0 32) (W.alloc (.cells z32R 5)) := by
  obtain ⟨i0, hi, hz0, hz1, hz2⟩ := info_parts info_b8R
  have hr := run_make (P := Tryz.prog) W 114 5 i0 (.int .u8 0) Tryz.underlying114 hi hz0 .i64 .i64 0 32 (by omega) (by omega) (by rw [hz2]; omega) (by omega)
  rw [hr, hz1]; rfl
theorem wsC8 (v : St8) : (wsC (stL v)).size = 8 := rfl
theorem wsC8_one (v : St8) : (wsC (stL v)).all (·.oneCell') = true := by kernel_rfl
set_option maxRecDepth 100000 in
set_option maxHeartbeats 8000000 in
theorem rsum_any (s : ByteArray) (w : World) (hs : s.size ≤ 1152921504606846976) :
    Calls Tryz.prog 46 #[.string s] w fun e w' => e = .returned (.string (shaP s)) ∧ Below w.heap.size w w' := by
  have HS := Lib.hid hs
  clear hs
  go_enter Tryz.func46, Tryz.ntmps46
  go_upto_region 2 with fail
  obtain ⟨nb, hnb⟩ : ∃ nb, w.heap.size = nb := ⟨_, rfl⟩
  have hC0 : (#[.int .u32 1779033703, .int .u32 3144134277, .int .u32 1013904242, .int .u32 2773480762, .int .u32 1359893119, .int .u32 2600822924, .int .u32 528734635, .int .u32 1541459225] : Array Value) = wsC (stL st0) := by kernel_rfl
  rw [hnb, hC0]
  obtain ⟨V, hV⟩ : ∃ V, w.alloc (.cells (wsC (stL st0)) 147) = V := ⟨_, rfl⟩
  rw [hV]
  have HNB : Hid (V.heap[nb]? = some (.cells (wsC (stL st0)) 147 (0, 0))) := Lib.hid (by rw [← hV]; exact alloc_new_at _ hnb)
  have HW : Hid (Below w.heap.size w V) := Lib.hid (by rw [← hV]; exact balloc (Below.refl _ w) _)
  have HNW : Hid (w.heap.size ≤ nb) := Lib.hid (Nat.le_of_eq hnb)
  clear hV hnb hC0
  go_wp2_with fail
  refine (rpadded_any s V HS.out).mono ?_
  rintro e w2 ⟨rfl, hb2⟩
  have HNB := Lib.hid ((hb2.block _ (lt_of_block HNB.out)).trans HNB.out)
  have HW := Lib.hid (bnext HW.out hb2)
  clear hb2
  obtain ⟨pl, hpl⟩ : ∃ pl, padW s.data.toList = pl := ⟨_, rfl⟩
  obtain ⟨PP, hPP⟩ : ∃ PP, padS s = PP := ⟨_, rfl⟩
  have HPL : Hid (PP.data.toList = pl) := Lib.hid (by rw [← hPP, ← hpl]; rfl)
  obtain ⟨N, hN⟩ : ∃ N, pl.length = 64 * N := ⟨pl.length / 64, by have := padW_len s.data.toList; rw [hpl] at this; omega⟩
  have HN := Lib.hid hN
  have HPS : Hid (PP.size = 64 * N) := Lib.hid (by rw [← hN, ← HPL.out, data_size])
  have HPB : Hid (64 * N ≤ 4611686018427387904) := Lib.hid (by
    rw [← hN, ← hpl]
    unfold padW zerosW num8
    simp only [List.length_append, List.length_replicate, List.length_map, List.length_range, List.length_singleton, data_size]
    have := HS.out
    omega)
  rw [hPP]
  have HPW := Lib.hid hpl
  clear hpl hPP hN
  go_upto_region 4 with fail
  go_loopg [5] N (fun g i wr => ∃ m c : Nat, g + m = N ∧ i = .int .i64 (c : Nat) ∧ Hid (c = 64 * m) ∧ Hid (wr.heap[nb]? = some (.cells (wsC (stL (blocksW m st0 pl))) 147 (0, 0))) ∧ Hid (Below w.heap.size w wr))
  case atStart => exact ⟨0, 0, rfl, rfl, Lib.hid rfl, HNB, HW⟩
  case round =>
    clear HNB HW
    obtain ⟨m, c, hm, rfl, HC, HNB, HW⟩ := hrel
    by_cases hlt : m < N
    · have hc64 := HC.out
      have hps := HPS.out
      have hpb := HPB.out
      have i1 : (c : Int) < (PP.size : Int) := by omega
      have s1 : IntKind.i64.wrap (((c : Nat) : Int) + 64) = ((c : Nat) : Int) + 64 := IntWalk.i64_in _ (by omega)
      obtain ⟨SB, hSB⟩ : ∃ SB, PP.extract c (c + 64) = SB := ⟨_, rfl⟩
      have HSB : Hid (SB.data.toList = (pl.drop c).take 64) := Lib.hid (by
        rw [← hSB, ← HPL.out]
        simp [ByteArray.data_extract, List.extract_eq_take_drop])
      have HSZ : Hid (SB.size = 64) := Lib.hid (by rw [← hSB, ByteArray.size_extract]; omega)
      obtain ⟨W, hW⟩ : ∃ W, wr = W := ⟨_, rfl⟩
      rw [hW] at HNB HW ⊢
      obtain ⟨v8, hv8⟩ : ∃ v8, blocksW m st0 pl = v8 := ⟨_, rfl⟩
      rw [hv8] at HNB
      have HV2 : Hid (blocksW (m + 1) st0 pl = pressW v8 SB.data.toList) := Lib.hid (by rw [blocksW_snoc, hv8, HSB.out, HC.out])
      obtain ⟨CV, hCV⟩ : ∃ CV, wsC (stL v8) = CV := ⟨_, rfl⟩
      obtain ⟨CV2, hCV2⟩ : ∃ CV2, wsC (stL (pressW v8 SB.data.toList)) = CV2 := ⟨_, rfl⟩
      have HRB : Hid (∀ w9 : World, Calls Tryz.prog 98 #[.agg CV, .string SB] w9 fun e w' => e = .returned (.agg CV2) ∧ Below w9.heap.size w9 w') := Lib.hid (fun w9 => by rw [← hCV, ← hCV2]; exact rblock_any v8 SB w9 HSZ.out)
      have HI : Hid ((Tryz.prog.info? 147).map (·.size) = some CV.size) := Lib.hid (by rw [← hCV, wsC8]; kernel_rfl)
      have HI2 : Hid ((Tryz.prog.info? 147).map (·.size) = some CV2.size) := Lib.hid (by rw [← hCV2, wsC8]; kernel_rfl)
      have HO2 : Hid (CV2.all (·.oneCell') = true) := Lib.hid (by rw [← hCV2]; exact wsC8_one _)
      have HE2 : Hid (CV.size = CV2.size) := Lib.hid (by rw [← hCV, ← hCV2, wsC8, wsC8])
      rw [hCV] at HNB
      have HCV2 := Lib.hid hCV2
      have s2 : (0 : Int) ≤ (c : Int) ∧ (c : Int) ≤ (c : Int) + 64 := by omega
      have s3 : (0 : Int) ≤ (c : Int) + 64 ∧ (c : Int) + 64 ≤ (PP.size : Int) := by omega
      have s4 : ((c : Int) + 64).toNat = c + 64 := by omega
      have s5 : PP.extract c (c + 64) = SB := hSB
      clear hCV hCV2 hW hv8 hc64 hps hpb hSB
      go_upto_region 6 with fail
      refine wp_region_tail 7 1000 (none) (phis (List.map qv [.agg CV, .string PP, .int .i64 (c : Nat), .int .i64 (c : Nat), .int .i64 ((c : Nat) + 64), .string SB, .agg CV2])) rfl (by kernel_rfl) (by kernel_rfl) (mono_of mono_qv) (steps_of 7 ⟨?s0, ?s1, ?s2, ?s3, ?s4, ?s5, ?s6, trivial⟩) ?_
      case s0 =>
        refine step_wp (fun av wv hE hS hO hD => ⟨rfl, ?_⟩)
        have h3 : av.eval (.tmp 3) = (.pointer (some ⟨nb, 0, none⟩)) := hO.2.2 3 rfl
        exact wp_load_row 147 _ rfl nb h3 147 CV (0, 0) _ (extB_block hE (by simp) HNB.out) Tryz.underlying147 rfl HI.out ⟨_, rfl, es_of_ext (Ext_refl _), rfl⟩
      case s1 =>
        refine qV (fun _ => rfl) rfl fun av wv hE hO hD => ?_
        simp [go_sem, qF av 4 (.string PP) (hO.2.2 4 rfl), s1, s2, s3, s4, s5]
      case s2 =>
        refine qV (fun _ => rfl) rfl fun av wv hE hO hD => ?_
        simp [go_sem, qF av 5 (.int .i64 (c : Nat)) (hO.2.2 5 rfl), s1, s2, s3, s4, s5]
      case s3 =>
        refine qV (fun _ => rfl) rfl fun av wv hE hO hD => ?_
        simp [go_sem, qF av 5 (.int .i64 (c : Nat)) (hO.2.2 5 rfl), s1, s2, s3, s4, s5]
      case s4 =>
        refine qV (fun _ => rfl) rfl fun av wv hE hO hD => ?_
        simp [go_sem, qE (hD.1 rfl _ rfl), s1, s2, s3, s4, s5]
      case s5 =>
        refine qV (fun _ => rfl) rfl fun av wv hE hO hD => ?_
        simp [go_sem, qE (hD.1 rfl _ rfl), qE (hD.2.1 rfl _ rfl), qE (hD.2.2.1 rfl _ rfl), s1, s2, s3, s4, s5]
      case s6 =>
        refine step_wp (fun av wv hE hS hO hD => ⟨rfl, ?_⟩)
        have f17 := qE (hD.1 rfl _ rfl)
        have f22 := qE (hD.2.1 rfl _ rfl)
        refine wp_of_call (v := .agg CV2) (by simp [go_sem, f17, f22]) (HRB.out wv) (fun w2 hb => ⟨_, rfl, es_of_ext hb, rfl⟩)
      intro a' w' hE hO hall
      have hA := act_of_outer (ds := [17, 18, 19, 20, 21, 22, 23]) rfl hO (by kernel_rfl)
      obtain ⟨j0, j1, j2, j3, j4, j5, j6, -⟩ := hall
      simp only [List.foldl_cons, List.foldl_nil, Act.put, List.setIfInBounds_toArray, List.set_cons_succ, List.set_cons_zero, qJ 17 (j0 _ rfl), qJ 18 (j1 _ rfl), qJ 19 (j2 _ rfl), qJ 20 (j3 _ rfl), qJ 21 (j4 _ rfl), qJ 22 (j5 _ rfl), qJ 23 (j6 _ rfl)] at hA
      clear hO j0 j1 j2 j3 j4 j5 j6
      subst hA
      have hX := of_drew hE
      have HNB := Lib.hid ((hX.block _ (lt_of_block HNB.out)).trans HNB.out)
      have HW := Lib.hid (bnext HW.out hX)
      clear hE hX s1 s2 s3 s4 s5
      go_upto_region 5 with (first | (refine wpList_store_row ?_ 147 (.tmp 3) (.tmp 23) ?_ nb CV2 ?_ ?_ 147 _ HNB.out HI2.out ?_ HO2.out ?_; rfl; rfl; rfl; rfl; exact HE2.out; skip))
      have HNB2 : Hid ((w'.setRow nb CV2).heap[nb]? = some (.cells (wsC (stL (blocksW (m + 1) st0 pl))) 147 (0, 0))) := Lib.hid (by rw [HV2.out, HCV2.out]; exact setRow_heap _ _ _ _ _ _ HNB.out)
      have HW2 : Hid (Below w.heap.size w (w'.setRow nb CV2)) := Lib.hid (by
        have h1 := HW.out
        exact ⟨h1.os, h1.tape, h1.output, by rw [setRow_size]; exact h1.size, fun i hi => by rw [setRow_other _ _ _ _ (show i ≠ nb by have := HNW.out; omega)]; exact h1.block i hi⟩)
      have iw : IntKind.i64.wrap (((c : Nat) : Int) + 64) = ((c : Nat) : Int) + 64 := IntWalk.i64_in _ (by have := HC.out; have := HPB.out; omega)
      go_wp2
      go_roundg (N - (m + 1))
      case rel => exact ⟨m + 1, c + 64, by omega, by go_num, Lib.hid (by rw [HC.out]; omega), HNB2, HW2⟩
      case measure => omega
    · obtain rfl : m = N := by omega
      have i1 : ¬ (c : Int) < (PP.size : Int) := by have := HC.out; have := HPS.out; omega
      obtain ⟨z, hz⟩ : ∃ z, blocksW m st0 pl = z := ⟨_, rfl⟩
      have HZ : Hid (shaL s.data.toList = outW z) := Lib.hid (by
        unfold shaL foldW
        rw [HPW.out, HN.out, Nat.mul_div_cancel_left _ (by decide), hz])
      rw [hz] at HNB
      clear hz
      obtain ⟨i0, hi, hz0, hz1, hz2⟩ := info_parts info_b8R
      have HZ0 := Lib.hid hz0
      clear hz0 HPL HPB HPW HN hm
      have mk := make_z32R
      go_upto_region 10 with fail
      clear mk
      obtain ⟨ob, hob⟩ : ∃ ob, wr.heap.size = ob := ⟨_, rfl⟩
      rw [hob]
      obtain ⟨U, hU⟩ : ∃ U, wr.alloc (.cells z32R 5) = U := ⟨_, rfl⟩
      rw [hU]
      have HNB2 : Hid (U.heap[nb]? = some (.cells (wsC (stL z)) 147 (0, 0))) := Lib.hid (by rw [← hU]; exact block_alloc HNB.out _)
      have HUW : Hid (Below w.heap.size w U) := Lib.hid (by rw [← hU]; exact balloc HW.out _)
      have HLT : Hid (nb < ob ∧ w.heap.size ≤ ob) := Lib.hid ⟨by rw [← hob]; exact lt_of_block HNB.out, by rw [← hob]; exact HW.out.size⟩
      have HUO : Hid (U.ownsRow ob 5 1 (.slice (some ⟨ob, 0, none⟩) 0 32) (4 * 0) ((((stL z).take 0).map word4).flatten.map byV)) := Lib.hid ⟨by simp, .inr ⟨ob, 32, z32R, rfl, Nat.le_refl _, by rw [← hU]; exact alloc_new_at _ hob, by decide, by decide, size_madeCells _ _, by simp⟩⟩
      have HUOB : Hid (ob ≤ U.heap.size) := Lib.hid (by rw [← hU, ← hob]; simp)
      clear hU hob HNB HW
      go_loopg [7, 6] 8 (fun g i o wr => ∃ m : Nat, g + m = 8 ∧ i = .int .i64 m ∧ Hid (wr.ownsRow ob 5 1 o (4 * m) ((((stL z).take m).map word4).flatten.map byV)) ∧ Hid (wr.heap[nb]? = some (.cells (wsC (stL z)) 147 (0, 0))) ∧ Hid (Below w.heap.size w wr) ∧ Hid (ob ≤ wr.heap.size))
      case atStart => exact ⟨0, rfl, rfl, HUO, HNB2, HUW, HUOB⟩
      case round =>
        clear HUO HNB2 HUW HUOB
        obtain ⟨m, hm, rfl, HO, HNB, HW, HOB⟩ := hrel
        by_cases hlt : m < 8
        · have i1 : (m : Int) < 8 := by omega
          obtain ⟨X, hX⟩ : ∃ X, wth (stL z) m = X := ⟨_, rfl⟩
          have HX := Lib.hid hX
          obtain ⟨OV, hOV⟩ : ∃ OV, u6 = OV := ⟨_, rfl⟩
          rw [hOV] at HO ⊢
          obtain ⟨W, hW⟩ : ∃ W, wr = W := ⟨_, rfl⟩
          rw [hW] at HO HW HNB HOB ⊢
          have cx : W.cell? ⟨nb, m, none⟩ = some (.int .u32 (wI X)) := by
            rw [block_cell HNB.out, ← hX]
            exact wsC_at (stL z) m hlt
          have bi : ¬ (8 : Int) ≤ (m : Int) := by omega
          have bin : ¬ 8 ≤ m := by omega
          have v1 : IntKind.u8.wrap (wI X / 16777216) = wI X / 16777216 % 256 := IntKind.wrap_u8 _
          have v2 : IntKind.u8.wrap (wI X / 65536) = wI X / 65536 % 256 := IntKind.wrap_u8 _
          have v3 : IntKind.u8.wrap (wI X / 256) = wI X / 256 % 256 := IntKind.wrap_u8 _
          have v4 : IntKind.u8.wrap (wI X) = wI X % 256 := IntKind.wrap_u8 _
          clear hX hW hOV
          go_upto_region 11 with fail
          refine wp_region_tail 21 1000 (none) (phis [fun u _ => u = (OV), fun u _ => u = (.int .i64 (m : Nat)), fun u _ => u = (.pointer (some ⟨nb, m, none⟩)), fun u _ => u = (.int .u32 (wI X)), fun u _ => u = (.int .u32 (wI X / 16777216)), fun u _ => u = (.int .u8 (wI X / 16777216 % 256)), fun u _ => u = (.int .i64 (m : Nat)), fun u _ => u = (.pointer (some ⟨nb, m, none⟩)), fun u _ => u = (.int .u32 (wI X)), fun u _ => u = (.int .u32 (wI X / 65536)), fun u _ => u = (.int .u8 (wI X / 65536 % 256)), fun u _ => u = (.int .i64 (m : Nat)), fun u _ => u = (.pointer (some ⟨nb, m, none⟩)), fun u _ => u = (.int .u32 (wI X)), fun u _ => u = (.int .u32 (wI X / 256)), fun u _ => u = (.int .u8 (wI X / 256 % 256)), fun u _ => u = (.int .i64 (m : Nat)), fun u _ => u = (.pointer (some ⟨nb, m, none⟩)), fun u _ => u = (.int .u32 (wI X)), fun u _ => u = (.int .u8 (wI X % 256)), fun uu w' => ∃ c, uu = .slice (some ⟨c, 0, none⟩) 4 4 ∧ w'.heap[c]? = some (.cells #[.int .u8 (wI X / 16777216 % 256), .int .u8 (wI X / 65536 % 256), .int .u8 (wI X / 256 % 256), .int .u8 (wI X % 256)] 5 (0, 0))]) rfl (by kernel_rfl) (by kernel_rfl) (mono_of ⟨mono_eq, mono_eq, mono_eq, mono_eq, mono_eq, mono_eq, mono_eq, mono_eq, mono_eq, mono_eq, mono_eq, mono_eq, mono_eq, mono_eq, mono_eq, mono_eq, mono_eq, mono_eq, mono_eq, mono_eq, ?m20, trivial⟩) (steps_of 21 ⟨?s0, ?s1, ?s2, ?s3, ?s4, ?s5, ?s6, ?s7, ?s8, ?s9, ?s10, ?s11, ?s12, ?s13, ?s14, ?s15, ?s16, ?s17, ?s18, ?s19, ?s20, trivial⟩) ?_
          case m20 =>
            exact ⟨fun uu w1 w2 h ⟨c, h1, h2⟩ => ⟨c, h1, ext_block h h2⟩, fun _ uu w1 w2 h ⟨c, h1, h2⟩ => ⟨c, h1, extB_block h (by simp) h2⟩⟩
          case s0 =>
            refine qV (fun _ => rfl) rfl fun av wv hE hO hD => ?_
            simp [go_sem, qF av 6 (OV) (hO.2.2 6 rfl), bi, bin, v1, v2, v3, v4]
          case s1 =>
            refine qV (fun _ => rfl) rfl fun av wv hE hO hD => ?_
            simp [go_sem, qF av 7 (.int .i64 (m : Nat)) (hO.2.2 7 rfl), bi, bin, v1, v2, v3, v4]
          case s2 =>
            refine qV (fun _ => rfl) rfl fun av wv hE hO hD => ?_
            simp [go_sem, qF av 3 (.pointer (some ⟨nb, 0, none⟩)) (hO.2.2 3 rfl), qE (hD.1 rfl _ rfl), bi, bin, v1, v2, v3, v4]
          case s3 =>
            refine qV (fun _ => rfl) rfl fun av wv hE hO hD => ?_
            simp [go_sem, qE (hD.1 rfl _ rfl), extB_cell hE (by simp) cx, bi, bin, v1, v2, v3, v4]
          case s4 =>
            refine qV (fun _ => rfl) rfl fun av wv hE hO hD => ?_
            simp [go_sem, qE (hD.1 rfl _ rfl), bi, bin, v1, v2, v3, v4]
          case s5 =>
            refine qV (fun _ => rfl) rfl fun av wv hE hO hD => ?_
            simp [go_sem, qE (hD.1 rfl _ rfl), bi, bin, v1, v2, v3, v4]
          case s6 =>
            refine qV (fun _ => rfl) rfl fun av wv hE hO hD => ?_
            simp [go_sem, qF av 7 (.int .i64 (m : Nat)) (hO.2.2 7 rfl), bi, bin, v1, v2, v3, v4]
          case s7 =>
            refine qV (fun _ => rfl) rfl fun av wv hE hO hD => ?_
            simp [go_sem, qF av 3 (.pointer (some ⟨nb, 0, none⟩)) (hO.2.2 3 rfl), qE (hD.1 rfl _ rfl), bi, bin, v1, v2, v3, v4]
          case s8 =>
            refine qV (fun _ => rfl) rfl fun av wv hE hO hD => ?_
            simp [go_sem, qE (hD.1 rfl _ rfl), extB_cell hE (by simp) cx, bi, bin, v1, v2, v3, v4]
          case s9 =>
            refine qV (fun _ => rfl) rfl fun av wv hE hO hD => ?_
            simp [go_sem, qE (hD.1 rfl _ rfl), bi, bin, v1, v2, v3, v4]
          case s10 =>
            refine qV (fun _ => rfl) rfl fun av wv hE hO hD => ?_
            simp [go_sem, qE (hD.1 rfl _ rfl), bi, bin, v1, v2, v3, v4]
          case s11 =>
            refine qV (fun _ => rfl) rfl fun av wv hE hO hD => ?_
            simp [go_sem, qF av 7 (.int .i64 (m : Nat)) (hO.2.2 7 rfl), bi, bin, v1, v2, v3, v4]
          case s12 =>
            refine qV (fun _ => rfl) rfl fun av wv hE hO hD => ?_
            simp [go_sem, qF av 3 (.pointer (some ⟨nb, 0, none⟩)) (hO.2.2 3 rfl), qE (hD.1 rfl _ rfl), bi, bin, v1, v2, v3, v4]
          case s13 =>
            refine qV (fun _ => rfl) rfl fun av wv hE hO hD => ?_
            simp [go_sem, qE (hD.1 rfl _ rfl), extB_cell hE (by simp) cx, bi, bin, v1, v2, v3, v4]
          case s14 =>
            refine qV (fun _ => rfl) rfl fun av wv hE hO hD => ?_
            simp [go_sem, qE (hD.1 rfl _ rfl), bi, bin, v1, v2, v3, v4]
          case s15 =>
            refine qV (fun _ => rfl) rfl fun av wv hE hO hD => ?_
            simp [go_sem, qE (hD.1 rfl _ rfl), bi, bin, v1, v2, v3, v4]
          case s16 =>
            refine qV (fun _ => rfl) rfl fun av wv hE hO hD => ?_
            simp [go_sem, qF av 7 (.int .i64 (m : Nat)) (hO.2.2 7 rfl), bi, bin, v1, v2, v3, v4]
          case s17 =>
            refine qV (fun _ => rfl) rfl fun av wv hE hO hD => ?_
            simp [go_sem, qF av 3 (.pointer (some ⟨nb, 0, none⟩)) (hO.2.2 3 rfl), qE (hD.1 rfl _ rfl), bi, bin, v1, v2, v3, v4]
          case s18 =>
            refine qV (fun _ => rfl) rfl fun av wv hE hO hD => ?_
            simp [go_sem, qE (hD.1 rfl _ rfl), extB_cell hE (by simp) cx, bi, bin, v1, v2, v3, v4]
          case s19 =>
            refine qV (fun _ => rfl) rfl fun av wv hE hO hD => ?_
            simp [go_sem, qE (hD.1 rfl _ rfl), bi, bin, v1, v2, v3, v4]
          case s20 =>
            refine step_wp (fun av wv hE hS hO hD => ⟨rfl, ?_⟩)
            have f34 := qE (hD.1 rfl _ rfl)
            have f39 := qE (hD.2.1 rfl _ rfl)
            have f44 := qE (hD.2.2.1 rfl _ rfl)
            have f48 := qE (hD.2.2.2.1 rfl _ rfl)
            exact wp_of_run (v := .slice (some ⟨wv.heap.size, 0, none⟩) 4 4) (w' := wv.alloc (.cells #[.int .u8 (wI X / 16777216 % 256), .int .u8 (wI X / 65536 % 256), .int .u8 (wI X / 256 % 256), .int .u8 (wI X % 256)] 5)) (by simp [go_sem, f34, f39, f44, f48]) ⟨_, rfl, es_of_ext (balloc (Ext_refl _) _), wv.heap.size, rfl, heap_alloc_new _ _⟩
          intro a' w' hE hO hall
          have hA := act_of_outer (ds := [29, 30, 31, 32, 33, 34, 35, 36, 37, 38, 39, 40, 41, 42, 43, 44, 45, 46, 47, 48, 49]) rfl hO (by kernel_rfl)
          obtain ⟨j0, j1, j2, j3, j4, j5, j6, j7, j8, j9, j10, j11, j12, j13, j14, j15, j16, j17, j18, j19, j20, -⟩ := hall
          have e49 : (fun uu w' => ∃ c, uu = .slice (some ⟨c, 0, none⟩) 4 4 ∧ w'.heap[c]? = some (.cells #[.int .u8 (wI X / 16777216 % 256), .int .u8 (wI X / 65536 % 256), .int .u8 (wI X / 256 % 256), .int .u8 (wI X % 256)] 5 (0, 0))) (a'.eval (.tmp 49)) w' := j20 _ rfl
          obtain ⟨v49, hv49⟩ : ∃ v, a'.eval (.tmp 49) = v := ⟨_, rfl⟩
          rw [hv49] at e49
          simp only [List.foldl_cons, List.foldl_nil, Act.put, List.setIfInBounds_toArray, List.set_cons_succ, List.set_cons_zero, qJ 29 (j0 _ rfl), qJ 30 (j1 _ rfl), qJ 31 (j2 _ rfl), qJ 32 (j3 _ rfl), qJ 33 (j4 _ rfl), qJ 34 (j5 _ rfl), qJ 35 (j6 _ rfl), qJ 36 (j7 _ rfl), qJ 37 (j8 _ rfl), qJ 38 (j9 _ rfl), qJ 39 (j10 _ rfl), qJ 40 (j11 _ rfl), qJ 41 (j12 _ rfl), qJ 42 (j13 _ rfl), qJ 43 (j14 _ rfl), qJ 44 (j15 _ rfl), qJ 45 (j16 _ rfl), qJ 46 (j17 _ rfl), qJ 47 (j18 _ rfl), qJ 48 (j19 _ rfl), hv49] at hA
          clear hO j20 j0 j1 j2 j3 j4 j5 j6 j7 j8 j9 j10 j11 j12 j13 j14 j15 j16 j17 j18 j19 hv49
          subst hA
          have hX := of_drew hE
          have HO2 := Lib.hid (own_below HO.out hX)
          have HNB2 := Lib.hid ((hX.block _ (lt_of_block HNB.out)).trans HNB.out)
          have HW2 : Hid (Below w.heap.size w w') := Lib.hid (bnext HW.out hX)
          have HOB2 : Hid (ob ≤ w'.heap.size) := Lib.hid (Nat.le_trans HOB.out hX.size)
          obtain ⟨cb, rfl, hcb⟩ := e49
          have HCB := Lib.hid hcb
          clear hX hE cx bi bin v1 v2 v3 v4 HOB HNB HW hcb
          have hmm : 4 * m ≤ 32 := by omega
          simp only [List.drop_succ_cons, List.drop_zero]
          go_wp2_with (at_builtin; refine wpList_append_own _ rfl _ _ 114 rfl ob 5 i0 (.int .u8 0) 1 1 Tryz.underlying114 hi HZ0.out hz1 hz2 rfl (by decide) _ _ _ rfl HO2.out ⟨cb, 0, none⟩ 4 4 [.int .u8 (wI X / 16777216 % 256), .int .u8 (wI X / 65536 % 256), .int .u8 (wI X / 256 % 256), .int .u8 (wI X % 256)] rfl rfl (World.news_of_block HCB.out) (by intro u hu; simp at hu; rcases hu with rfl | rfl | rfl | rfl <;> rfl) (by unfold maxLen; omega) (by omega) HOB2.out ?_; intro v9 w4 hown2 hgrow2 _)
          have HO3 : Hid (w4.ownsRow ob 5 1 v9 (4 * (m + 1)) ((((stL z).take (m + 1)).map word4).flatten.map byV)) := Lib.hid (by
            rw [outW_snoc z m hlt, HX.out, List.map_append, ← word4_vals]
            exact hown2)
          have HNB3 : Hid (w4.heap[nb]? = some (.cells (wsC (stL z)) 147 (0, 0))) := Lib.hid ((hgrow2.block nb (lt_of_block HNB2.out) (fun e => by
            have := (HO2.out.lt nb e.symm).1
            have := HLT.out.1
            omega)).trans HNB2.out)
          have HW3 : Hid (Below w.heap.size w w4) := Lib.hid (grownBy_below HW2.out hgrow2 (fun k hk' => Nat.le_trans HLT.out.2 (HO2.out.lt k hk').1))
          have HOB3 : Hid (ob ≤ w4.heap.size) := Lib.hid (Nat.le_trans HOB2.out hgrow2.size)
          clear hown2 hgrow2
          go_wp2
          go_roundg (8 - (m + 1))
          case rel => exact ⟨m + 1, by omega, by go_num, HO3, HNB3, HW3, HOB3⟩
          case measure => omega
        · obtain rfl : m = 8 := by omega
          have i1 : ¬ ((8 : Nat) : Int) < 8 := by decide
          have HO2 : Hid (wr.ownsRow ob 5 1 u6 32 ((shaL s.data.toList).map byV)) := Lib.hid (by
            have h1 := HO.out
            rw [show (stL z).take 8 = stL z from rfl, outW_eq, ← HZ.out] at h1
            exact h1)
          have cv := conv_own HO2.out (shaL_len s.data.toList) (by decide)
          go_wp2
          go_ret
          exact ⟨rfl, HW.out⟩
end Go.Proofs.YtoafjbillcooiaaGreat
namespace Go.Proofs.YtoafjbillcooiaaGreat
open Go.RowKit
set_option linter.unusedSimpArgs false
set_option linter.unusedVariables false
theorem ofNat_byV (x : Nat) : Value.int .u8 ((x : Int) % 256) = byV (UInt8.ofNat x) := by
  unfold byV
  rw [UInt8.toNat_ofNat']
  congr 1
theorem num8_drop (N m : Nat) (h : m < 8) : (num8 N).drop (8 - (m + 1)) = UInt8.ofNat (N / 256 ^ m) :: (num8 N).drop (8 - m) := by
  have h8 : 8 - (m + 1) < (num8 N).length := by rw [num8_len]; omega
  rw [List.drop_eq_getElem_cons h8, show 8 - (m + 1) + 1 = 8 - m by omega]
  congr 1
  have h9 := num8_get N (8 - (m + 1)) (by omega)
  rw [List.getElem?_eq_getElem h8] at h9
  have h10 := Option.some.inj h9
  rw [h10, show 7 - (8 - (m + 1)) = m by omega]
set_option maxRecDepth 100000 in
set_option maxHeartbeats 4000000 in
theorem rnum_any (N : Nat) (w : World) (hN : N < 18446744073709551616) : Calls Tryz.prog 113 #[.int .u64 (N : Nat)] w fun e w' => e = .returned (.string (num8S N)) ∧ Below w.heap.size w w' := by
  have HN := Lib.hid hN
  clear hN
  go_enter Tryz.func113, Tryz.ntmps113
  go_upto_region 3 with fail
  go_loopg [4, 3, 0] 8 (fun g i x n wr => ∃ (m : Nat) (X : ByteArray), g + m = 8 ∧ i = .int .i64 m ∧ x = .string X ∧ n = .int .u64 ((N / 256 ^ m : Nat) : Int) ∧ Hid (X.data.toList = (num8 N).drop (8 - m)) ∧ Hid (Below w.heap.size w wr))
  case atStart => exact ⟨0, ⟨#[]⟩, rfl, rfl, rfl, by rw [Nat.pow_zero, Nat.div_one], Lib.hid (by rw [List.drop_of_length_le (by rw [num8_len]; decide)]), Lib.hid (Below.refl _ _)⟩
  case round =>
    obtain ⟨m, X, hm, rfl, rfl, rfl, HX, HW⟩ := hrel
    by_cases hlt : m < 8
    · have i1 : (m : Int) < 8 := by omega
      obtain ⟨x, hx⟩ : ∃ x, N / 256 ^ m = x := ⟨_, rfl⟩
      have HXX : Hid (N / 256 ^ (m + 1) = x / 256) := Lib.hid (by rw [Nat.pow_succ, ← Nat.div_div_eq_div_mul, hx])
      have hx6 : x < 18446744073709551616 := by rw [← hx]; exact Nat.lt_of_le_of_lt (Nat.div_le_self _ _) HN.out
      obtain ⟨b9, hb9⟩ : ∃ b9, UInt8.ofNat x = b9 := ⟨_, rfl⟩
      have HB9 : Hid (Value.int .u8 ((x : Int) % 256) = byV b9) := Lib.hid (by rw [ofNat_byV, hb9])
      have cv : (convert 114 9 (.slice (some ⟨wr.heap.size, 0, none⟩) 1 1)).run Tryz.prog (wr.alloc (.cells #[.int .u8 ((x : Int) % 256)] 5)) = .ok (.string ⟨#[b9]⟩) (wr.alloc (.cells #[.int .u8 ((x : Int) % 256)] 5)) := by
        rw [HB9.out]
        exact conv_new wr 5 1 1 [b9] rfl
      have HX2 : Hid (((⟨#[b9]⟩ : ByteArray) ++ X).data.toList = (num8 N).drop (8 - (m + 1))) := Lib.hid (by
        rw [app_data, HX.out, num8_drop N m hlt, hx, hb9]
        rfl)
      have q2 : 1 + X.size ≤ 9223372036854775807 := by
        have h1 := congrArg List.length HX.out
        rw [data_size, List.length_drop, num8_len] at h1
        omega
      rw [hx]
      have HE : Hid (((x : Nat) : Int) / 256 = ((N / 256 ^ (m + 1) : Nat) : Int)) := Lib.hid (by rw [HXX.out]; rfl)
      clear hx hb9
      go_wp2
      go_roundg (8 - (m + 1))
      case rel => exact ⟨m + 1, _, by omega, by go_num, rfl, by rw [HE.out], HX2, by (repeat (first | exact Below.refl _ _ | assumption | (refine bdrew ?_) | (refine bdrewN ?_ _) | (refine balloc ?_ _) | (refine bset ?_ (by first | omega | (simp; done) | (simp; omega)) _) | (refine bnext ?_ (by assumption))))⟩
      case measure => omega
    · obtain rfl : m = 8 := by omega
      have i1 : ¬ ((8 : Nat) : Int) < 8 := by decide
      have HF : Hid (X = num8S N) := Lib.hid (ba_eq (by rw [HX.out]; rfl))
      go_wp2
      go_ret
      exact ⟨by rw [HF.out]; rfl, HW.out⟩
end Go.Proofs.YtoafjbillcooiaaGreat
namespace Go.Proofs.YtoafjbillcooiaaGreat
open Go.RowKit
set_option linter.unusedSimpArgs false
set_option linter.unusedVariables false
set_option maxRecDepth 100000 in
set_option maxHeartbeats 4000000 in
theorem rframe_any (tag : ByteArray) (parts : List ByteArray) (a : Option Addr) (cap : Nat) (w : World) (h1 : 1 ≤ tag.size) (h2 : tag.size ≤ 16) (hp : Txts w a parts) (hs : (partsL parts).length ≤ 140737488355300) :
    Calls Tryz.prog 99 #[.string tag, .slice a (len parts) cap] w fun e w' => e = .returned (.string (frameS tag parts)) ∧ Below w.heap.size w w' := by
  have HP := Lib.hid hp
  have HS := Lib.hid hs
  have HT2 := Lib.hid h2
  have HPL : Hid (len parts ≤ 140737488355300) := Lib.hid (by have := partsL_ge parts; rw [len_eq]; omega)
  have t1 : ¬ (tag.size : Int) < 1 := by omega
  have t2 : ¬ (16 : Int) < (tag.size : Int) := by omega
  have t3 : IntKind.u8.wrap ((tag.size : Nat) : Int) = ((tag.size : Nat) : Int) := IntWalk.u8_in _ (by omega)
  have t4 : 1 + tag.size ≤ 9223372036854775807 := by omega
  have HB9 : Hid (Value.int .u8 ((tag.size : Nat) : Int) = byV (UInt8.ofNat tag.size)) := Lib.hid (by
    unfold byV
    rw [UInt8.toNat_ofNat', Nat.mod_eq_of_lt (by omega)])
  have cv : (convert 114 9 (.slice (some ⟨w.heap.size, 0, none⟩) 1 1)).run Tryz.prog (w.alloc (.cells #[.int .u8 ((tag.size : Nat) : Int)] 5)) = .ok (.string ⟨#[UInt8.ofNat tag.size]⟩) (w.alloc (.cells #[.int .u8 ((tag.size : Nat) : Int)] 5)) := by
    rw [HB9.out]
    exact conv_new w 5 1 1 [UInt8.ofNat tag.size] rfl
  clear hp hs h1 h2
  go_enter Tryz.func99, Tryz.ntmps99
  go_upto_region 5 with fail
  obtain ⟨X0, hX0⟩ : ∃ X0, (⟨#[UInt8.ofNat tag.size]⟩ : ByteArray) ++ tag = X0 := ⟨_, rfl⟩
  rw [hX0]
  have HX0 : Hid (X0.data.toList = headL tag ++ partsL (parts.take 0)) := Lib.hid (by rw [← hX0, app_data, List.take_zero, show partsL [] = [] from rfl, List.append_nil]; rfl)
  have HW0 : Hid (Below w.heap.size w (w.alloc (.cells #[.int .u8 ((tag.size : Nat) : Int)] 5))) := Lib.hid (balloc (Below.refl _ _) _)
  clear hX0 t1 t2 t3 t4 cv
  go_loopg [6, 5] (len parts) (fun g i x wr => ∃ (m : Nat) (X : ByteArray), g + m = len parts ∧ i = .int .i64 m ∧ x = .string X ∧ Hid (X.data.toList = headL tag ++ partsL (parts.take m)) ∧ Hid (Below w.heap.size w wr))
  case atStart => exact ⟨0, X0, rfl, rfl, rfl, HX0, HW0⟩
  case round =>
    clear HX0 HW0
    obtain ⟨m, X, hm, rfl, rfl, HX, HW⟩ := hrel
    have HPB := HPL.out
    by_cases hlt : m < len parts
    · have b0 : (m : Int) < len parts := by omega
      obtain ⟨pb, po, rfl, cs⟩ := (HP.out.below HW.out) m hlt
      obtain ⟨p, hx⟩ : ∃ p, tth parts m = p := ⟨_, rfl⟩
      rw [hx] at cs
      have hsz : X.size + (8 + p.size) ≤ 140737488355328 := by
        have h1 := congrArg List.length HX.out
        rw [data_size, List.length_append, headL_len] at h1
        have h2 := partsL_le parts (m + 1)
        rw [partsL_snoc _ _ hlt, List.length_append, hx, partL_len] at h2
        have := HS.out
        have := HT2.out
        omega
      have bl : ¬ len parts ≤ m := by omega
      have u1 : IntKind.u64.wrap ((p.size : Nat) : Int) = ((p.size : Nat) : Int) := IntWalk.u64_in _ (by omega)
      have q1 : X.size + (num8S p.size).size ≤ 9223372036854775807 := by rw [num8S_size]; omega
      have q2 : X.size + (num8S p.size).size + p.size ≤ 9223372036854775807 := by rw [num8S_size]; omega
      have HNM := Lib.hid (fun w9 => rnum_any p.size w9 (by omega))
      have HX2 : Hid (((X ++ num8S p.size) ++ p).data.toList = headL tag ++ partsL (parts.take (m + 1))) := Lib.hid (by
        rw [app_data, app_data, HX.out, partsL_snoc _ _ hlt, hx]
        unfold partL
        simp only [List.append_assoc]
        rfl)
      clear hx hsz
      go_upto_region 7 with fail
      refine wp_region_tail 14 1000 (none) (phis (List.map qv [.string X, .slice (some ⟨pb, po, none⟩) (len parts) cap, .int .i64 (m : Nat), .pointer (some ⟨pb, po + m, none⟩), .string p, .int .i64 (p.size : Nat), .int .u64 (p.size : Nat), .string (num8S p.size), .string (X ++ num8S p.size), .slice (some ⟨pb, po, none⟩) (len parts) cap, .int .i64 (m : Nat), .pointer (some ⟨pb, po + m, none⟩), .string p, .string ((X ++ num8S p.size) ++ p)])) rfl (by kernel_rfl) (by kernel_rfl) (mono_of mono_qv) (steps_of 14 ⟨?s0, ?s1, ?s2, ?s3, ?s4, ?s5, ?s6, ?s7, ?s8, ?s9, ?s10, ?s11, ?s12, ?s13, trivial⟩) ?_
      case s0 =>
        refine qV (fun _ => rfl) rfl fun av wv hE hO hD => ?_
        simp [go_sem, qF av 5 (.string X) (hO.2.2 5 rfl), bl, u1, q1, q2]
      case s1 =>
        refine qV (fun _ => rfl) rfl fun av wv hE hO hD => ?_
        simp [go_sem, qF av 1 (.slice (some ⟨pb, po, none⟩) (len parts) cap) (hO.2.2 1 rfl), bl, u1, q1, q2]
      case s2 =>
        refine qV (fun _ => rfl) rfl fun av wv hE hO hD => ?_
        simp [go_sem, qF av 6 (.int .i64 (m : Nat)) (hO.2.2 6 rfl), bl, u1, q1, q2]
      case s3 =>
        refine qV (fun _ => rfl) rfl fun av wv hE hO hD => ?_
        simp [go_sem, qE (hD.1 rfl _ rfl), qE (hD.2.1 rfl _ rfl), bl, u1, q1, q2]
      case s4 =>
        refine qV (fun _ => rfl) rfl fun av wv hE hO hD => ?_
        simp [go_sem, qE (hD.1 rfl _ rfl), extB_cell hE (by simp) cs, bl, u1, q1, q2]
      case s5 =>
        refine qV (fun _ => rfl) rfl fun av wv hE hO hD => ?_
        simp [go_sem, qE (hD.1 rfl _ rfl), bl, u1, q1, q2]
      case s6 =>
        refine qV (fun _ => rfl) rfl fun av wv hE hO hD => ?_
        simp [go_sem, qE (hD.1 rfl _ rfl), bl, u1, q1, q2]
      case s7 =>
        refine step_wp (fun av wv hE hS hO hD => ⟨rfl, ?_⟩)
        have f34 := qE (hD.1 rfl _ rfl)
        refine wp_of_call (v := .string (num8S p.size)) (by simp [go_sem, f34]) (HNM.out wv) (fun w2 hb => ⟨_, rfl, es_of_ext hb, rfl⟩)
      case s8 =>
        refine qV (fun _ => rfl) rfl fun av wv hE hO hD => ?_
        simp [go_sem, qE (hD.1 rfl _ rfl), qE (hD.2.1 rfl _ rfl), bl, u1, q1, q2]
      case s9 =>
        refine qV (fun _ => rfl) rfl fun av wv hE hO hD => ?_
        simp [go_sem, qF av 1 (.slice (some ⟨pb, po, none⟩) (len parts) cap) (hO.2.2 1 rfl), bl, u1, q1, q2]
      case s10 =>
        refine qV (fun _ => rfl) rfl fun av wv hE hO hD => ?_
        simp [go_sem, qF av 6 (.int .i64 (m : Nat)) (hO.2.2 6 rfl), bl, u1, q1, q2]
      case s11 =>
        refine qV (fun _ => rfl) rfl fun av wv hE hO hD => ?_
        simp [go_sem, qE (hD.1 rfl _ rfl), qE (hD.2.1 rfl _ rfl), bl, u1, q1, q2]
      case s12 =>
        refine qV (fun _ => rfl) rfl fun av wv hE hO hD => ?_
        simp [go_sem, qE (hD.1 rfl _ rfl), extB_cell hE (by simp) cs, bl, u1, q1, q2]
      case s13 =>
        refine qV (fun _ => rfl) rfl fun av wv hE hO hD => ?_
        simp [go_sem, qE (hD.1 rfl _ rfl), qE (hD.2.1 rfl _ rfl), bl, u1, q1, q2]
      intro a' w' hE hO hall
      have hA := act_of_outer (ds := [28, 29, 30, 31, 32, 33, 34, 35, 36, 37, 38, 39, 40, 41]) rfl hO (by kernel_rfl)
      obtain ⟨j0, j1, j2, j3, j4, j5, j6, j7, j8, j9, j10, j11, j12, j13, -⟩ := hall
      simp only [List.foldl_cons, List.foldl_nil, Act.put, List.setIfInBounds_toArray, List.set_cons_succ, List.set_cons_zero, qJ 28 (j0 _ rfl), qJ 29 (j1 _ rfl), qJ 30 (j2 _ rfl), qJ 31 (j3 _ rfl), qJ 32 (j4 _ rfl), qJ 33 (j5 _ rfl), qJ 34 (j6 _ rfl), qJ 35 (j7 _ rfl), qJ 36 (j8 _ rfl), qJ 37 (j9 _ rfl), qJ 38 (j10 _ rfl), qJ 39 (j11 _ rfl), qJ 40 (j12 _ rfl), qJ 41 (j13 _ rfl)] at hA
      clear hO j0 j1 j2 j3 j4 j5 j6 j7 j8 j9 j10 j11 j12 j13
      subst hA
      have HW2 : Hid (Below w.heap.size w w') := Lib.hid (bnext HW.out (of_drew hE))
      clear hE cs bl u1 q1 q2
      go_wp2
      go_roundg (len parts - (m + 1))
      case rel => exact ⟨m + 1, _, by omega, by go_num, rfl, HX2, HW2⟩
      case measure => omega
    · obtain rfl : m = len parts := by omega
      have b0 : ¬ ((len parts : Nat) : Int) < len parts := by omega
      have HF : Hid (X = frameS tag parts) := Lib.hid (ba_eq (by rw [HX.out, take_len]; rfl))
      go_wp2
      go_ret
      exact ⟨by rw [HF.out]; rfl, HW.out⟩
end Go.Proofs.YtoafjbillcooiaaGreat
namespace Go.Proofs.YtoafjbillcooiaaGreat
open Go.RowKit
set_option linter.unusedSimpArgs false
set_option linter.unusedVariables false
set_option maxRecDepth 100000 in
set_option maxHeartbeats 4000000 in
theorem rhash_any (tag : ByteArray) (parts : List ByteArray) (a : Option Addr) (cap : Nat) (w : World) (h1 : 1 ≤ tag.size) (h2 : tag.size ≤ 16) (hp : Txts w a parts) (hs : (partsL parts).length ≤ 140737488355300) :
    Calls Tryz.prog 116 #[.string tag, .slice a (len parts) cap] w fun e w' => e = .returned (.string (hashP tag parts)) ∧ Below w.heap.size w w' := by
  have HF := Lib.hid (rframe_any tag parts a cap w h1 h2 hp hs)
  have HS : Hid (1 ≤ (frameS tag parts).size ∧ (frameS tag parts).size ≤ 140737488355328) := Lib.hid (by rw [frameS_size]; omega)
  clear h1 h2 hp hs
  go_enter Tryz.func116, Tryz.ntmps116
  go_wp2_with fail
  refine HF.out.mono ?_
  rintro e w1 ⟨rfl, hb1⟩
  have HB1 := Lib.hid hb1
  have t1 : (frameS tag parts).toList.isEmpty = false := fullT (by have := HS.out; omega)
  clear hb1
  go_wp2_with fail
  refine (rsum_any (frameS tag parts) w1 (by have := HS.out; omega)).mono ?_
  rintro e w2 ⟨rfl, hb2⟩
  have HB2 : Hid (Below w.heap.size w w2) := Lib.hid (bnext HB1.out hb2)
  clear hb2
  go_wp2
  go_ret
  exact ⟨rfl, HB2.out⟩
theorem rhash0_any (tag : ByteArray) (w : World) (h1 : 1 ≤ tag.size) (h2 : tag.size ≤ 16) : Calls Tryz.prog 116 #[.string tag, .slice none 0 0] w fun e w' => e = .returned (.string (hashP tag [])) ∧ Below w.heap.size w w' :=
  rhash_any tag [] none 0 w h1 h2 (Txts.nil _ _) (by decide)
theorem txts_rcells {w : World} {b : Nat} {t : TypeId} (l : List ByteArray) (h : w.heap[b]? = some (.cells (l.map Value.string).toArray t (0, 0))) : Txts w (some ⟨b, 0, none⟩) l := fun i hi => ⟨b, 0, rfl, by
  have h2 : i < l.length := hi
  rw [block_cell h, Nat.zero_add, List.getElem?_toArray, List.getElem?_map, List.getElem?_eq_getElem h2, tth_eq l i hi]
  rfl⟩
theorem rhash1_any (tag s : ByteArray) (w : World) (h1 : 1 ≤ tag.size) (h2 : tag.size ≤ 16) (hs : s.size ≤ 140737488355200) : Calls Tryz.prog 116 #[.string tag, .slice (some ⟨w.heap.size, 0, none⟩) 1 1] (w.alloc (.cells #[.string s] 9)) fun e w' => e = .returned (.string (hashP tag [s])) ∧ Below w.heap.size w w' := by
  have hw1 : Txts (w.alloc (.cells #[.string s] 9)) (some ⟨w.heap.size, 0, none⟩) [s] := txts_rcells [s] (heap_alloc_new _ _)
  refine (rhash_any tag [s] (some ⟨w.heap.size, 0, none⟩) 1 _ h1 h2 hw1 (by show ((partL s) ++ []).length ≤ _; rw [List.append_nil, partL_len]; omega)).mono ?_
  rintro e w2 ⟨rfl, hb2⟩
  exact ⟨rfl, bnext (balloc (Below.refl _ _) _) hb2⟩
theorem rhash2_any (tag s t : ByteArray) (w : World) (h1 : 1 ≤ tag.size) (h2 : tag.size ≤ 16) (hs : s.size ≤ 1000000) (ht : t.size ≤ 1000000) : Calls Tryz.prog 116 #[.string tag, .slice (some ⟨w.heap.size, 0, none⟩) 2 2] (w.alloc (.cells #[.string s, .string t] 9)) fun e w' => e = .returned (.string (hashP tag [s, t])) ∧ Below w.heap.size w w' := by
  have hw1 : Txts (w.alloc (.cells #[.string s, .string t] 9)) (some ⟨w.heap.size, 0, none⟩) [s, t] := txts_rcells [s, t] (heap_alloc_new _ _)
  refine (rhash_any tag [s, t] (some ⟨w.heap.size, 0, none⟩) 2 _ h1 h2 hw1 (by show ((partL s) ++ ((partL t) ++ [])).length ≤ _; rw [List.append_nil, List.length_append, partL_len, partL_len]; omega)).mono ?_
  rintro e w2 ⟨rfl, hb2⟩
  exact ⟨rfl, bnext (balloc (Below.refl _ _) _) hb2⟩
end Go.Proofs.YtoafjbillcooiaaGreat
