/- CertApart: the walk. -/
import Derived.Test.YtmcmapcijncblaaCertL
namespace Go.Proofs.Ytmcmapcijncblaa
open Go.RowKit
attribute [local go_sem ↓] Go.wp_at_zero Go.wp_at_succ

theorem onth_take (l : List One) (k i : Nat) (h : i < k) : onth (l.take k) i = onth l i := by
  unfold onth; rw [List.getD_eq_getElem?_getD, List.getD_eq_getElem?_getD, List.getElem?_take, if_pos h]
theorem Ones.take {w : World} {a : Option Addr} {l : List One} (h : Ones w a l) (k : Nat) : Ones w a (l.take k) := fun i hi => by
  have hi' : i < min k l.length := by simpa [len] using hi
  obtain ⟨b, off, e, hc⟩ := h i (by rw [len_eq]; omega)
  exact ⟨b, off, e, by rw [onth_take l k i (by omega)]; exact hc⟩
theorem okTake {l : List One} (h : ∀ i, (onth l i).Ok) (k : Nat) : ∀ i, (onth (l.take k) i).Ok := fun i => by
  rcases Nat.lt_or_ge i k with hi | hi
  · rw [onth_take l k i hi]; exact h i
  · have : onth (l.take k) i = One.zero := by
      unfold onth; rw [List.getD_eq_getElem?_getD, List.getElem?_take, if_neg (by omega)]; rfl
    rw [this]; exact One.zero_ok
theorem U64s.ofCells {w : World} {b : Nat} {cs : Array Value} {t : TypeId} {fr : Nat × Nat} {l : List Int} (h : w.heap[b]? = some (.cells cs t fr)) (off : Nat) (hl : ∀ i, i < len l → cs[off + i]? = some (.int .u64 (nth l i))) : U64s w (some ⟨b, off, none⟩) l := fun i hi =>
  ⟨b, off, rfl, by rw [block_cell h]; exact hl i hi⟩

set_option maxRecDepth 100000 in
set_option maxHeartbeats 2000000 in
theorem apart_law (a : Option Addr) (cap : Nat) (l : List One) (ca : Option Addr) (cc : Nat) (coins : List Int) (n0 n1 n2 n3 n4 n5 : Int) (w : World) (hlen : len l ≤ 9223372036854775807) (hcl : len coins ≤ 9223372036854775807) (hcp : len l ≤ cap) (hcc : len coins ≤ cc) (hcm : cap ≤ 9223372036854775807) (hccm : cc ≤ 9223372036854775807) (hc : Ones w a l) (hu : U64s w ca coins)
    (hok : ∀ i, (onth l i).Ok) (hn : ∀ x ∈ [n0, n1, n2, n3, n4, n5], 0 ≤ x ∧ x < 18446744073709551616) (hco : ∀ i, 0 ≤ nth coins i ∧ nth coins i < 18446744073709551616) :
    Calls Try.prog 4 #[.slice a (len l) cap, .slice ca (len coins) cc, .agg #[.int .u64 n0, .int .u64 n1, .int .u64 n2, .int .u64 n3, .int .u64 n4, .int .u64 n5]] w
      fun e w' => e = .returned (.bool true) ∧ Below w.heap.size w w' := by
  have h0 := hn n0 (by simp)
  have HC := Lib.hid hc
  have HU := Lib.hid hu
  have HOK := Lib.hid hok
  have HN := Lib.hid hn
  have HS := Lib.hid h0
  have HCO := Lib.hid hco
  clear hc hu hok h0 hn hco
  obtain ⟨i0, hi, hz0, hz1, hz2⟩ := info_parts info_u64
  obtain ⟨L, hL⟩ : ∃ L, l.take 30 = L := ⟨_, rfl⟩
  obtain ⟨C, hC⟩ : ∃ C, coins.take 60 = C := ⟨_, rfl⟩
  have eL : len L = min (len l) 30 := by rw [← hL, len_eq, len_eq, List.length_take]; omega
  have eC : len C = min (len coins) 60 := by rw [← hC, len_eq, len_eq, List.length_take]; omega
  have hkl : min ((len l : Nat) : Int) 30 = (len L : Nat) := by omega
  have hkc : min ((len coins : Nat) : Int) 60 = (len C : Nat) := by omega
  have hkl1 : len L ≤ cap := by omega
  have hkc1 : len C ≤ cc := by omega
  have hkl2 : ((len L : Nat) : Int) ≤ cap := by omega
  have hkc2 : ((len C : Nat) : Int) ≤ cc := by omega
  have HL := Lib.hid (hL ▸ HC.out.take 30)
  have HCU := Lib.hid (hC ▸ HU.out.take 60)
  have HLO := Lib.hid (hL ▸ okTake HOK.out 30)
  have HCC : Hid (∀ i, 0 ≤ nth C i ∧ nth C i < 18446744073709551616) := Lib.hid (fun i => by
    rcases Nat.lt_or_ge i 60 with h | h
    · have : nth C i = nth coins i := by rw [← hC]; unfold nth; rw [List.getD_eq_getElem?_getD, List.getD_eq_getElem?_getD, List.getElem?_take, if_pos h]
      rw [this]; exact HCO.out i
    · have : nth C i = 0 := by rw [← hC]; unfold nth; rw [List.getD_eq_getElem?_getD, List.getElem?_take, if_neg (by omega)]; rfl
      rw [this]; decide)
  go_enter Try.func4, Try.ntmps4
  go_wp2_with fail
  refine (works_any _).mono ?_
  rintro e w1 ⟨rfl, hb⟩
  have hz : w.heap.size < w1.heap.size := (by have := hb.size; simp at this; omega)
  have hblk : w1.heap[w.heap.size]? = _ := (hb.block _ (by simp)).trans (heap_alloc_new w _)
  have HB := Lib.hid (bnext (balloc (Below.refl _ _) _) hb)
  have HBLK := Lib.hid hblk
  have k0 : w1.cell? ⟨w.heap.size, 0, none⟩ = some (.int .u64 n0) := block_cell hblk 0
  clear hb hblk
  go_wp2_with fail
  refine (made_any a cap l ca cc coins n0 w1 hlen hcl hcc (HC.out.below HB.out) (HU.out.below HB.out) (fun i => ⟨(HOK.out i).root0, (HOK.out i).root1⟩)).mono ?_
  rintro e w2 ⟨c, rfl, h1, h2, h3, h4, h5, h6, hb⟩
  have hco := certOk_made h1 h2 h3 h4 h5 h6 HS.out.2 HOK.out
  have HA := Lib.hid (fun (h : shapeOf c 640 = 0) => apart_of (L := L) (C := C) (hL ▸ h1) (hC ▸ h2) h3 h)
  have HB2 := Lib.hid (bnext HB.out hb)
  have HBLK2 := Lib.hid ((hb.block _ hz).trans HBLK.out)
  have hz2' : w.heap.size < w2.heap.size := Nat.lt_of_lt_of_le hz hb.size
  have HCO0 := Lib.hid hco
  clear h1 h2 h3 h4 h5 h6 hb hco k0 HBLK
  clear HC HU HOK HCO hL hC HB
  go_wp2_with fail
  refine (shape_any c 640 _ (HCO0.out.below (balloc (Below.refl _ _) _))).mono ?_
  rintro e w3 ⟨rfl, hb⟩
  have HB3 := Lib.hid (bnext (balloc HB2.out _) hb)
  have HBLK3 := Lib.hid ((hb.block _ (by simp; omega)).trans (block_alloc HBLK2.out _))
  have hz3 : w.heap.size < w3.heap.size := (by have := hb.size; simp at this; omega)
  have HLW := Lib.hid (HL.out.below HB3.out)
  have HCW := Lib.hid (HCU.out.below HB3.out)
  clear hb HL HCU HB2 HBLK2 hz2' hz
  by_cases hs : shapeOf c 640 = 0
  · have AP := Lib.hid (HA.out hs)
    clear HA HCO0
    have hA := block_alloc HBLK3.out (Obj.cells #[] 24)
    have q0 : ∀ o, (w3.alloc (Obj.cells #[] 24)).cell? ⟨w.heap.size, o, none⟩ = _ := block_cell hA
    have Q0 := Lib.hid q0
    clear hA q0
    go_wp2_with (at_builtin; refine wpList_append_arg _ rfl _ _ 23 rfl 24 i0 (.int .u64 0) 1 8 Try.underlying23 hi hz0 hz1 hz2 rfl (by decide) w3.heap.size 0 0 0 [] rfl rfl (by simp) ⟨w.heap.size, 1, none⟩ 5 5 [.int .u64 n1, .int .u64 n2, .int .u64 n3, .int .u64 n4, .int .u64 n5] rfl rfl ?c1 ?c2 ?c3 ?c4 ?c5 (fun h => absurd h (by decide)) ?_)
    case c1 =>
      intro j u hu
      match j, hu with
      | 0, hu | 1, hu | 2, hu | 3, hu | 4, hu => exact (Q0.out _).trans hu
    case c2 => intro u hu; simp at hu; rcases hu with rfl | rfl | rfl | rfl | rfl <;> rfl
    case c3 => intro h; exact absurd h (by decide)
    case c4 => unfold maxLen; omega
    case c5 => decide
    intro v' w4 hown hgrow
    have HG : Hid (Below w3.heap.size w3 w4) := Lib.hid (Below.grown (balloc (Below.refl _ _) _) hgrow (by simp) (fun k hk => by cases hk))
    have HO : Hid (w4.ownsRow w3.heap.size 24 1 v' (5 + 3 * 0) ((tries [n1, n2, n3, n4, n5] (L.take 0)).map (Value.int .u64))) := Lib.hid ⟨hown.1, hown.2.imp id (fun ⟨g, cap, cur, h1, h2, h3⟩ => ⟨g, cap, cur, h1, Nat.le_trans (by simp) h2, h3⟩)⟩
    clear hown hgrow
    go_wp2_with fail
    go_loopg [8, 9] (len L) (fun g v i wr => ∃ k : Nat, g + k = len L ∧ i = .int .i64 k ∧ Below w3.heap.size w3 wr ∧ Hid (wr.ownsRow w3.heap.size 24 1 v (5 + 3 * k) ((tries [n1, n2, n3, n4, n5] (L.take k)).map (Value.int .u64))))
    case atStart => exact ⟨0, rfl, rfl, HG.out, HO.out⟩
    case round =>
      obtain ⟨k, hk0, rfl, hd, hk⟩ := hrel
      by_cases hlt : k < len L
      · obtain ⟨b, off, rfl, c0', -, -, -⟩ := HLW.out k hlt
        have l0 := lt_of_cell c0'
        clear c0'
        obtain ⟨b', off', he, c0, c1, c2, c3⟩ := HLW.out.below hd k hlt
        cases he
        have b0 : (k : Int) < len L := (by omega)
        have b1 : 0 ≤ (k : Int) := (by omega)
        have hsz := hd.size
        have hle := eL
        go_wp2
        go_region_held3 (fun w' => w'.cell? ⟨b, off + k * 4 + 1, none⟩ = some (.int .u64 (onth L k).L) ∧ w'.cell? ⟨b, off + k * 4 + 2, none⟩ = some (.int .u64 (onth L k).wt))
          (first | go_keep | (refine ⟨?_, ?_⟩ <;> (rw [(grownBy_below (balloc (bdrew hd) _) hgrow (fun k hk' => (hk.out.lt k hk').1)).cell (p := ⟨b, _, none⟩) l0, ← hd.cell (p := ⟨b, _, none⟩) l0]; assumption)))
          ((refine step_append_lies _ (by rfl) _ _ _ (by rfl) w3.heap.size 24 i0 (.int .u64 0) 1 8 Try.underlying23 hi hz0 hz1 hz2 rfl (by decide) _ (5 + 3 * k) _ (by rfl) (hk.out.drew.alloc _) ⟨wr.heap.size, 0, none⟩ 3 3 [.int .u64 (onth L k).L, .int .u64 (IntKind.u64.wrap ((onth L k).L + (onth L k).wt)), .int .u64 (IntKind.u64.wrap (IntKind.u64.wrap ((onth L k).L + (onth L k).wt) - 1))] (by rfl) rfl (alloc_cells _ #[_, _, _] _) (by intro u hu; simp at hu; rcases hu with rfl | rfl | rfl <;> rfl) (by decide) (by unfold maxLen; omega) (by omega) (by simp; omega) _ rfl ?_; intro g cap w1 hown1 hgrow hat hlt_1))
        have HW := Lib.hid (grownBy_below (balloc (bdrew hd) _) hgrow (fun k hk' => (hk.out.lt k hk').1))
        have HOO := Lib.hid hown1
        clear hown1 hgrow hat hlt_1
        go_wp2
        go_roundg (gk - 1)
        case rel => exact ⟨k + 1, by omega, by go_num, HW.out, (by
          have h := HOO.out
          show World.ownsRow _ _ _ _ _ _ _
          rw [tries_succ _ L k hlt, List.map_append, show 5 + 3 * (k + 1) = 5 + 3 * k + 3 by omega]; exact h)⟩
        case measure => omega
      · have hkL : L.take k = L := List.take_of_length_le (by rw [← len_eq]; omega)
        have hlt' : ¬ (k : Int) < len L := (by omega)
        have ho := hk.out
        rw [hkL] at ho
        obtain ⟨ta, tc, rfl, htu⟩ := own_u64s ho
        have HTR := Lib.hid (tries_range [n1, n2, n3, n4, n5] (fun x hx => HN.out x (List.mem_cons_of_mem _ hx)) L HLO.out)
        have eT : len (tries [n1, n2, n3, n4, n5] L) = 5 + 3 * k := (by have := ho.1; rw [List.length_map] at this; rw [len_eq]; omega)
        generalize tries [n1, n2, n3, n4, n5] L = T at *
        have HTW := Lib.hid htu
        have HL4 := Lib.hid (HLW.out.below hd)
        have HC4 := Lib.hid (HCW.out.below hd)
        have HK0 : Hid (wr.cell? ⟨w.heap.size, 0, none⟩ = some (.int .u64 n0)) := Lib.hid (block_cell ((hd.block _ hz3).trans HBLK3.out) 0)
        have HB4 := Lib.hid (bnext HB3.out hd)
        have hz4 : w.heap.size < wr.heap.size := Nat.lt_of_lt_of_le hz3 hd.size
        have eT1 : len T ≤ 95 := by omega
        have eL1 : len L ≤ 30 := by omega
        have eC1 : len C ≤ 60 := by omega
        obtain ⟨W, hW⟩ : ∃ W, W = wr := ⟨_, rfl⟩
        subst hW
        clear ho htu HBLK3 HB3 HLW HCW hz3 hk hd HG HO hkL eT Q0 HN
        go_wp2
        clear hlt' hlt hk0
        go_loopg [10] (len T) (fun g i wx => ∃ k : Nat, g + k = len T ∧ i = .int .i64 k ∧ Below W.heap.size W wx)
        case atStart => exact ⟨0, rfl, rfl, Below.refl _ _⟩
        case round =>
          obtain ⟨k, hk0, rfl, hd⟩ := hrel
          obtain ⟨GK, hGK⟩ : ∃ G, G = gk := ⟨_, rfl⟩
          subst hGK
          by_cases hlt : k < len T
          · have b0 : (k : Int) < len T := (by omega)
            go_wp2
            go_loopg [11, 12] (len L) (fun g m j wx => ∃ n : Nat, ∃ q : Int, g + n = len L ∧ j = .int .i64 n ∧ m = .int .i64 q ∧ Hid (Fell L (nth T k) n q) ∧ Below W.heap.size W wx)
            case atStart => exact ⟨0, 0, rfl, rfl, rfl, Fell.zero _ _, by (repeat (first | exact Below.refl _ _ | assumption | (refine bdrew ?_) | (refine bdrewN ?_ _) | (refine balloc ?_ _) | (refine bset ?_ (by first | omega | (simp; done) | (simp; omega)) _) | (refine bnext ?_ (by assumption))))⟩
            case round =>
              obtain ⟨n, q, hn0, rfl, rfl, hF, hd2⟩ := hrel
              by_cases hlt2 : n < len L
              · obtain ⟨b, off, rfl, c0, c1, c2, c3⟩ := HL4.out.below hd2 n hlt2
                obtain ⟨bt, ot, rfl, ct⟩ := HTW.out.below hd2 k hlt
                have b1 : (n : Int) < len L := (by omega)
                by_cases hh : fallB (onth L n) (nth T k) = true
                · obtain ⟨rfl, hF2⟩ := hF.out.more AP.out HLO.out hlt2 hh
                  have HF2 := Lib.hid hF2
                  clear hF hF2
                  go_wp2
                  go_still_tail 8, (by kernel_rfl)
                  clear c0 c1 c2 c3 ct
                  go_wp2_with (go_at_call 12; refine (falls_any (onth L n) (nth T k) _ (HLO.out n) (HTR.out k).1 (HTR.out k).2).mono ?_; rintro e w6 ⟨rfl, hb⟩)
                  go_roundg (gk - 1)
                  case rel => exact ⟨n + 1, 1, by omega, by go_num, by go_num, HF2.out, by (repeat (first | exact Below.refl _ _ | assumption | (refine bdrew ?_) | (refine bdrewN ?_ _) | (refine balloc ?_ _) | (refine bset ?_ (by first | omega | (simp; done) | (simp; omega)) _) | (refine bnext ?_ (by assumption))))⟩
                  case measure => omega
                · have HF2 := Lib.hid hF.out.same
                  simp only [Bool.not_eq_true] at hh
                  clear hF
                  go_wp2
                  go_still_tail 8, (by kernel_rfl)
                  clear c0 c1 c2 c3 ct
                  go_wp2_with (go_at_call 12; refine (falls_any (onth L n) (nth T k) _ (HLO.out n) (HTR.out k).1 (HTR.out k).2).mono ?_; rintro e w6 ⟨rfl, hb⟩)
                  go_roundg (gk - 1)
                  case rel => exact ⟨n + 1, q, by omega, by go_num, rfl, HF2.out, by (repeat (first | exact Below.refl _ _ | assumption | (refine bdrew ?_) | (refine bdrewN ?_ _) | (refine balloc ?_ _) | (refine bset ?_ (by first | omega | (simp; done) | (simp; omega)) _) | (refine bnext ?_ (by assumption))))⟩
                  case measure => omega
              · have b1 : ¬ (n : Int) < len L := (by omega)
                obtain ⟨bt, ot, rfl, ct⟩ := HTW.out.below hd2 k hlt
                have k0 : _ = _ := (hd2.cell (p := ⟨w.heap.size, 0, none⟩) hz4).trans HK0.out
                rcases hF.out with rfl | ⟨rfl, j, hj, hf⟩
                · go_wp2
                  go_quiet (fail)
                  go_wp2
                  go_roundg (GK - 1)
                  case rel => exact ⟨k + 1, by omega, by go_num, by (repeat (first | exact Below.refl _ _ | assumption | (refine bdrew ?_) | (refine bdrewN ?_ _) | (refine balloc ?_ _) | (refine bset ?_ (by first | omega | (simp; done) | (simp; omega)) _) | (refine bnext ?_ (by assumption))))⟩
                  case measure => omega
                · have hu : ¬ nth T k ≥ n0 := (by have := AP.out.under HLO.out (by omega) hf; omega)
                  have hu2 : nth T k < n0 := (by omega)
                  clear hf
                  go_wp2
                  go_quiet (fail)
                  go_wp2
                  go_roundg (GK - 1)
                  case rel => exact ⟨k + 1, by omega, by go_num, by (repeat (first | exact Below.refl _ _ | assumption | (refine bdrew ?_) | (refine bdrewN ?_ _) | (refine balloc ?_ _) | (refine bset ?_ (by first | omega | (simp; done) | (simp; omega)) _) | (refine bnext ?_ (by assumption))))⟩
                  case measure => omega
          · have b0 : ¬ (k : Int) < len T := (by omega)
            clear hlt
            go_wp2
            go_loopg [13] (len L) (fun g i wx => ∃ k : Nat, g + k = len L ∧ i = .int .i64 k ∧ Below W.heap.size W wx)
            case atStart => exact ⟨0, rfl, rfl, by (repeat (first | exact Below.refl _ _ | assumption | (refine bdrew ?_) | (refine bdrewN ?_ _) | (refine balloc ?_ _) | (refine bset ?_ (by first | omega | (simp; done) | (simp; omega)) _) | (refine bnext ?_ (by assumption))))⟩
            case round =>
              clear b0 hk0 hd
              obtain ⟨i, hi0, rfl, hd⟩ := hrel
              obtain ⟨GK, hGK⟩ : ∃ G, G = gk := ⟨_, rfl⟩
              subst hGK
              by_cases hlt : i < len L
              · have b0 : (i : Int) < len L := (by omega)
                go_wp2
                go_loopg [14, 15] (len C) (fun g s j wx => ∃ n : Nat, ∃ q : Bool, g + n = len C ∧ j = .int .i64 n ∧ s = .bool q ∧ Hid (Hit (fun m => nth C m = (onth L i).pos) n q) ∧ Below W.heap.size W wx)
                case atStart => exact ⟨0, false, rfl, rfl, rfl, Hit.zero _, by (repeat (first | exact Below.refl _ _ | assumption | (refine bdrew ?_) | (refine bdrewN ?_ _) | (refine balloc ?_ _) | (refine bset ?_ (by first | omega | (simp; done) | (simp; omega)) _) | (refine bnext ?_ (by assumption))))⟩
                case round =>
                  obtain ⟨n, q, hn0, rfl, rfl, hF, hd2⟩ := hrel
                  obtain ⟨b, off, rfl, c0, -, -, -⟩ := HL4.out.below hd2 i hlt
                  by_cases hlt2 : n < len C
                  · obtain ⟨bc, oc, rfl, ct⟩ := HC4.out.below hd2 n hlt2
                    have b1 : (n : Int) < len C := (by omega)
                    by_cases hh : nth C n = (onth L i).pos
                    · have HF2 := Lib.hid (Hit.yes (f := fun m => nth C m = (onth L i).pos) hh)
                      clear hF
                      cases q
                      all_goals
                        go_wp2
                        go_quiet (fail)
                        go_wp2
                        go_roundg (gk - 1)
                        case rel => exact ⟨n + 1, true, by omega, by go_num, rfl, HF2.out, by (repeat (first | exact Below.refl _ _ | assumption | (refine bdrew ?_) | (refine bdrewN ?_ _) | (refine balloc ?_ _) | (refine bset ?_ (by first | omega | (simp; done) | (simp; omega)) _) | (refine bnext ?_ (by assumption))))⟩
                        case measure => omega
                    · cases q
                      · have HF2 := Lib.hid (hF.out.no hh)
                        clear hF
                        go_wp2
                        go_quiet (fail)
                        go_wp2
                        go_roundg (gk - 1)
                        case rel => exact ⟨n + 1, false, by omega, by go_num, congrArg Value.bool (beq_false_of_ne hh), HF2.out, by (repeat (first | exact Below.refl _ _ | assumption | (refine bdrew ?_) | (refine bdrewN ?_ _) | (refine balloc ?_ _) | (refine bset ?_ (by first | omega | (simp; done) | (simp; omega)) _) | (refine bnext ?_ (by assumption))))⟩
                        case measure => omega
                      · have HF2 := Lib.hid hF.out.was
                        clear hF
                        go_wp2
                        go_quiet (fail)
                        go_wp2
                        go_roundg (gk - 1)
                        case rel => exact ⟨n + 1, true, by omega, by go_num, rfl, HF2.out, by (repeat (first | exact Below.refl _ _ | assumption | (refine bdrew ?_) | (refine bdrewN ?_ _) | (refine balloc ?_ _) | (refine bset ?_ (by first | omega | (simp; done) | (simp; omega)) _) | (refine bnext ?_ (by assumption))))⟩
                        case measure => omega
                  · have b1 : ¬ (n : Int) < len C := (by omega)
                    obtain rfl := hF.out.all (by omega) (AP.out.has i hlt)
                    clear hF
                    by_cases hi1 : 0 < i
                    · obtain ⟨b', off', he, d0, -, -, -⟩ := HL4.out.below hd2 (i - 1) (by omega)
                      cases he
                      have i0' : 0 < (i : Int) := (by omega)
                      have i1 : IntKind.i64.wrap ((i : Int) - 1) = (i : Int) - 1 := IntWalk.i64_in _ (by omega)
                      have i2 : 0 ≤ (i : Int) - 1 := (by omega)
                      have i3 : ((i : Int) - 1).toNat = i - 1 := (by omega)
                      have i4 : (i : Int) - 1 < len L := (by omega)
                      have i5 : i - 1 < len L := (by omega)
                      have i6 : ¬ (onth L (i - 1)).pos ≥ (onth L i).pos := (by have := AP.out.rise (i - 1) (by omega); rw [show i - 1 + 1 = i by omega] at this; omega)
                      have i7 : (onth L (i - 1)).pos < (onth L i).pos := (by omega)
                      go_wp2
                      go_quiet (fail)
                      go_wp2
                      go_roundg (GK - 1)
                      case rel => exact ⟨i + 1, by omega, by go_num, by (repeat (first | exact Below.refl _ _ | assumption | (refine bdrew ?_) | (refine bdrewN ?_ _) | (refine balloc ?_ _) | (refine bset ?_ (by first | omega | (simp; done) | (simp; omega)) _) | (refine bnext ?_ (by assumption))))⟩
                      case measure => omega
                    · have i0' : ¬ 0 < (i : Int) := (by omega)
                      go_wp2
                      go_quiet (fail)
                      go_wp2
                      go_roundg (GK - 1)
                      case rel => exact ⟨i + 1, by omega, by go_num, by (repeat (first | exact Below.refl _ _ | assumption | (refine bdrew ?_) | (refine bdrewN ?_ _) | (refine balloc ?_ _) | (refine bset ?_ (by first | omega | (simp; done) | (simp; omega)) _) | (refine bnext ?_ (by assumption))))⟩
                      case measure => omega
              · have b0 : ¬ (i : Int) < len L := (by omega)
                clear hlt
                go_wp2
                go_loopg [16] (len C) (fun g i wx => ∃ k : Nat, g + k = len C ∧ i = .int .i64 k ∧ Below W.heap.size W wx)
                case atStart => exact ⟨0, rfl, rfl, by (repeat (first | exact Below.refl _ _ | assumption | (refine bdrew ?_) | (refine bdrewN ?_ _) | (refine balloc ?_ _) | (refine bset ?_ (by first | omega | (simp; done) | (simp; omega)) _) | (refine bnext ?_ (by assumption))))⟩
                case round =>
                  clear b0 hi0 hd
                  obtain ⟨k, hk0, rfl, hd⟩ := hrel
                  obtain ⟨GK, hGK⟩ : ∃ G, G = gk := ⟨_, rfl⟩
                  subst hGK
                  by_cases hlt : k < len C
                  · have b0 : (k : Int) < len C := (by omega)
                    go_wp2
                    go_loopg [17, 18] (len L) (fun g s j wx => ∃ n : Nat, ∃ q : Bool, g + n = len L ∧ j = .int .i64 n ∧ s = .bool q ∧ Hid (Hit (fun m => nth C k = (onth L m).pos) n q) ∧ Below W.heap.size W wx)
                    case atStart => exact ⟨0, false, rfl, rfl, rfl, Hit.zero _, by (repeat (first | exact Below.refl _ _ | assumption | (refine bdrew ?_) | (refine bdrewN ?_ _) | (refine balloc ?_ _) | (refine bset ?_ (by first | omega | (simp; done) | (simp; omega)) _) | (refine bnext ?_ (by assumption))))⟩
                    case round =>
                      obtain ⟨n, q, hn0, rfl, rfl, hF, hd2⟩ := hrel
                      by_cases hlt2 : n < len L
                      · obtain ⟨b, off, rfl, c0, -, -, -⟩ := HL4.out.below hd2 n hlt2
                        obtain ⟨bc, oc, rfl, ct⟩ := HC4.out.below hd2 k hlt
                        have b1 : (n : Int) < len L := (by omega)
                        by_cases hh : nth C k = (onth L n).pos
                        · have HF2 := Lib.hid (Hit.yes (f := fun m => nth C k = (onth L m).pos) hh)
                          clear hF
                          cases q
                          all_goals
                            go_wp2
                            go_quiet (fail)
                            go_wp2
                            go_roundg (gk - 1)
                            case rel => exact ⟨n + 1, true, by omega, by go_num, rfl, HF2.out, by (repeat (first | exact Below.refl _ _ | assumption | (refine bdrew ?_) | (refine bdrewN ?_ _) | (refine balloc ?_ _) | (refine bset ?_ (by first | omega | (simp; done) | (simp; omega)) _) | (refine bnext ?_ (by assumption))))⟩
                            case measure => omega
                        · cases q
                          · have HF2 := Lib.hid (hF.out.no hh)
                            clear hF
                            go_wp2
                            go_quiet (fail)
                            go_wp2
                            go_roundg (gk - 1)
                            case rel => exact ⟨n + 1, false, by omega, by go_num, congrArg Value.bool (beq_false_of_ne hh), HF2.out, by (repeat (first | exact Below.refl _ _ | assumption | (refine bdrew ?_) | (refine bdrewN ?_ _) | (refine balloc ?_ _) | (refine bset ?_ (by first | omega | (simp; done) | (simp; omega)) _) | (refine bnext ?_ (by assumption))))⟩
                            case measure => omega
                          · have HF2 := Lib.hid hF.out.was
                            clear hF
                            go_wp2
                            go_quiet (fail)
                            go_wp2
                            go_roundg (gk - 1)
                            case rel => exact ⟨n + 1, true, by omega, by go_num, rfl, HF2.out, by (repeat (first | exact Below.refl _ _ | assumption | (refine bdrew ?_) | (refine bdrewN ?_ _) | (refine balloc ?_ _) | (refine bset ?_ (by first | omega | (simp; done) | (simp; omega)) _) | (refine bnext ?_ (by assumption))))⟩
                            case measure => omega
                      · have b1 : ¬ (n : Int) < len L := (by omega)
                        obtain rfl := hF.out.all (by omega) (AP.out.hit k hlt)
                        clear hF
                        go_wp2
                        go_roundg (GK - 1)
                        case rel => exact ⟨k + 1, by omega, by go_num, by (repeat (first | exact Below.refl _ _ | assumption | (refine bdrew ?_) | (refine bdrewN ?_ _) | (refine balloc ?_ _) | (refine bset ?_ (by first | omega | (simp; done) | (simp; omega)) _) | (refine bnext ?_ (by assumption))))⟩
                        case measure => omega
                  · have b0 : ¬ (k : Int) < len C := (by omega)
                    go_wp2
                    go_ret
                    exact ⟨rfl, bnext HB4.out hd⟩
  · go_wp2_with fail
    go_ret
    exact ⟨rfl, HB3.out⟩
end Go.Proofs.Ytmcmapcijncblaa
