/- Contracts of the reference of layer 21: Positions, Shape. -/
import Derived.Test.YtmcmapcijncblaaCertG
import Derived.Deep.RegionHeld3
import Derived.Deep.LoopGhost
namespace Go.Proofs.Ytmcmapcijncblaa
open Go.RowKit

abbrev CertV.cells (c : CertV) : Array Value := #[.string c.root, .int .u64 c.signed, .slice c.ra (len c.revs) c.rc, .slice c.ca (len c.coins) c.cc, .slice c.sa c.sn c.sc, .slice c.pa c.pn c.pc]

set_option maxRecDepth 100000 in
set_option maxHeartbeats 400000 in
theorem refPositions_any (c : CertV) (w : World) (hlen : len c.revs ≤ 17592186044416) (hc : Revs w c.ra c.revs) :
    Calls Try.prog 31 #[c.val] w
      fun e w' => ∃ v, e = .returned v ∧ w'.ownsRow w.heap.size 24 1 v (len c.revs) ((posOf c.revs).map (Value.int .u64)) ∧ Below w.heap.size w w' := by
  have HC := Lib.hid (hc.below (balloc (Below.refl _ _) (.cells c.cells 29)))
  have k2 : (w.alloc (.cells c.cells 29)).cell? ⟨w.heap.size, 2, none⟩ = some (.slice c.ra (len c.revs) c.rc) := by simp
  have hbw : Below w.heap.size w (w.alloc (.cells c.cells 29)) := balloc (Below.refl _ _) _
  have hz : w.heap.size < (w.alloc (.cells c.cells 29)).heap.size := by simp
  clear hc
  obtain ⟨i0, hi, hz0, hz1, hz2⟩ := info_parts info_u64
  go_enter Try.func31, Try.ntmps31
  go_wp2
  generalize (w.alloc (.cells c.cells 29)) = w1 at *
  have K2 := Lib.hid k2
  clear k2
  go_loopw [3, 4] (fun v i wr => ∃ m : Nat, m ≤ len c.revs ∧ i = .int .i64 m ∧ Below w1.heap.size w1 wr ∧ Hid (wr.ownsRow w1.heap.size 24 1 v m ((posOf (c.revs.take m)).map (Value.int .u64)))) (fun _ i _ => len c.revs - (intOf i).toNat)
  case atStart => exact ⟨0, Nat.zero_le _, rfl, Below.refl _ _, World.ownsRow_nil _ _ _ _⟩
  case round =>
    obtain ⟨m, hm, rfl, hd, hk⟩ := hrel
    have k2 : wr.cell? ⟨w.heap.size, 2, none⟩ = some (.slice c.ra (len c.revs) c.rc) := by rw [hd.cell (p := ⟨w.heap.size, 2, none⟩) hz]; exact K2.out
    by_cases hlt : m < len c.revs
    · obtain ⟨b, off, hra, hrat⟩ := HC.out.below hd m hlt
      have c0 := hrat.c0
      clear hrat
      go_wp2_with (at_builtin; refine wpList_append_own _ rfl _ _ 23 rfl w1.heap.size 24 i0 (.int .u64 0) 1 8 Try.underlying23 hi hz0 hz1 hz2 rfl (by decide) _ _ _ rfl (hk.out.alloc _) ⟨wr.heap.size, 0, none⟩ 1 1 [.int .u64 (rnth c.revs m).pos] rfl rfl ?c1 ?c2 ?c3 ?c4 ?c5 ?_)
      case c1 => exact alloc_cells _ #[_] _
      case c2 => intro u hu; simp at hu; subst hu; rfl
      case c3 => unfold maxLen; omega
      case c4 => omega
      case c5 => have := hd.size; simp; omega
      intro v' w2 hown' hgrow _
      have hb2 : Below w1.heap.size w1 w2 := grownBy_below (balloc hd _) hgrow (fun k hk' => (hk.out.lt k hk').1)
      have HO2 := Lib.hid hown'
      clear hown' hgrow c0 k2
      go_wp2
      go_roundw
      case rel => exact ⟨m + 1, by omega, by go_num, hb2, (by
        have e : c.revs.take (m + 1) = c.revs.take m ++ [rnth c.revs m] := by rw [List.take_succ_eq_append_getElem hlt, rnth_eq c.revs m hlt]
        have h := HO2.out
        show World.ownsRow _ _ _ _ _ _ _
        rw [e]; unfold posOf at h ⊢; simpa using h)⟩
      case measure => simp [intOf]; omega
    · go_wp2
      go_ret
      obtain rfl : m = len c.revs := by omega
      have h := hk.out
      rw [take_len] at h
      exact ⟨_, rfl, ⟨h.1, h.2.imp id (fun ⟨g, cap, cur, h1, h2, h3⟩ => ⟨g, cap, cur, h1, by omega, h3⟩)⟩, bnext hbw hd⟩

theorem subB_true {a b : List Int} {n : Nat} (hn : len a ≤ n) (h : ∀ j, j < n → memB (nth a j) b = true) : subB a b = true := by
  unfold subB; simp only [decide_eq_true_eq]
  intro x hx
  obtain ⟨i, hi, e⟩ := List.getElem_of_mem hx
  have := h i (by rw [len_eq] at hn; omega)
  rw [nth_eq a i hi, e] at this
  unfold memB at this; simpa using this
theorem subB_false {a b : List Int} {i : Nat} (hi : i < len a) (h : memB (nth a i) b = false) : subB a b = false := by
  unfold subB; simp only [decide_eq_false_iff_not]
  intro H
  have := H (nth a i) (by rw [nth_eq a i hi]; exact List.getElem_mem hi)
  unfold memB at h; simp only [decide_eq_false_iff_not] at h; exact h this

theorem nth_posOf {l : List Rev} {i : Nat} (h : i < len l) : nth (posOf l) i = (rnth l i).pos := by
  rw [nth_eq _ i (by simp only [posOf, List.length_map]; exact h), rnth_eq l i h]; simp only [posOf, List.getElem_map]; rfl

theorem outB_nil (n : Int) : outB [] n = false := rfl
theorem outB_one (r : Rev) (n : Int) : outB [r] n = !withinB r.L r.wt n := by
  unfold outB outIdx
  cases h : withinB r.L r.wt n <;> simp [List.findIdx?_cons, h]

theorem lastB_eq {c : CertV} {k : Nat} (h : len c.revs = k + 1) : lastB c = !withinB (rnth c.revs k).L (rnth c.revs k).wt c.signed := by
  unfold lastB
  have hlt : k < c.revs.length := by rw [← len_eq]; omega
  have e1 : c.revs.length - 1 = k := by rw [← len_eq]; omega
  rw [e1, List.drop_eq_getElem_cons hlt, List.drop_eq_nil_of_le (by rw [← len_eq]; omega), ← rnth_eq c.revs k hlt, outB_one]
theorem lastB_nil {c : CertV} (h : len c.revs = 0) : lastB c = false := by
  unfold lastB
  rw [List.eq_nil_of_length_eq_zero h]; rfl

/-- The i-th reveal stands as it should. -/
def okAt (c : CertV) (i : Nat) : Prop :=
  (i + 1 < len c.revs → (rnth c.revs i).pos < (rnth c.revs (i + 1)).pos ∧ withinB (rnth c.revs i).L (rnth c.revs i).wt (rnth c.revs (i + 1)).L = true) ∧
  (i + 1 = len c.revs → withinB (rnth c.revs i).L (rnth c.revs i).wt c.signed = true)

theorem shapeOf_ok {c : CertV} {most : Int} {n : Nat} (h1 : moreB c most = false) (h2 : subB (posOf c.revs) c.coins = true) (h3 : subB c.coins (posOf c.revs) = true)
    (hn : len c.revs ≤ n) (h : ∀ j, j < n → okAt c j) : shapeOf c most = 0 := by
  have r1 : riseB (posOf c.revs) = true := by
    refine riseB_true (n := len (posOf c.revs)) (Nat.le_refl _) fun i hi => ?_
    rw [len_posOf] at hi
    rw [nth_posOf (by omega), nth_posOf (by omega)]
    exact ((h i (by omega)).1 hi).1
  have r2 : apartB c.revs = true := apartB_true (n := len c.revs) (Nat.le_refl _) fun i hi => ((h i (by omega)).1 hi).2
  have r3 : lastB c = false := by
    rcases Nat.eq_zero_or_pos (len c.revs) with h0 | h0
    · exact lastB_nil h0
    · rw [lastB_eq (k := len c.revs - 1) (by omega), (h (len c.revs - 1) (by omega)).2 (by omega)]; rfl
  unfold shapeOf; simp [h1, h2, h3, r1, r2, r3]
theorem shapeOf_rise {c : CertV} {most : Int} {i : Nat} (h1 : moreB c most = false) (h2 : subB (posOf c.revs) c.coins = true) (h3 : subB c.coins (posOf c.revs) = true)
    (hi : i + 1 < len c.revs) (h : nth (posOf c.revs) (i + 1) ≤ nth (posOf c.revs) i) : shapeOf c most = 5 := by
  have r1 : riseB (posOf c.revs) = false := riseB_false (i := i) (by rw [len_posOf]; exact hi) (by omega)
  unfold shapeOf; simp [h1, h2, h3, r1]
theorem shapeOf_apart {c : CertV} {most : Int} {i : Nat} (h1 : moreB c most = false) (h2 : subB (posOf c.revs) c.coins = true) (h3 : subB c.coins (posOf c.revs) = true)
    (hi : i + 1 < len c.revs) (h : withinB (rnth c.revs i).L (rnth c.revs i).wt (rnth c.revs (i + 1)).L = false) : shapeOf c most = 5 := by
  unfold shapeOf; simp [h1, h2, h3, apartB_false hi h]
theorem shapeOf_last {c : CertV} {most : Int} {i : Nat} (h1 : moreB c most = false) (h2 : subB (posOf c.revs) c.coins = true) (h3 : subB c.coins (posOf c.revs) = true)
    (hi : i + 1 = len c.revs) (h : withinB (rnth c.revs i).L (rnth c.revs i).wt c.signed = false) : shapeOf c most = 5 := by
  unfold shapeOf; simp [h1, h2, h3, lastB_eq hi.symm, h]
theorem withinB_f1 {L wt n : Int} (h : wt = 0) : withinB L wt n = false := by unfold withinB; simp; omega
theorem withinB_f2 {L wt n : Int} (h : n < L) (h0 : 0 ≤ wt) : withinB L wt n = false := by unfold withinB; simp; omega
theorem withinB_f3 {L wt n : Int} (h : ((wt == 0) = true ∨ n < L) ∨ n - L < wt) (h0 : 0 ≤ wt) : withinB L wt n = false := by unfold withinB; simp at h ⊢; omega
theorem withinB_t {L wt n : Int} (h : ((wt == 0) = false ∧ L ≤ n) ∧ wt ≤ n - L) (h0 : 0 ≤ wt) : withinB L wt n = true := by unfold withinB; simp at h ⊢; omega
theorem withinB_false {L wt n : Int} (h : wt = 0 ∨ n < L ∨ n - L < wt) (h0 : 0 ≤ wt) : withinB L wt n = false := by unfold withinB; simp; omega
theorem withinB_true {L wt n : Int} (h : ¬ wt = 0) (h2 : wt ≤ n - L) (h0 : 0 ≤ wt) : withinB L wt n = true := by unfold withinB; simp; omega

set_option maxRecDepth 100000 in
set_option maxHeartbeats 400000 in
theorem refShape_more (c : CertV) (most : Int) (w : World) (hok : CertOk w c) (hmore : moreB c most = true) :
    Calls Try.prog 10 #[c.val, .int .i64 most] w fun e w' => e = .returned (.int .i64 7) ∧ Below w.heap.size w w' := by
  have HOK := Lib.hid hok
  clear hok
  go_enter Try.func10, Try.ntmps10
  go_upto_region 1 with fail
  go_cut [24] (fun v wx => v = .bool true ∧ wx = w.alloc (.cells c.cells 29))
  case first =>
    by_cases hm0 : most < 0
    · by_cases h1 : 0 < len c.coins
      · go_wp2_with fail
        go_meet
        exact ⟨rfl, rfl⟩
      · by_cases h2 : 0 < len c.revs
        · go_wp2_with fail
          go_meet
          exact ⟨rfl, rfl⟩
        · exfalso; unfold moreB at hmore; simp only [decide_eq_true_eq] at hmore; omega
    · by_cases h1 : most < len c.coins
      · go_wp2_with fail
        go_meet
        exact ⟨rfl, rfl⟩
      · by_cases h2 : most < len c.revs
        · go_wp2_with fail
          go_meet
          exact ⟨rfl, rfl⟩
        · exfalso; unfold moreB at hmore; simp only [decide_eq_true_eq] at hmore; omega
  case rest =>
    obtain ⟨rfl, rfl⟩ := hcut
    go_wp2
    go_ret
    exact ⟨rfl, by (repeat (first | exact Below.refl _ _ | assumption | (refine bdrew ?_) | (refine bdrewN ?_ _) | (refine balloc ?_ _) | (refine bset ?_ (by first | omega | (simp; done) | (simp; omega)) _) | (refine bnext ?_ (by assumption))))⟩

set_option maxRecDepth 100000 in
set_option maxHeartbeats 2000000 in
theorem refShape_not_more (c : CertV) (most : Int) (w : World) (hok : CertOk w c) (hmore : moreB c most = false) :
    Calls Try.prog 10 #[c.val, .int .i64 most] w fun e w' => e = .returned (.int .i64 (shapeOf c most)) ∧ Below w.heap.size w w' := by
  have HOK := Lib.hid hok
  clear hok
  go_enter Try.func10, Try.ntmps10
  go_upto_region 1 with fail
  go_cut [24] (fun v wx => v = .bool false ∧ wx = w.alloc (.cells c.cells 29))
  case first =>
    unfold moreB at hmore
    simp only [decide_eq_false_iff_not] at hmore
    by_cases hm0 : most < 0
    · have h1 : ¬ 0 < len c.coins := by omega
      have h2 : ¬ 0 < len c.revs := by omega
      go_wp2_with fail
      go_meet
      exact ⟨rfl, rfl⟩
    · have h1 : ¬ most < len c.coins := by omega
      have h2 : ¬ most < len c.revs := by omega
      go_wp2_with fail
      go_meet
      exact ⟨rfl, rfl⟩
  case rest =>
    obtain ⟨rfl, rfl⟩ := hcut
    go_wp2_with fail
    refine (refPositions_any c _ HOK.out.rlen (HOK.out.revs.below (balloc (Below.refl _ _) _))).mono ?_
    rintro e w1 ⟨v, rfl, hv, hb⟩
    obtain ⟨pa, pc, rfl, hpu⟩ := own_u64s hv
    obtain ⟨hc, hf⟩ := bcell hb
    have hz : w.heap.size < w1.heap.size := (by have := hb.size; simp at this; omega)
    have k3 : w1.cell? ⟨w.heap.size, 3, none⟩ = some (.slice c.ca (len c.coins) c.cc) := (by rw [hc _ _ (by simp)]; simp)
    have k2 : w1.cell? ⟨w.heap.size, 2, none⟩ = some (.slice c.ra (len c.revs) c.rc) := (by rw [hc _ _ (by simp)]; simp)
    have k1 : w1.cell? ⟨w.heap.size, 1, none⟩ = some (.int .u64 c.signed) := (by rw [hc _ _ (by simp)]; simp)
    clear hc hf
    have hbb := bnext (balloc (Below.refl _ _) _) hb
    have HPU := Lib.hid hpu
    have HB := Lib.hid hbb
    have HR1 := Lib.hid (HOK.out.revs.below hbb)
    have HC1 := Lib.hid (HOK.out.coins.below hbb)
    have hcl := HOK.out.clen
    have hrl := HOK.out.rlen
    have hpl := len_posOf c.revs
    have HPL := Lib.hid hpl
    have hpl2 : len (posOf c.revs) ≤ 17592186044416 := by omega
    clear hb hbb hv hpu hpl
    go_wp2
    go_loopg [6] (len c.coins) (fun g i wr => ∃ n : Nat, g + n = len c.coins ∧ i = .int .i64 n ∧ w1 = wr ∧ Hid (∀ j, j < n → memB (nth c.coins j) (posOf c.revs) = true))
    case atStart => exact ⟨0, rfl, rfl, rfl, fun j hj => by omega⟩
    case round =>
      obtain ⟨n, hn, rfl, rfl, hk⟩ := hrel
      by_cases hlt : n < len c.coins
      · obtain ⟨b, off, hca, hcell⟩ := HC1.out n hlt
        cases hm : memB (nth c.coins n) (posOf c.revs) with
        | false =>
          have HM := Lib.hid hm
          go_wp2_with (go_at_call 32; refine (named_any _ _ _ (posOf c.revs) _ (by omega) HPU.out).mono ?_; rintro e w' ⟨rfl, rfl⟩)
          go_ret
          exact ⟨ret_int (by unfold shapeOf; rw [subB_false hlt HM.out]; simp [hmore]), HB.out⟩
        | true =>
          have HM := Lib.hid hm
          go_wp2_with (go_at_call 32; refine (named_any _ _ _ (posOf c.revs) _ (by omega) HPU.out).mono ?_; rintro e w' ⟨rfl, rfl⟩)
          simp only [← hca]
          go_roundg (gk - 1)
          case rel => exact ⟨n + 1, by omega, by go_num, rfl, fun j hj => by
            by_cases e : j = n
            · subst e; exact HM.out
            · exact hk.out j (by omega)⟩
          case measure => omega
      · have HS1 : Hid (subB c.coins (posOf c.revs) = true) := subB_true (n := n) (by omega) hk.out
        clear hk hn
        go_wp2
        go_loopg [7] (len (posOf c.revs)) (fun g i wr => ∃ n : Nat, g + n = len (posOf c.revs) ∧ i = .int .i64 n ∧ Drew w1 wr ∧ Hid (∀ j, j < n → memB (nth (posOf c.revs) j) c.coins = true))
        case atStart => exact ⟨0, rfl, rfl, Drew.refl _, fun j hj => by omega⟩
        case round =>
          obtain ⟨n2, hn2, rfl, hd2, hk2⟩ := hrel
          have hb2 := hd2.below w1.heap.size
          have q3 : wr.cell? ⟨w.heap.size, 3, none⟩ = some (.slice c.ca (len c.coins) c.cc) := (by rw [hb2.cell (p := ⟨w.heap.size, 3, none⟩) hz]; exact k3)
          by_cases hlt2 : n2 < len (posOf c.revs)
          · obtain ⟨b2, off2, hpa, hcell2⟩ := (HPU.out.drew hd2) n2 hlt2
            cases hm : memB (nth (posOf c.revs) n2) c.coins with
            | false =>
              have HM := Lib.hid hm
              clear k1 k2 k3
              go_wp2
              go_quiet ((go_at_call 32; go_must (refine Calls.quiet_of_same (named_any _ _ _ c.coins _ (by omega) ((HC1.out.drew hd2).below (below_drewN (Below.refl _ _) _))))))
              go_wp2
              go_ret
              exact ⟨ret_int (by unfold shapeOf; rw [subB_false hlt2 HM.out]; simp [hmore]), bdrewN (bnext HB.out hb2) _⟩
            | true =>
              have HM := Lib.hid hm
              clear k1 k2 k3
              go_wp2
              go_quiet ((go_at_call 32; go_must (refine Calls.quiet_of_same (named_any _ _ _ c.coins _ (by omega) ((HC1.out.drew hd2).below (below_drewN (Below.refl _ _) _))))))
              go_wp2
              go_roundg (gk - 1)
              case rel => exact ⟨n2 + 1, by omega, by go_num, hd2.drewN _, fun j hj => by
                by_cases e : j = n2
                · subst e; exact HM.out
                · exact hk2.out j (by omega)⟩
              case measure => omega
          · have HS2 : Hid (subB (posOf c.revs) c.coins = true) := subB_true (n := n2) (by omega) hk2.out
            clear hk2 hn2 q3
            go_wp2
            obtain ⟨w2, rfl⟩ : ∃ wo : World, wo = wr := ⟨_, rfl⟩
            have hzz : w.heap.size < w2.heap.size := (by have := hb2.size; omega)
            have hbw2 := bnext HB.out hb2
            have j2 : w2.cell? ⟨w.heap.size, 2, none⟩ = some (.slice c.ra (len c.revs) c.rc) := (by rw [hb2.cell (p := ⟨w.heap.size, 2, none⟩) hz]; exact k2)
            have j1 : w2.cell? ⟨w.heap.size, 1, none⟩ = some (.int .u64 c.signed) := (by rw [hb2.cell (p := ⟨w.heap.size, 1, none⟩) hz]; exact k1)
            have J1 := Lib.hid j1
            have J2 := Lib.hid j2
            have HR2 := Lib.hid (HR1.out.below hb2)
            have HP2 := Lib.hid (HPU.out.below hb2)
            have HBW := Lib.hid hbw2
            clear j1 j2 k1 k2 k3 hb2 hbw2 hd2 HB HR1 HC1 HPU
            go_loopg [8] (len c.revs) (fun g i wr => ∃ n : Nat, g + n = len c.revs ∧ i = .int .i64 n ∧ Below w2.heap.size w2 wr ∧ Hid (∀ j, j < n → okAt c j))
            case atStart => exact ⟨0, rfl, rfl, Below.refl _ _, fun j hj => by omega⟩
            case round =>
              obtain ⟨n3, hn3, rfl, hd3, hk3⟩ := hrel
              have j2 : wr.cell? ⟨w.heap.size, 2, none⟩ = some (.slice c.ra (len c.revs) c.rc) := (by rw [hd3.cell (p := ⟨w.heap.size, 2, none⟩) hzz]; exact J2.out)
              have j1 : wr.cell? ⟨w.heap.size, 1, none⟩ = some (.int .u64 c.signed) := (by rw [hd3.cell (p := ⟨w.heap.size, 1, none⟩) hzz]; exact J1.out)
              have hzr : w.heap.size < wr.heap.size := (by have := hd3.size; omega)
              have hplr : len (posOf c.revs) = len c.revs := HPL.out
              have HPLR := Lib.hid hplr
              by_cases hlt3 : n3 < len c.revs
              · obtain ⟨b3, off3, hra, ⟨c0, c1, c2, c3, c4, c5, c6, c7, c8, c9, c10⟩⟩ := HR2.out.below hd3 n3 hlt3
                have o1 := HOK.out.ok n3
                have o1a := o1.L0
                have o1b := o1.wt0
                have o1c := o1.wt1
                have hlt3' : n3 < len (posOf c.revs) := (by omega)
                clear hplr
                by_cases hlast : n3 + 1 < len c.revs
                · have hlast' : (n3 : Int) + 1 < len (posOf c.revs) := (by have := HPLR.out; omega)
                  obtain ⟨b4, off4, hra4, hrat4⟩ := HR2.out.below hd3 (n3 + 1) hlast
                  rw [hra] at hra4
                  cases hra4
                  have d1 := hrat4.c1
                  have s1 := (HOK.out.ok (n3 + 1)).L1
                  have hlast'' : n3 + 1 < len (posOf c.revs) := (by omega)
                  obtain ⟨b5, off5, hpa5, e1⟩ := HP2.out.below hd3 n3 (by have := HPLR.out; omega)
                  subst hpa5
                  obtain ⟨b6, off6, hpa6, e2⟩ := HP2.out.below hd3 (n3 + 1) (by have := HPLR.out; omega)
                  cases hpa6
                  clear hrat4
                  have l1 := lt_of_cell d1
                  have l2 := lt_of_cell e1
                  cases hris : decide (nth (posOf c.revs) (n3 + 1) ≤ nth (posOf c.revs) n3) with
                  | true =>
                    have HRIS := Lib.hid hris
                    go_wp2
                    have i1 : IntKind.i64.wrap (n3 : Int) = n3 := (IntWalk.i64_in _ (by omega)); have i2 : 0 ≤ (n3 : Int) + 1 := (by omega); have i3 : ((n3 : Int) + 1).toNat = n3 + 1 := (by omega)
                    go_quiet (fail)
                    clear i1 i2 i3
                    go_wp2
                    go_ret
                    exact ⟨ret_int (shapeOf_rise hmore HS2.out HS1.out (i := n3) hlast (by simpa using HRIS.out)).symm, bnext HBW.out (by (repeat (first | exact Below.refl _ _ | assumption | (refine bdrew ?_) | (refine bdrewN ?_ _) | (refine balloc ?_ _) | (refine bset ?_ (by first | omega | (simp; done) | (simp; omega)) _) | (refine bnext ?_ (by assumption)))))⟩
                  | false =>
                    have HRIS := Lib.hid hris
                    go_wp2
                    have i1 : IntKind.i64.wrap (n3 : Int) = n3 := (IntWalk.i64_in _ (by omega)); have i2 : 0 ≤ (n3 : Int) + 1 := (by omega); have i3 : ((n3 : Int) + 1).toNat = n3 + 1 := (by omega)
                    go_quiet (fail)
                    clear i1 i2 i3
                    go_wp2
                    all_goals first
                      | (simp only [← hra]
                         go_roundg (gk - 1)
                         case rel => exact ⟨n3 + 1, by omega, by go_num, by (repeat (first | exact Below.refl _ _ | assumption | (refine bdrew ?_) | (refine bdrewN ?_ _) | (refine balloc ?_ _) | (refine bset ?_ (by first | omega | (simp; done) | (simp; omega)) _) | (refine bnext ?_ (by assumption)))), fun j hj => by
                           by_cases e : j = n3
                           · subst e
                             exact ⟨fun _ => ⟨by have h := HRIS.out; simp only [decide_eq_false_iff_not] at h; rw [nth_posOf hlt3, nth_posOf hlast] at h; omega, withinB_t ‹_› o1b⟩, fun h => absurd hlast (by omega)⟩
                           · exact hk3.out j (by omega)⟩
                         case measure => omega)
                      | (go_ret
                         refine ⟨ret_int (shapeOf_apart hmore HS2.out HS1.out (i := n3) hlast ?_).symm, bnext HBW.out (by (repeat (first | exact Below.refl _ _ | assumption | (refine bdrew ?_) | (refine bdrewN ?_ _) | (refine balloc ?_ _) | (refine bset ?_ (by first | omega | (simp; done) | (simp; omega)) _) | (refine bnext ?_ (by assumption)))))⟩
                         first | exact withinB_f1 ‹_› | exact withinB_f2 ‹_› o1b | exact withinB_f3 ‹_› o1b)
                · have hlast' : ¬ (n3 : Int) + 1 < len (posOf c.revs) := (by have := HPLR.out; omega)
                  have s1 := HOK.out.s1
                  go_wp2
                  all_goals first
                    | (simp only [← hra]
                       go_roundg (gk - 1)
                       case rel => exact ⟨n3 + 1, by omega, by go_num, by (repeat (first | exact Below.refl _ _ | assumption | (refine bdrew ?_) | (refine bdrewN ?_ _) | (refine balloc ?_ _) | (refine bset ?_ (by first | omega | (simp; done) | (simp; omega)) _) | (refine bnext ?_ (by assumption)))), fun j hj => by
                         by_cases e : j = n3
                         · subst e; exact ⟨fun h => absurd h hlast, fun _ => withinB_t ‹_› o1b⟩
                         · exact hk3.out j (by omega)⟩
                       case measure => omega)
                    | (go_ret
                       refine ⟨ret_int (shapeOf_last hmore HS2.out HS1.out (i := n3) (by omega) ?_).symm, bnext HBW.out (by (repeat (first | exact Below.refl _ _ | assumption | (refine bdrew ?_) | (refine bdrewN ?_ _) | (refine balloc ?_ _) | (refine bset ?_ (by first | omega | (simp; done) | (simp; omega)) _) | (refine bnext ?_ (by assumption)))))⟩
                       first | exact withinB_f1 ‹_› | exact withinB_f2 ‹_› o1b | exact withinB_f3 ‹_› o1b)
              · clear hplr
                have hlt3' : ¬ n3 < len (posOf c.revs) := (by have := HPLR.out; omega)
                go_wp2
                go_ret
                exact ⟨ret_int (shapeOf_ok hmore HS2.out HS1.out (n := n3) (by omega) hk3.out).symm, bnext HBW.out hd3⟩

theorem refShape_any (c : CertV) (most : Int) (w : World) (hok : CertOk w c) :
    Calls Try.prog 10 #[c.val, .int .i64 most] w fun e w' => e = .returned (.int .i64 (shapeOf c most)) ∧ Below w.heap.size w w' := by
  cases h : moreB c most with
  | true => exact (refShape_more c most w hok h).mono fun e w' ⟨h1, h2⟩ => ⟨by rw [h1]; unfold shapeOf; simp [h], h2⟩
  | false => exact refShape_not_more c most w hok h
end Go.Proofs.Ytmcmapcijncblaa
