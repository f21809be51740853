/- Contract: Shape. -/
import Derived.Test.YtihiaopilnjonaaGreatDoorCertF
import Derived.Deep.RegionWith
import Derived.Deep.DeepCutAuto
namespace Go.Proofs.YtihiaopilnjonaaGreatDoor
open Go.RowKit

theorem Rev.zero_ok : Rev.Ok Rev.zero := ⟨by decide, by decide, by decide, by decide, by decide, by decide⟩

/-- More coins or reveals than the most. -/
def moreB (c : CertV) (most : Int) : Bool := decide (((max (len c.coins) (len c.revs) : Nat) : Int) > max most 0)
/-- The last reveal does not end ahead of Signed. -/
def lastB (c : CertV) : Bool := outB (c.revs.drop (c.revs.length - 1)) c.signed
/-- The shape, as the program computes it. -/
def shapeOf (c : CertV) (most : Int) : Int :=
  bif moreB c most then 7
  else bif (!subB (posOf c.revs) c.coins || !subB c.coins (posOf c.revs)) then 8
  else bif (!riseB (posOf c.revs) || !apartB c.revs || lastB c) then 5 else 0

structure CertOk (w : World) (c : CertV) : Prop where
  revs : Revs w c.ra c.revs
  coins : U64s w c.ca c.coins
  ok : ∀ i, (rnth c.revs i).Ok
  s1 : c.signed < 18446744073709551616
  rlen : len c.revs ≤ 17592186044416
  rcap : len c.revs ≤ c.rc
  clen : len c.coins ≤ 9223372036854775807

set_option maxRecDepth 100000 in
set_option maxHeartbeats 400000 in
theorem shape_more (c : CertV) (most : Int) (w : World) (hok : CertOk w c) (hmore : moreB c most = true) :
    Calls Tryz.prog 63 #[c.val, .int .i64 most] w fun e w' => e = .returned (.int .i64 7) ∧ Below w.heap.size w w' := by
  have HOK := Lib.hid hok
  clear hok
  go_enter Tryz.func63, Tryz.ntmps63
  go_upto_region 1 with fail
  go_cut [20] (fun v wx => v = .bool true ∧ wx = w.alloc (.cells #[.string c.root, .int .u64 c.signed, .slice c.ra (len c.revs) c.rc, .slice c.ca (len c.coins) c.cc, .slice c.sa c.sn c.sc, .slice c.pa c.pn c.pc] 28))
  case first =>
    go_wp2_with fail
    all_goals
      go_meet
      refine ⟨congrArg Value.bool ?_, rfl⟩
      unfold moreB at hmore
      simp only [decide_eq_true_eq] at hmore ⊢
      omega
  case rest =>
    obtain ⟨rfl, rfl⟩ := hcut
    go_wp2
    go_ret
    exact ⟨rfl, by (repeat (first | exact Below.refl _ _ | assumption | (refine bdrew ?_) | (refine bdrewN ?_ _) | (refine balloc ?_ _) | (refine bset ?_ (by first | omega | (simp; done) | (simp; omega)) _) | (refine bnext ?_ (by assumption))))⟩
set_option maxRecDepth 100000 in
set_option maxHeartbeats 400000 in
theorem shape_not_more (c : CertV) (most : Int) (w : World) (hok : CertOk w c) (hmore : moreB c most = false) :
    Calls Tryz.prog 63 #[c.val, .int .i64 most] w fun e w' => e = .returned (.int .i64 (shapeOf c most)) ∧ Below w.heap.size w w' := by
  have HOK := Lib.hid hok
  clear hok
  go_enter Tryz.func63, Tryz.ntmps63
  go_upto_region 1 with fail
  go_cut [20] (fun v wx => v = .bool false ∧ wx = w.alloc (.cells #[.string c.root, .int .u64 c.signed, .slice c.ra (len c.revs) c.rc, .slice c.ca (len c.coins) c.cc, .slice c.sa c.sn c.sc, .slice c.pa c.pn c.pc] 28))
  case first =>
    go_wp2_with fail
    all_goals
      go_meet
      refine ⟨congrArg Value.bool ?_, rfl⟩
      unfold moreB at hmore
      simp only [decide_eq_false_iff_not] at hmore ⊢
      omega
  case rest =>
    obtain ⟨rfl, rfl⟩ := hcut
    go_wp2_with fail
    refine (positions_any c _ HOK.out.rlen (HOK.out.revs.below (balloc (Below.refl _ _) _))).mono ?_
    rintro e w1 ⟨v, rfl, hv, hb⟩
    obtain ⟨pa, pc, rfl, hpu⟩ := own_u64s hv
    obtain ⟨hc, hf⟩ := bcell hb
    have hz : w.heap.size < w1.heap.size := (by have := hb.size; simp at this; omega)
    have k3 : w1.cell? ⟨w.heap.size, 3, none⟩ = some (.slice c.ca (len c.coins) c.cc) := (by rw [hc _ _ (by simp)]; simp)
    have k2 : w1.cell? ⟨w.heap.size, 2, none⟩ = some (.slice c.ra (len c.revs) c.rc) := (by rw [hc _ _ (by simp)]; simp)
    have k1 : w1.cell? ⟨w.heap.size, 1, none⟩ = some (.int .u64 c.signed) := (by rw [hc _ _ (by simp)]; simp)
    clear hc hf
    have hbb := bnext (balloc (Below.refl _ _) _) hb
    have HPU := Lib.hid hpu
    have HB := Lib.hid hbb
    clear hb hbb hv hpu
    go_upto_region 4 with fail
    go_cut [6, 7] (fun s6 s7 wx => ∃ r1 r2 : Nat, s6 = .map (some r1) ∧ s7 = .map (some r2) ∧ Hid (wx.heap[r1]? = some (mObj .u64 (mapOf (posOf c.revs)))) ∧ Hid (wx.heap[r2]? = some (mObj .u64 (mapOf c.coins))) ∧ Below w1.heap.size w1 wx)
    case first =>
      go_region_with (first
        | (go_at_call_of 112 pa; refine (set_any _ _ (posOf c.revs) _ ?_ ?_).mono ?_; (have := HOK.out.rlen; rw [len_posOf]; omega); (exact HPU.out.below (bdrew (Below.refl _ _))); rintro e w2 ⟨rfl, hm1, hb2⟩; have HM1 := Lib.hid hm1; clear hm1; have k3' : w2.cell? ⟨w.heap.size, 3, none⟩ = some (.slice c.ca (len c.coins) c.cc) := (by rw [hb2.cell (p := ⟨w.heap.size, 3, none⟩) hz]; exact k3))
        | (go_at_call_of 112 c.ca; refine (set_any _ _ c.coins _ ?_ ?_).mono ?_; (exact HOK.out.clen); (exact HOK.out.coins.below (bnext (bdrew HB.out) hb2)); rintro e w3 ⟨rfl, hm2, hb3⟩; have HM2 := Lib.hid hm2; clear hm2))
      all_goals
        go_wp2_with fail
        go_meet
        refine ⟨_, _, rfl, rfl, ?_, HM2.out, bnext (bnext (bdrew (Below.refl _ _)) hb2) hb3⟩
        exact (hb3.block _ (lt_of_block HM1.out)).trans HM1.out
    case rest =>
      obtain ⟨r1, r2, rfl, rfl, h1, h2, hb⟩ := hcut
      have hbw := bnext HB.out hb
      have k2' : wc.cell? ⟨w.heap.size, 2, none⟩ = some (.slice c.ra (len c.revs) c.rc) := (by rw [hb.cell (p := ⟨w.heap.size, 2, none⟩) hz]; exact k2)
      have k1' : wc.cell? ⟨w.heap.size, 1, none⟩ = some (.int .u64 c.signed) := (by rw [hb.cell (p := ⟨w.heap.size, 1, none⟩) hz]; exact k1)
      have hz2 : w.heap.size < wc.heap.size := (by have := hb.size; omega)
      have HPU2 := Lib.hid (HPU.out.below hb)
      clear k1 k2 k3 hb HB HPU hz
      cases hp1 : subB (posOf c.revs) c.coins with
      | false =>
        go_wp2_with (go_at_call 113; refine (inside_any r1 r2 (posOf c.revs) c.coins _ h1.out h2.out).mono ?_; rintro e w4 ⟨rfl, hb4⟩)
        go_ret
        exact ⟨ret_int (by unfold shapeOf; simp [hmore, hp1]), bnext hbw hb4⟩
      | true =>
        cases hp2 : subB c.coins (posOf c.revs) with
        | false =>
          go_wp2_with fail
          refine (inside_any r1 r2 (posOf c.revs) c.coins _ h1.out h2.out).mono ?_
          rintro e w4 ⟨rfl, hb4⟩
          go_wp2_with fail
          refine (inside_any r2 r1 c.coins (posOf c.revs) _ ((hb4.block _ (lt_of_block h2.out)).trans h2.out) ((hb4.block _ (lt_of_block h1.out)).trans h1.out)).mono ?_
          rintro e w5 ⟨rfl, hb5⟩
          go_wp2
          go_ret
          exact ⟨ret_int (by unfold shapeOf; simp [hmore, hp1, hp2]), bnext (bnext hbw hb4) hb5⟩
        | true =>
          go_wp2_with fail
          refine (inside_any r1 r2 (posOf c.revs) c.coins _ h1.out h2.out).mono ?_
          rintro e w4 ⟨rfl, hb4⟩
          go_wp2_with fail
          refine (inside_any r2 r1 c.coins (posOf c.revs) _ ((hb4.block _ (lt_of_block h2.out)).trans h2.out) ((hb4.block _ (lt_of_block h1.out)).trans h1.out)).mono ?_
          rintro e w5 ⟨rfl, hb5⟩
          have hb45 : Below wc.heap.size wc w5 := bnext hb4 hb5
          have hbw5 := bnext hbw hb45
          have k2'' : w5.cell? ⟨w.heap.size, 2, none⟩ = some (.slice c.ra (len c.revs) c.rc) := (by rw [hb45.cell (p := ⟨w.heap.size, 2, none⟩) hz2]; exact k2')
          have k1'' : w5.cell? ⟨w.heap.size, 1, none⟩ = some (.int .u64 c.signed) := (by rw [hb45.cell (p := ⟨w.heap.size, 1, none⟩) hz2]; exact k1')
          have hz5 : w.heap.size < w5.heap.size := (by have := hb45.size; omega)
          have HPU5 := Lib.hid (HPU2.out.below hb45)
          clear hb4 hb5 hb45 k1' k2' hz2 HPU2
          go_wp2_with fail
          refine (pairsU_any _ _ (posOf c.revs) _ (by have := HOK.out.rlen; rw [len_posOf]; omega) HPU5.out).mono ?_
          rintro e w6 ⟨rfl, hd6⟩
          have hb6 := hd6.below w5.heap.size
          have hbw6 := bnext hbw5 hb6
          have q2 : w6.cell? ⟨w.heap.size, 2, none⟩ = some (.slice c.ra (len c.revs) c.rc) := (by rw [hb6.cell (p := ⟨w.heap.size, 2, none⟩) hz5]; exact k2'')
          have q1 : w6.cell? ⟨w.heap.size, 1, none⟩ = some (.int .u64 c.signed) := (by rw [hb6.cell (p := ⟨w.heap.size, 1, none⟩) hz5]; exact k1'')
          have hz6 : w.heap.size < w6.heap.size := (by have := hb6.size; omega)
          clear hd6 hb6 k1'' k2'' hz5 HPU5 hbw5
          go_wp2_with fail
          refine (pairsR_any _ _ c.revs _ (by have := HOK.out.rlen; omega) (HOK.out.revs.below hbw6) HOK.out.ok).mono ?_
          rintro e w7 ⟨rfl, hb7⟩
          have hbw7 := bnext hbw6 hb7
          have p2 : w7.cell? ⟨w.heap.size, 2, none⟩ = some (.slice c.ra (len c.revs) c.rc) := (by rw [hb7.cell (p := ⟨w.heap.size, 2, none⟩) hz6]; exact q2)
          have p1 : w7.cell? ⟨w.heap.size, 1, none⟩ = some (.int .u64 c.signed) := (by rw [hb7.cell (p := ⟨w.heap.size, 1, none⟩) hz6]; exact q1)
          have hz7 : w.heap.size < w7.heap.size := (by have := hb7.size; omega)
          have P1 := Lib.hid p1
          have HR7 := Lib.hid (HOK.out.revs.below hbw7)
          clear hb7 q1 q2 hz6 hbw6 hbw p1 h1 h2
          by_cases hnil : len c.revs = 0
          · have hrn : c.revs.drop (c.revs.length - 1) = c.revs := (by rw [← len_eq, hnil]; rfl)
            have HRN := Lib.hid hrn
            clear hrn
            go_wp2_with fail
            have hl0 : c.revs = [] := List.eq_nil_of_length_eq_zero hnil
            have HR8 : Revs w7 c.ra [] := fun i hi => by simp [len] at hi
            refine (containsR_any c.ra c.rc [] w.heap.size c.signed w7 (by simp [len]) HR8 (fun _ => Rev.zero_ok) HOK.out.s1 P1.out).mono ?_
            rintro e w8 ⟨rfl, hb8⟩
            have hlast : outB [] c.signed = lastB c := (by unfold lastB; rw [hl0]; rfl)
            have HW8 := Lib.hid (bnext hbw7 hb8)
            clear hl0 HR8 hb8 hbw7 p2
            cases hq1 : riseB (posOf c.revs) <;> cases hq2 : apartB c.revs <;> cases hq3 : lastB c <;> (go_wp2; go_ret; exact ⟨ret_int (by unfold shapeOf; simp [hmore, hp1, hp2, hq1, hq2, hq3]), HW8.out⟩)
          · obtain ⟨k, hlen⟩ : ∃ k, len c.revs = k + 1 := ⟨len c.revs - 1, by omega⟩
            have hlt : k < len c.revs := by omega
            obtain ⟨b, off, hra, hrat⟩ := HR7.out k hlt
            have hcap1 : k + 1 ≤ c.rc := by have := HOK.out.rcap; omega
            have hcap2 : ¬ c.rc = k := by omega
            have hbig : k < 17592186044416 := by have := HOK.out.rlen; omega
            have HRAT := Lib.hid hrat
            clear hrat hnil hlt
            go_wp2_with fail
            have HR8 : Revs w7 (some ⟨b, off + k * 11, none⟩) [rnth c.revs k] := fun i hi => by
              obtain rfl : i = 0 := by simp [len] at hi; exact hi
              exact ⟨b, off + k * 11, rfl, HRAT.out⟩
            refine (containsR_any _ _ [rnth c.revs k] w.heap.size c.signed w7 (by simp [len]) HR8 (fun i => ?_) HOK.out.s1 P1.out).mono ?_
            · cases i with
              | zero => exact HOK.out.ok k
              | succ i => exact Rev.zero_ok
            rintro e w8 ⟨rfl, hb8⟩
            have hlast : outB [rnth c.revs k] c.signed = lastB c := (by
              unfold lastB
              have hlt : k < len c.revs := by omega
              have e : c.revs.drop (c.revs.length - 1) = [rnth c.revs k] := by
                have e1 : c.revs.length - 1 = k := by rw [← len_eq]; omega
                rw [e1, List.drop_eq_getElem_cons hlt, List.drop_eq_nil_of_le (by rw [← len_eq]; omega), rnth_eq c.revs k hlt]
              rw [e])
            have HW8 := Lib.hid (bnext hbw7 hb8)
            clear HR8 hb8 hbw7 p2 hcap1 hcap2 hbig hlen hra
            cases hq1 : riseB (posOf c.revs) <;> cases hq2 : apartB c.revs <;> cases hq3 : lastB c <;> (go_wp2; go_ret; exact ⟨ret_int (by unfold shapeOf; simp [hmore, hp1, hp2, hq1, hq2, hq3]), HW8.out⟩)

theorem shape_any (c : CertV) (most : Int) (w : World) (hok : CertOk w c) :
    Calls Tryz.prog 63 #[c.val, .int .i64 most] w fun e w' => e = .returned (.int .i64 (shapeOf c most)) ∧ Below w.heap.size w w' := by
  cases h : moreB c most with
  | true => exact (shape_more c most w hok h).mono fun e w' ⟨h1, h2⟩ => ⟨by rw [h1]; unfold shapeOf; simp [h], h2⟩
  | false => exact shape_not_more c most w hok h
end Go.Proofs.YtihiaopilnjonaaGreatDoor
