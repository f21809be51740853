/- The reference of layer 6: what is taken. -/
import Derived.Test.YtmcmapcijncblaaDoorUnpG
namespace Go.Proofs.YtmcmapcijncblaaDoor
set_option linter.unusedSimpArgs false
set_option linter.unusedVariables false
open Go.RowKit

/-- A block of the reference's reader. -/
def RefB (w : World) (b : Nat) (s : ByteArray) (a : Nat) (most : Int) : Prop := w.heap[b]? = some (.cells #[.string s, .int .i64 a, .int .i64 most] 28 (0, 0))
def RTakeIs (res : Except Int (Int × ByteArray × Nat)) (b : Nat) (s : ByteArray) (most : Int) (a : Nat) (w : World) (e : Ending) (w' : World) : Prop :=
  ExtB (some b) w w' ∧ match res with
    | .ok x => e = .returned (.tuple #[.int .u64 x.1, .string x.2.1, .int .i64 0]) ∧ RefB w' b s x.2.2 most
    | .error k => e = .returned (.tuple #[.int .u64 0, .string ⟨#[]⟩, .int .i64 k]) ∧ RefB w' b s a most

theorem rowsOf_ok (sort : Nat) : ∀ i, (unth (rowsOf sort) i).Ok := by
  unfold rowsOf
  split
  · exact binsL_ok
  · exact strsL_ok
  · exact listsL_ok
  · exact pairsL_ok
  · exact numsL_ok

theorem ref_cases (sort : Nat) (t : ByteArray) (h : 0 < t.size) :
    (refRowOf sort (byte t 0) = (-1, 0, 0) ∧ headOf t (rowsOf sort) = .error 5) ∨
    (∃ r : URow, ∃ q : Nat, r.Ok ∧ r.lo ≤ byte t 0 ∧ r.size = q ∧ q ≤ 8 ∧ refRowOf sort (byte t 0) = ((q : Int), numAt t r 0, r.least) ∧
      headOf t (rowsOf sort) = if (t.size : Int) < 1 + q then .error 4 else if numAt t r q < r.least then .error 5 else .ok (numAt t r q, t.extract (1 + q) t.size)) := by
  unfold refRowOf
  cases hf : (rowsOf sort).find? (fun r => decide (r.lo ≤ byte t 0) && decide (byte t 0 ≤ r.hi)) with
  | none =>
    refine .inl ⟨rfl, ?_⟩
    unfold headOf
    rw [if_neg (by omega), hf]
  | some r =>
    have hp := List.find?_some hf
    obtain ⟨i, hi, he⟩ := List.getElem_of_mem (List.mem_of_find?_eq_some hf)
    have ok := rowsOf_ok sort i
    rw [unth_eq _ i hi, he] at ok
    simp only [Bool.and_eq_true, decide_eq_true_eq] at hp
    have k1 := ok.sz0
    have k2 := ok.sz1
    obtain ⟨q, hq⟩ : ∃ q : Nat, r.size = q := ⟨r.size.toNat, by omega⟩
    refine .inr ⟨r, q, ok, hp.1, hq, by omega, ?_, ?_⟩
    · show (r.size, _, _) = _
      rw [hq]
      unfold numAt
      by_cases h0 : r.size = 0
      · rw [if_pos (by omega), if_pos h0]
      · rw [if_neg (by omega), if_neg h0]; rfl
    · rw [head_row h hf]
      unfold numAt
      rw [hq]
      simp only [Int.toNat_natCast]

theorem ext_ext (t : ByteArray) (i n : Nat) (h : i + n ≤ t.size) : (t.extract i t.size).extract 0 n = t.extract i (i + n) := by
  apply ByteArray.ext
  apply Array.ext'
  rw [Lib.extract_data, Lib.extract_data, Lib.extract_data, List.drop_zero, List.take_take]
  congr 1
  omega

theorem ext_set1 {w w1 : World} {b : Nat} (h : ExtB (some b) w w1) (v : Value) : ExtB (some b) w (w1.setCell ⟨b, 1, none⟩ v) :=
  ⟨h.os, h.tape, h.output, by simpa using h.size, fun i hi hn => by rw [Below.heap_setCell _ _ _ _ (by show i ≠ b; exact fun e => hn (by rw [e]))]; exact h.block i hi hn⟩
theorem byte_at (t : ByteArray) (j : Nat) (h : j + 1 < t.size) : (t[j + 1].toNat : Int) = byte t (1 + j) := by
  unfold byte
  rw [Nat.add_comm 1 j, List.getD_eq_getElem?_getD, List.getElem?_eq_getElem (by simpa using h)]; rfl

set_option maxRecDepth 100000 in
set_option maxHeartbeats 2000000 in
theorem refTake_any (w : World) (b : Nat) (s : ByteArray) (a : Nat) (most : Int) (sort : Nat) (h : RefB w b s a most) (ha : a ≤ s.size) (hs : s.size ≤ 140737488355328) (hm0 : 0 ≤ most) (hm1 : most ≤ 9223372036854775807) (h5 : sort < 5) :
    Calls Tryd.prog 10 #[.pointer (some ⟨b, 0, none⟩), .int .i64 sort] w (RTakeIs (takeOf sort s a most) b s most a w) := by
  have H := Lib.hid h
  have c0 : w.cell? ⟨b, 0, none⟩ = some (.string s) := block_cell h 0
  have c1 : w.cell? ⟨b, 1, none⟩ = some (.int .i64 a) := block_cell h 1
  have i1 : (a : Int) ≤ s.size := by omega
  have i2 : 0 ≤ (a : Int) := by omega
  have i3 : a ≤ s.size := ha
  clear h
  go_enter Tryd.func10, Tryd.ntmps10
  go_wp2
  --REGION (*sextant/sextantref06.Reader).Take 1 rtake1
  refine wp_region_all 1000 (none) (phis [fun u _ => u = (.pointer (some ⟨b, 0, none⟩)), fun u _ => u = (.pointer (some ⟨b, 0, none⟩)), fun u _ => u = (.pointer (some ⟨b, 0, none⟩)), fun u _ => u = (.string s), fun u _ => u = (.pointer (some ⟨b, 0, none⟩)), fun u _ => u = (.pointer (some ⟨b, 0, none⟩)), fun u _ => u = (.pointer (some ⟨b, 1, none⟩)), fun u _ => u = (.int .i64 a), fun u _ => u = (.string (s.extract a s.size)), fun u _ => u = (.string (s.extract a s.size))]) rfl (by kernel_rfl) (mono_of ⟨mono_eq, mono_eq, mono_eq, mono_eq, mono_eq, mono_eq, mono_eq, mono_eq, mono_eq, mono_eq, trivial⟩) (steps_of 10 ⟨?s0, ?s1, ?s2, ?s3, ?s4, ?s5, ?s6, ?s7, ?s8, ?s9, trivial⟩) ?_
  case s0 =>
    refine step_val (v := (.pointer (some ⟨b, 0, none⟩))) (fun av wv hE hS hO hD => ?_) (fun _ => rfl)
    have h0 : av.eval (.tmp 0) = (.pointer (some ⟨b, 0, none⟩)) := hO.2.2 0 rfl
    have f0 := (ev_form av 0).symm.trans h0
    refine ⟨rfl, ?_⟩
    simp [go_sem, f0, i1, i2, i3]
  case s1 =>
    refine step_val (v := (.pointer (some ⟨b, 0, none⟩))) (fun av wv hE hS hO hD => ?_) (fun _ => rfl)
    have d13 : av.eval (.tmp 13) = (.pointer (some ⟨b, 0, none⟩)) := hD.1 rfl _ rfl
    have f13 := (ev_form av 13).symm.trans d13
    refine ⟨rfl, ?_⟩
    simp [go_sem, f13, i1, i2, i3]
  case s2 =>
    refine step_val (v := (.pointer (some ⟨b, 0, none⟩))) (fun av wv hE hS hO hD => ?_) (fun _ => rfl)
    have d14 : av.eval (.tmp 14) = (.pointer (some ⟨b, 0, none⟩)) := hD.1 rfl _ rfl
    have f14 := (ev_form av 14).symm.trans d14
    refine ⟨rfl, ?_⟩
    simp [go_sem, f14, i1, i2, i3]
  case s3 =>
    refine step_val (v := (.string s)) (fun av wv hE hS hO hD => ?_) (fun _ => rfl)
    have d15 : av.eval (.tmp 15) = (.pointer (some ⟨b, 0, none⟩)) := hD.1 rfl _ rfl
    have f15 := (ev_form av 15).symm.trans d15
    have c0 := extB_cell hE (by simp) c0
    have c1 := extB_cell hE (by simp) c1
    refine ⟨rfl, ?_⟩
    simp [go_sem, f15, c0, c1, i1, i2, i3]
  case s4 =>
    refine step_val (v := (.pointer (some ⟨b, 0, none⟩))) (fun av wv hE hS hO hD => ?_) (fun _ => rfl)
    have h0 : av.eval (.tmp 0) = (.pointer (some ⟨b, 0, none⟩)) := hO.2.2 0 rfl
    have f0 := (ev_form av 0).symm.trans h0
    refine ⟨rfl, ?_⟩
    simp [go_sem, f0, i1, i2, i3]
  case s5 =>
    refine step_val (v := (.pointer (some ⟨b, 0, none⟩))) (fun av wv hE hS hO hD => ?_) (fun _ => rfl)
    have d17 : av.eval (.tmp 17) = (.pointer (some ⟨b, 0, none⟩)) := hD.1 rfl _ rfl
    have f17 := (ev_form av 17).symm.trans d17
    refine ⟨rfl, ?_⟩
    simp [go_sem, f17, i1, i2, i3]
  case s6 =>
    refine step_val (v := (.pointer (some ⟨b, 1, none⟩))) (fun av wv hE hS hO hD => ?_) (fun _ => rfl)
    have d18 : av.eval (.tmp 18) = (.pointer (some ⟨b, 0, none⟩)) := hD.1 rfl _ rfl
    have f18 := (ev_form av 18).symm.trans d18
    refine ⟨rfl, ?_⟩
    simp [go_sem, f18, i1, i2, i3]
  case s7 =>
    refine step_val (v := (.int .i64 a)) (fun av wv hE hS hO hD => ?_) (fun _ => rfl)
    have d19 : av.eval (.tmp 19) = (.pointer (some ⟨b, 1, none⟩)) := hD.1 rfl _ rfl
    have f19 := (ev_form av 19).symm.trans d19
    have c0 := extB_cell hE (by simp) c0
    have c1 := extB_cell hE (by simp) c1
    refine ⟨rfl, ?_⟩
    simp [go_sem, f19, c0, c1, i1, i2, i3]
  case s8 =>
    refine step_val (v := (.string (s.extract a s.size))) (fun av wv hE hS hO hD => ?_) (fun _ => rfl)
    have d16 : av.eval (.tmp 16) = (.string s) := hD.1 rfl _ rfl
    have f16 := (ev_form av 16).symm.trans d16
    have d20 : av.eval (.tmp 20) = (.int .i64 a) := hD.2.1 rfl _ rfl
    have f20 := (ev_form av 20).symm.trans d20
    refine ⟨rfl, ?_⟩
    simp [go_sem, f16, f20, i1, i2, i3]
  case s9 =>
    refine step_val (v := (.string (s.extract a s.size))) (fun av wv hE hS hO hD => ?_) (fun _ => rfl)
    have d21 : av.eval (.tmp 21) = (.string (s.extract a s.size)) := hD.1 rfl _ rfl
    have f21 := (ev_form av 21).symm.trans d21
    refine ⟨rfl, ?_⟩
    simp [go_sem, f21, i1, i2, i3]
  intro a' w' hE hO hall
  have hA := act_of_outer (ds := [13, 14, 15, 16, 17, 18, 19, 20, 21, 7]) rfl hO (by kernel_rfl)
  have e13 : (fun u _ => u = (.pointer (some ⟨b, 0, none⟩))) (a'.eval (.tmp 13)) w' := hall.1 _ rfl
  have e14 : (fun u _ => u = (.pointer (some ⟨b, 0, none⟩))) (a'.eval (.tmp 14)) w' := hall.2.1 _ rfl
  have e15 : (fun u _ => u = (.pointer (some ⟨b, 0, none⟩))) (a'.eval (.tmp 15)) w' := hall.2.2.1 _ rfl
  have e16 : (fun u _ => u = (.string s)) (a'.eval (.tmp 16)) w' := hall.2.2.2.1 _ rfl
  have e17 : (fun u _ => u = (.pointer (some ⟨b, 0, none⟩))) (a'.eval (.tmp 17)) w' := hall.2.2.2.2.1 _ rfl
  have e18 : (fun u _ => u = (.pointer (some ⟨b, 0, none⟩))) (a'.eval (.tmp 18)) w' := hall.2.2.2.2.2.1 _ rfl
  have e19 : (fun u _ => u = (.pointer (some ⟨b, 1, none⟩))) (a'.eval (.tmp 19)) w' := hall.2.2.2.2.2.2.1 _ rfl
  have e20 : (fun u _ => u = (.int .i64 a)) (a'.eval (.tmp 20)) w' := hall.2.2.2.2.2.2.2.1 _ rfl
  have e21 : (fun u _ => u = (.string (s.extract a s.size))) (a'.eval (.tmp 21)) w' := hall.2.2.2.2.2.2.2.2.1 _ rfl
  have e7 : (fun u _ => u = (.string (s.extract a s.size))) (a'.eval (.tmp 7)) w' := hall.2.2.2.2.2.2.2.2.2.1 _ rfl
  simp only [List.foldl_cons, List.foldl_nil, Act.put, List.setIfInBounds_toArray, List.set_cons_succ, List.set_cons_zero, e13, e14, e15, e16, e17, e18, e19, e20, e21, e7] at hA
  clear hO hall e13 e14 e15 e16 e17 e18 e19 e20 e21 e7
  subst hA
  --ENDREGION
  have B1 := Lib.hid (of_drew hE)
  have HB := Lib.hid (extB_block hE (by simp) H.out)
  clear hE c0 c1 i1 i2 i3 H
  obtain ⟨t, ht⟩ : ∃ t, s.extract a s.size = t := ⟨_, rfl⟩
  have hts : t.size = s.size - a := by rw [← ht, ByteArray.size_extract]; omega
  rw [ht]
  have HTT := Lib.hid ht
  clear ht
  by_cases h0 : t.size = 0
  · have he := empty_of h0
    have E : Hid (takeOf sort s a most = .error 4) := Lib.hid (by unfold takeOf headOf; rw [HTT.out, if_pos h0])
    clear hts h0
    go_wp2
    go_ret3
    rw [E.out]
    exact ⟨below_extB B1.out b, rfl, HB.out⟩
  · have he := full_of h0
    have h1 : 0 < t.size := by omega
    have hbb := byte_bd t 0
    have hz' : (t[0].toNat : Int) = byte t 0 := byte0 t h1
    obtain ⟨z, hz⟩ : ∃ z, byte t 0 = z := ⟨_, rfl⟩
    have HTS := Lib.hid hts
    have RC := Lib.hid (ref_cases sort t h1)
    clear hts h0
    rw [hz] at hbb hz'
    have HZ := Lib.hid hz
    clear hz
    have hzt : z.toNat < 256 := by omega
    go_wp2_with fail
    refine (refRow_any sort h5 z _ hbb.1 hbb.2).mono ?_
    rintro e w2 ⟨rfl, rfl⟩
    rcases RC.out with ⟨r1, r2⟩ | ⟨r, q, ok, hlo, hq, hq8, r1, r2⟩
    · rw [HZ.out] at r1
      rw [r1]
      have E : Hid (takeOf sort s a most = .error 5) := Lib.hid (by unfold takeOf; rw [HTT.out, r2])
      clear r1 r2
      go_wp2
      go_ret3
      rw [E.out]
      exact ⟨below_extB B1.out b, rfl, HB.out⟩
    · rw [HZ.out] at r1
      rw [r1]
      have R2 := Lib.hid r2
      have HQ := Lib.hid hq
      have HLO := Lib.hid hlo
      clear r1 r2 hq hlo
      by_cases hsz : (t.size : Int) < 1 + q
      · have E : Hid (takeOf sort s a most = .error 4) := Lib.hid (by unfold takeOf; rw [HTT.out, R2.out, if_pos hsz])
        go_wp2
        go_ret3
        rw [E.out]
        exact ⟨below_extB B1.out b, rfl, HB.out⟩
      · obtain ⟨v0, hv0⟩ : ∃ v0, numAt t r 0 = v0 := ⟨_, rfl⟩
        rw [hv0]
        have HV0 := Lib.hid hv0
        clear hv0
        go_wp2
        go_loopg [9, 11] q (fun g n i wx => ∃ j : Nat, g + j = q ∧ i = .int .i64 (j + 1) ∧ n = .int .u64 (numAt t r j) ∧ wx = w2)
        case atStart => exact ⟨0, rfl, rfl, by rw [HV0.out], rfl⟩
        case round =>
          obtain ⟨j, hj, rfl, rfl, rfl⟩ := hrel
          have vb := numAt_bd (s := t) (r := r) (j := j) (by omega) ok HLO.out
          by_cases hjq : j < q
          · have b0 : (j : Int) + 1 ≤ q := by omega
            have b1 : j + 1 < t.size := by omega
            have b2 : (j : Int) + 1 < t.size := by omega
            have vs := Lib.hid (numAt_succ t r j (by have := HQ.out; omega))
            have vb2 := numAt_lt (s := t) (r := r) (j := j) (by omega) ok HLO.out
            have cb := byte_bd t (1 + j)
            have hx := byte_at t j b1
            obtain ⟨c, hc⟩ : ∃ c, byte t (1 + j) = c := ⟨_, rfl⟩
            obtain ⟨v, hv⟩ : ∃ v, numAt t r j = v := ⟨_, rfl⟩
            rw [hc] at cb hx
            rw [hv] at vb vb2 ⊢
            have HC := Lib.hid hc
            have HV := Lib.hid hv
            clear hc hv
            go_wp2
            go_roundg (gk - 1)
            case rel => exact ⟨j + 1, by omega, by go_num, (by rw [vs.out, HV.out, HC.out, Int.mul_comm v 256]), rfl⟩
            case measure => omega
          · obtain rfl : j = q := by omega
            have hts := HTS.out
            have hr2 : (t.extract (1 + j) t.size).size = t.size - (1 + j) := by rw [ByteArray.size_extract]; omega
            have HO : headOf (s.extract a s.size) (rowsOf sort) = if numAt t r j < r.least then .error 5 else .ok (numAt t r j, t.extract (1 + j) t.size) := by rw [HTT.out, R2.out, if_neg (by omega)]
            obtain ⟨v, hv⟩ : ∃ v, numAt t r j = v := ⟨_, rfl⟩
            rw [hv] at HO vb ⊢
            have d1 : wr.cell? ⟨b, 1, none⟩ = some (.int .i64 a) := block_cell HB.out 1
            have d2 : wr.cell? ⟨b, 2, none⟩ = some (.int .i64 most) := block_cell HB.out 2
            have d3 : wr.frozen? ⟨b, 1, none⟩ = false := block_free HB.out 1
            have im : IntKind.u64.wrap most = most := IntWalk.u64_in _ (by omega)
            have HHO := Lib.hid HO
            have HR2 := Lib.hid hr2
            clear hv HO hr2 HV0 RC R2
            by_cases hvl : v < r.least
            · have E : Hid (takeOf sort s a most = .error 5) := Lib.hid (by unfold takeOf; rw [HHO.out, if_pos hvl])
              go_wp2
              go_ret3
              rw [E.out]
              exact ⟨below_extB B1.out b, rfl, HB.out⟩
            · have HO2 : Hid (headOf (s.extract a s.size) (rowsOf sort) = .ok (v, t.extract (1 + j) t.size)) := Lib.hid (by rw [HHO.out, if_neg hvl])
              by_cases q0 : sort = 0
              · have s0 : ((sort : Int) != 0) = false := by simp; omega
                have s1 : ((sort : Int) != 1) = true := by simp; omega
                have s2 : ((sort : Int) != 2) = true := by simp; omega
                have E : Hid (takeOf sort s a most = .ok (v, ⟨#[]⟩, s.size - (t.extract (1 + j) t.size).size)) := Lib.hid (by
                  unfold takeOf; rw [HO2.out]
                  show (if sort ≠ 0 ∧ most < v then _ else _) = _
                  rw [if_neg (fun e => e.1 q0), if_neg (by omega)])
                clear q0
                go_wp2
                go_ret3
                rw [E.out]
                refine ⟨ext_set1 (below_extB B1.out b) _, rfl, ?_⟩
                have h := block_setCell HB.out (o := 1) (.int .i64 ((a : Int) + 1 + j))
                show _ = some (Obj.cells #[_, .int .i64 ((s.size - (t.extract (1 + j) t.size).size : Nat) : Int), _] _ _)
                rw [HR2.out, show ((s.size - (t.size - (1 + j)) : Nat) : Int) = (a : Int) + 1 + j by omega]
                exact h
              · have s0 : ((sort : Int) != 0) = true := by simp; omega
                by_cases q1 : most < v
                · have E : Hid (takeOf sort s a most = .error 3) := Lib.hid (by
                    unfold takeOf; rw [HO2.out]
                    show (if sort ≠ 0 ∧ most < v then _ else _) = _
                    rw [if_pos ⟨q0, q1⟩])
                  go_wp2
                  go_ret3
                  rw [E.out]
                  exact ⟨below_extB B1.out b, rfl, HB.out⟩
                · by_cases q2 : sort = 1 ∨ sort = 2
                  · have k0 : IntKind.u64.wrap ((t.size : Int) - 1 - j) = (t.size : Int) - 1 - j := IntWalk.u64_in _ (by omega)
                    have Q2 := Lib.hid q2
                    by_cases hr : (t.size : Int) - 1 - j < v
                    · have E : Hid (takeOf sort s a most = .error 4) := Lib.hid (by
                        unfold takeOf; rw [HO2.out]
                        show (if sort ≠ 0 ∧ most < v then _ else _) = _
                        have := HR2.out
                        rw [if_neg (fun e => q1 e.2), if_pos q2, if_pos (by omega)])
                      clear q0
                      rcases q2 with e | e
                      · have s1 : ((sort : Int) != 1) = false := by simp; omega
                        clear e
                        go_wp2
                        go_ret3
                        rw [E.out]
                        exact ⟨below_extB B1.out b, rfl, HB.out⟩
                      · have s1 : ((sort : Int) != 1) = true := by simp; omega
                        have s2 : ((sort : Int) != 2) = false := by simp; omega
                        clear e
                        go_wp2
                        go_ret3
                        rw [E.out]
                        exact ⟨below_extB B1.out b, rfl, HB.out⟩
                    · have E : Hid (takeOf sort s a most = .ok (v, (t.extract (1 + j) t.size).extract 0 v.toNat, s.size - ((t.extract (1 + j) t.size).size - v.toNat))) := Lib.hid (by
                        unfold takeOf; rw [HO2.out]
                        show (if sort ≠ 0 ∧ most < v then _ else _) = _
                        have := HR2.out
                        rw [if_neg (fun e => q1 e.2), if_pos q2, if_neg (by omega)])
                      have iv : IntKind.i64.wrap v = v := IntWalk.i64_in _ (by omega)
                      have k1 : IntKind.i64.wrap (1 + (j : Int)) = 1 + j := IntWalk.i64_in _ (by omega)
                      have k2 : 1 + (j : Int) ≤ 1 + j + v := by omega
                      have k3 : 1 + (j : Int) + v ≤ t.size := by omega
                      have k4 : (1 + (j : Int)).toNat = 1 + j := by omega
                      have k5 : (1 + (j : Int) + v).toNat = 1 + j + v.toNat := by omega
                      have k6 : 0 ≤ 1 + (j : Int) + v := by omega
                      have k7 : 0 ≤ 1 + (j : Int) := by omega
                      have fin : ∀ W2 : World, Below (wr.setCell ⟨b, 1, none⟩ (.int .i64 ((a : Int) + (1 + j + v)))).heap.size (wr.setCell ⟨b, 1, none⟩ (.int .i64 ((a : Int) + (1 + j + v)))) W2 → RTakeIs (takeOf sort s a most) b s most a w (.returned (.tuple #[.int .u64 v, .string (t.extract (1 + j) (1 + j + v.toNat)), .int .i64 0])) W2 := fun W2 hW2 => by
                        rw [E.out]
                        refine ⟨ExtB_trans _ _ _ _ (ext_set1 (below_extB B1.out b) _) (below_extB hW2 b), ?_, ?_⟩
                        · show _ = Ending.returned (.tuple #[_, .string ((t.extract (1 + j) t.size).extract 0 v.toNat), _])
                          rw [ext_ext t (1 + j) v.toNat (by omega)]
                        · have h := (hW2.block b (by simp; exact lt_of_block HB.out)).trans (block_setCell HB.out (o := 1) (.int .i64 ((a : Int) + (1 + j + v))))
                          show _ = some (Obj.cells #[_, .int .i64 ((s.size - ((t.extract (1 + j) t.size).size - v.toNat) : Nat) : Int), _] _ _)
                          rw [HR2.out, show ((s.size - ((t.size - (1 + j)) - v.toNat) : Nat) : Int) = (a : Int) + (1 + j + v) by omega]
                          exact h
                      have FIN := Lib.hid fin
                      clear fin E q0
                      rcases q2 with e | e
                      · have s1 : ((sort : Int) != 1) = false := by simp; omega
                        clear e
                        go_wp2
                        --REGION (*sextant/sextantref06.Reader).Take 24 rtake24
                        refine wp_region_all 1000 (none) (phis [fun u _ => u = (.int .u64 v), fun u _ => u = (.string t), fun u _ => u = (.int .i64 j), fun u _ => u = (.int .i64 (1 + j)), fun u _ => u = (.int .i64 (1 + j + v)), fun u _ => u = (.string (t.extract (1 + j) (1 + j + v.toNat))), fun u _ => u = (.int .u64 v), fun u _ => u = (.string (t.extract (1 + j) (1 + j + v.toNat))), fun u _ => u = (.int .i64 0)]) rfl (by kernel_rfl) (mono_of ⟨mono_eq, mono_eq, mono_eq, mono_eq, mono_eq, mono_eq, mono_eq, mono_eq, mono_eq, trivial⟩) (steps_of 9 ⟨?s0, ?s1, ?s2, ?s3, ?s4, ?s5, ?s6, ?s7, ?s8, trivial⟩) ?_
                        case s0 =>
                          refine step_val (v := (.int .u64 v)) (fun av wv hE hS hO hD => ?_) (fun _ => rfl)
                          have h9 : av.eval (.tmp 9) = (.int .u64 v) := hO.2.2 9 rfl
                          have f9 := (ev_form av 9).symm.trans h9
                          refine ⟨rfl, ?_⟩
                          simp [go_sem, f9, k1, k2, k3, k4, k5, k6, k7]
                        case s1 =>
                          refine step_val (v := (.string t)) (fun av wv hE hS hO hD => ?_) (fun _ => rfl)
                          have h7 : av.eval (.tmp 7) = (.string t) := hO.2.2 7 rfl
                          have f7 := (ev_form av 7).symm.trans h7
                          refine ⟨rfl, ?_⟩
                          simp [go_sem, f7, k1, k2, k3, k4, k5, k6, k7]
                        case s2 =>
                          refine step_val (v := (.int .i64 j)) (fun av wv hE hS hO hD => ?_) (fun _ => rfl)
                          have h8 : av.eval (.tmp 8) = (.int .i64 j) := hO.2.2 8 rfl
                          have f8 := (ev_form av 8).symm.trans h8
                          refine ⟨rfl, ?_⟩
                          simp [go_sem, f8, k1, k2, k3, k4, k5, k6, k7]
                        case s3 =>
                          refine step_val (v := (.int .i64 (1 + j))) (fun av wv hE hS hO hD => ?_) (fun _ => rfl)
                          have d107 : av.eval (.tmp 107) = (.int .i64 j) := hD.1 rfl _ rfl
                          have f107 := (ev_form av 107).symm.trans d107
                          refine ⟨rfl, ?_⟩
                          simp [go_sem, f107, k1, k2, k3, k4, k5, k6, k7]
                        case s4 =>
                          refine step_val (v := (.int .i64 (1 + j + v))) (fun av wv hE hS hO hD => ?_) (fun _ => rfl)
                          have h12 : av.eval (.tmp 12) = (.int .i64 (1 + j + v)) := hO.2.2 12 rfl
                          have f12 := (ev_form av 12).symm.trans h12
                          refine ⟨rfl, ?_⟩
                          simp [go_sem, f12, k1, k2, k3, k4, k5, k6, k7]
                        case s5 =>
                          refine step_val (v := (.string (t.extract (1 + j) (1 + j + v.toNat)))) (fun av wv hE hS hO hD => ?_) (fun _ => rfl)
                          have d106 : av.eval (.tmp 106) = (.string t) := hD.1 rfl _ rfl
                          have f106 := (ev_form av 106).symm.trans d106
                          have d108 : av.eval (.tmp 108) = (.int .i64 (1 + j)) := hD.2.1 rfl _ rfl
                          have f108 := (ev_form av 108).symm.trans d108
                          have d109 : av.eval (.tmp 109) = (.int .i64 (1 + j + v)) := hD.2.2.1 rfl _ rfl
                          have f109 := (ev_form av 109).symm.trans d109
                          refine ⟨rfl, ?_⟩
                          simp [go_sem, f106, f108, f109, k1, k2, k3, k4, k5, k6, k7]
                        case s6 =>
                          refine step_val (v := (.int .u64 v)) (fun av wv hE hS hO hD => ?_) (fun _ => rfl)
                          have d105 : av.eval (.tmp 105) = (.int .u64 v) := hD.1 rfl _ rfl
                          have f105 := (ev_form av 105).symm.trans d105
                          refine ⟨rfl, ?_⟩
                          simp [go_sem, f105, k1, k2, k3, k4, k5, k6, k7]
                        case s7 =>
                          refine step_val (v := (.string (t.extract (1 + j) (1 + j + v.toNat)))) (fun av wv hE hS hO hD => ?_) (fun _ => rfl)
                          have d110 : av.eval (.tmp 110) = (.string (t.extract (1 + j) (1 + j + v.toNat))) := hD.1 rfl _ rfl
                          have f110 := (ev_form av 110).symm.trans d110
                          refine ⟨rfl, ?_⟩
                          simp [go_sem, f110, k1, k2, k3, k4, k5, k6, k7]
                        case s8 =>
                          refine step_val (v := (.int .i64 0)) (fun av wv hE hS hO hD => ?_) (fun _ => rfl)
                          refine ⟨rfl, ?_⟩
                          simp [go_sem, k1, k2, k3, k4, k5, k6, k7]
                        intro a' w' hE hO hall
                        have hA := act_of_outer (ds := [105, 106, 107, 108, 109, 110, 4, 5, 6]) rfl hO (by kernel_rfl)
                        have e105 : (fun u _ => u = (.int .u64 v)) (a'.eval (.tmp 105)) w' := hall.1 _ rfl
                        have e106 : (fun u _ => u = (.string t)) (a'.eval (.tmp 106)) w' := hall.2.1 _ rfl
                        have e107 : (fun u _ => u = (.int .i64 j)) (a'.eval (.tmp 107)) w' := hall.2.2.1 _ rfl
                        have e108 : (fun u _ => u = (.int .i64 (1 + j))) (a'.eval (.tmp 108)) w' := hall.2.2.2.1 _ rfl
                        have e109 : (fun u _ => u = (.int .i64 (1 + j + v))) (a'.eval (.tmp 109)) w' := hall.2.2.2.2.1 _ rfl
                        have e110 : (fun u _ => u = (.string (t.extract (1 + j) (1 + j + v.toNat)))) (a'.eval (.tmp 110)) w' := hall.2.2.2.2.2.1 _ rfl
                        have e4 : (fun u _ => u = (.int .u64 v)) (a'.eval (.tmp 4)) w' := hall.2.2.2.2.2.2.1 _ rfl
                        have e5 : (fun u _ => u = (.string (t.extract (1 + j) (1 + j + v.toNat)))) (a'.eval (.tmp 5)) w' := hall.2.2.2.2.2.2.2.1 _ rfl
                        have e6 : (fun u _ => u = (.int .i64 0)) (a'.eval (.tmp 6)) w' := hall.2.2.2.2.2.2.2.2.1 _ rfl
                        simp only [List.foldl_cons, List.foldl_nil, Act.put, List.setIfInBounds_toArray, List.set_cons_succ, List.set_cons_zero, e105, e106, e107, e108, e109, e110, e4, e5, e6] at hA
                        clear hO hall e105 e106 e107 e108 e109 e110 e4 e5 e6
                        subst hA
                        --ENDREGION
                        have Y := Lib.hid (of_drew hE)
                        clear hE
                        go_wp2
                        go_ret3
                        exact FIN.out _ Y.out
                      · have s1 : ((sort : Int) != 1) = true := by simp; omega
                        have s2 : ((sort : Int) != 2) = false := by simp; omega
                        clear e
                        go_wp2
                        --REGION (*sextant/sextantref06.Reader).Take 24 rtake24
                        refine wp_region_all 1000 (none) (phis [fun u _ => u = (.int .u64 v), fun u _ => u = (.string t), fun u _ => u = (.int .i64 j), fun u _ => u = (.int .i64 (1 + j)), fun u _ => u = (.int .i64 (1 + j + v)), fun u _ => u = (.string (t.extract (1 + j) (1 + j + v.toNat))), fun u _ => u = (.int .u64 v), fun u _ => u = (.string (t.extract (1 + j) (1 + j + v.toNat))), fun u _ => u = (.int .i64 0)]) rfl (by kernel_rfl) (mono_of ⟨mono_eq, mono_eq, mono_eq, mono_eq, mono_eq, mono_eq, mono_eq, mono_eq, mono_eq, trivial⟩) (steps_of 9 ⟨?s0, ?s1, ?s2, ?s3, ?s4, ?s5, ?s6, ?s7, ?s8, trivial⟩) ?_
                        case s0 =>
                          refine step_val (v := (.int .u64 v)) (fun av wv hE hS hO hD => ?_) (fun _ => rfl)
                          have h9 : av.eval (.tmp 9) = (.int .u64 v) := hO.2.2 9 rfl
                          have f9 := (ev_form av 9).symm.trans h9
                          refine ⟨rfl, ?_⟩
                          simp [go_sem, f9, k1, k2, k3, k4, k5, k6, k7]
                        case s1 =>
                          refine step_val (v := (.string t)) (fun av wv hE hS hO hD => ?_) (fun _ => rfl)
                          have h7 : av.eval (.tmp 7) = (.string t) := hO.2.2 7 rfl
                          have f7 := (ev_form av 7).symm.trans h7
                          refine ⟨rfl, ?_⟩
                          simp [go_sem, f7, k1, k2, k3, k4, k5, k6, k7]
                        case s2 =>
                          refine step_val (v := (.int .i64 j)) (fun av wv hE hS hO hD => ?_) (fun _ => rfl)
                          have h8 : av.eval (.tmp 8) = (.int .i64 j) := hO.2.2 8 rfl
                          have f8 := (ev_form av 8).symm.trans h8
                          refine ⟨rfl, ?_⟩
                          simp [go_sem, f8, k1, k2, k3, k4, k5, k6, k7]
                        case s3 =>
                          refine step_val (v := (.int .i64 (1 + j))) (fun av wv hE hS hO hD => ?_) (fun _ => rfl)
                          have d107 : av.eval (.tmp 107) = (.int .i64 j) := hD.1 rfl _ rfl
                          have f107 := (ev_form av 107).symm.trans d107
                          refine ⟨rfl, ?_⟩
                          simp [go_sem, f107, k1, k2, k3, k4, k5, k6, k7]
                        case s4 =>
                          refine step_val (v := (.int .i64 (1 + j + v))) (fun av wv hE hS hO hD => ?_) (fun _ => rfl)
                          have h12 : av.eval (.tmp 12) = (.int .i64 (1 + j + v)) := hO.2.2 12 rfl
                          have f12 := (ev_form av 12).symm.trans h12
                          refine ⟨rfl, ?_⟩
                          simp [go_sem, f12, k1, k2, k3, k4, k5, k6, k7]
                        case s5 =>
                          refine step_val (v := (.string (t.extract (1 + j) (1 + j + v.toNat)))) (fun av wv hE hS hO hD => ?_) (fun _ => rfl)
                          have d106 : av.eval (.tmp 106) = (.string t) := hD.1 rfl _ rfl
                          have f106 := (ev_form av 106).symm.trans d106
                          have d108 : av.eval (.tmp 108) = (.int .i64 (1 + j)) := hD.2.1 rfl _ rfl
                          have f108 := (ev_form av 108).symm.trans d108
                          have d109 : av.eval (.tmp 109) = (.int .i64 (1 + j + v)) := hD.2.2.1 rfl _ rfl
                          have f109 := (ev_form av 109).symm.trans d109
                          refine ⟨rfl, ?_⟩
                          simp [go_sem, f106, f108, f109, k1, k2, k3, k4, k5, k6, k7]
                        case s6 =>
                          refine step_val (v := (.int .u64 v)) (fun av wv hE hS hO hD => ?_) (fun _ => rfl)
                          have d105 : av.eval (.tmp 105) = (.int .u64 v) := hD.1 rfl _ rfl
                          have f105 := (ev_form av 105).symm.trans d105
                          refine ⟨rfl, ?_⟩
                          simp [go_sem, f105, k1, k2, k3, k4, k5, k6, k7]
                        case s7 =>
                          refine step_val (v := (.string (t.extract (1 + j) (1 + j + v.toNat)))) (fun av wv hE hS hO hD => ?_) (fun _ => rfl)
                          have d110 : av.eval (.tmp 110) = (.string (t.extract (1 + j) (1 + j + v.toNat))) := hD.1 rfl _ rfl
                          have f110 := (ev_form av 110).symm.trans d110
                          refine ⟨rfl, ?_⟩
                          simp [go_sem, f110, k1, k2, k3, k4, k5, k6, k7]
                        case s8 =>
                          refine step_val (v := (.int .i64 0)) (fun av wv hE hS hO hD => ?_) (fun _ => rfl)
                          refine ⟨rfl, ?_⟩
                          simp [go_sem, k1, k2, k3, k4, k5, k6, k7]
                        intro a' w' hE hO hall
                        have hA := act_of_outer (ds := [105, 106, 107, 108, 109, 110, 4, 5, 6]) rfl hO (by kernel_rfl)
                        have e105 : (fun u _ => u = (.int .u64 v)) (a'.eval (.tmp 105)) w' := hall.1 _ rfl
                        have e106 : (fun u _ => u = (.string t)) (a'.eval (.tmp 106)) w' := hall.2.1 _ rfl
                        have e107 : (fun u _ => u = (.int .i64 j)) (a'.eval (.tmp 107)) w' := hall.2.2.1 _ rfl
                        have e108 : (fun u _ => u = (.int .i64 (1 + j))) (a'.eval (.tmp 108)) w' := hall.2.2.2.1 _ rfl
                        have e109 : (fun u _ => u = (.int .i64 (1 + j + v))) (a'.eval (.tmp 109)) w' := hall.2.2.2.2.1 _ rfl
                        have e110 : (fun u _ => u = (.string (t.extract (1 + j) (1 + j + v.toNat)))) (a'.eval (.tmp 110)) w' := hall.2.2.2.2.2.1 _ rfl
                        have e4 : (fun u _ => u = (.int .u64 v)) (a'.eval (.tmp 4)) w' := hall.2.2.2.2.2.2.1 _ rfl
                        have e5 : (fun u _ => u = (.string (t.extract (1 + j) (1 + j + v.toNat)))) (a'.eval (.tmp 5)) w' := hall.2.2.2.2.2.2.2.1 _ rfl
                        have e6 : (fun u _ => u = (.int .i64 0)) (a'.eval (.tmp 6)) w' := hall.2.2.2.2.2.2.2.2.1 _ rfl
                        simp only [List.foldl_cons, List.foldl_nil, Act.put, List.setIfInBounds_toArray, List.set_cons_succ, List.set_cons_zero, e105, e106, e107, e108, e109, e110, e4, e5, e6] at hA
                        clear hO hall e105 e106 e107 e108 e109 e110 e4 e5 e6
                        subst hA
                        --ENDREGION
                        have Y := Lib.hid (of_drew hE)
                        clear hE
                        go_wp2
                        go_ret3
                        exact FIN.out _ Y.out
                  · have s1 : ((sort : Int) != 1) = true := by simp; omega
                    have s2 : ((sort : Int) != 2) = true := by simp; omega
                    have E : Hid (takeOf sort s a most = .ok (v, ⟨#[]⟩, s.size - (t.extract (1 + j) t.size).size)) := Lib.hid (by
                      unfold takeOf; rw [HO2.out]
                      show (if sort ≠ 0 ∧ most < v then _ else _) = _
                      rw [if_neg (fun e => q1 e.2), if_neg q2])
                    clear q0 q2
                    go_wp2
                    go_ret3
                    rw [E.out]
                    refine ⟨ext_set1 (below_extB B1.out b) _, rfl, ?_⟩
                    have h := block_setCell HB.out (o := 1) (.int .i64 ((a : Int) + 1 + j))
                    show _ = some (Obj.cells #[_, .int .i64 ((s.size - (t.extract (1 + j) t.size).size : Nat) : Int), _] _ _)
                    rw [HR2.out, show ((s.size - (t.size - (1 + j)) : Nat) : Int) = (a : Int) + 1 + j by omega]
                    exact h
end Go.Proofs.YtmcmapcijncblaaDoor
