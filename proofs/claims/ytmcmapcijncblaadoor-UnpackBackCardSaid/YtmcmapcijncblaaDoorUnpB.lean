/- Contracts of package unpack: the reader's small methods, and its deferred one. -/
import Derived.Test.YtmcmapcijncblaaDoorUnpA
import Derived.Defers
import Derived.Recover
namespace Go.Proofs.YtmcmapcijncblaaDoor
set_option linter.unusedSimpArgs false
set_option linter.unusedVariables false
open Go.RowKit

/-- A reader's block. -/
def RdB (w : World) (b : Nat) (s : ByteArray) (a most : Int) : Prop := w.heap[b]? = some (.cells #[.string s, .int .i64 a, .int .i64 most] 58 (0, 0))
theorem RdB.below {w w' : World} {b : Nat} {s : ByteArray} {a most : Int} (h : RdB w b s a most) (hb : Below w.heap.size w w') : RdB w' b s a most := (hb.block _ (lt_of_block h)).trans h

theorem place_any (w : World) (b : Nat) (s : ByteArray) (a most : Int) (h : RdB w b s a most) :
    Calls Tryd.prog 38 #[.pointer (some ⟨b, 0, none⟩)] w fun e w' => e = .returned (.int .i64 a) ∧ w' = w := by
  have c1 : w.cell? ⟨b, 1, none⟩ = some (.int .i64 a) := block_cell h 1
  clear h
  go_enter Tryd.func38, Tryd.ntmps38
  go_wp2
  go_ret
  exact ⟨rfl, rfl⟩
theorem place_nil (w : World) : Calls Tryd.prog 38 #[.pointer none] w fun e w' => e = .returned (.int .i64 0) ∧ w' = w := by
  go_enter Tryd.func38, Tryd.ntmps38
  go_wp2
  go_ret
  exact ⟨rfl, rfl⟩

theorem here_nil (w : World) : Calls Tryd.prog 27 #[.pointer none] w fun e w' => e = .panicked (chainOf 1) ∧ Below w.heap.size w w' := by
  go_enter Tryd.func27, Tryd.ntmps27
  go_wp2_with fail
  refine (stop_any 1 _).mono ?_
  rintro e w1 ⟨rfl, rfl⟩
  go_wp2
  exact ⟨rfl, rfl, Below.refl _ _⟩

set_option maxRecDepth 100000 in
set_option maxHeartbeats 1000000 in
theorem here_any (w : World) (b : Nat) (s : ByteArray) (a : Nat) (most : Int) (h : RdB w b s a most) (ha : a ≤ s.size) (hs : s.size ≤ 9223372036854775807) :
    Calls Tryd.prog 27 #[.pointer (some ⟨b, 0, none⟩)] w fun e w' => e = .returned (.string (s.extract a s.size)) ∧ Below w.heap.size w w' := by
  have c0 : w.cell? ⟨b, 0, none⟩ = some (.string s) := block_cell h 0
  have c1 : w.cell? ⟨b, 1, none⟩ = some (.int .i64 a) := block_cell h 1
  have i1 : (a : Int) ≤ s.size := by omega
  have i2 : 0 ≤ (a : Int) := by omega
  have i3 : a ≤ s.size := ha
  clear h
  go_enter Tryd.func27, Tryd.ntmps27
  go_wp2
  --REGION (*sextant/unpack.Reader).here 3 here3
  refine wp_region_all 1000 (none) (phis [fun u _ => u = (.pointer (some ⟨b, 0, none⟩)), fun u _ => u = (.pointer (some ⟨b, 0, none⟩)), fun u _ => u = (.pointer (some ⟨b, 0, none⟩)), fun u _ => u = (.string s), fun u _ => u = (.pointer (some ⟨b, 0, none⟩)), fun u _ => u = (.pointer (some ⟨b, 0, none⟩)), fun u _ => u = (.pointer (some ⟨b, 1, none⟩)), fun u _ => u = (.int .i64 a), fun u _ => u = (.string (s.extract a s.size)), fun u _ => u = (.string (s.extract a s.size))]) rfl (by kernel_rfl) (mono_of ⟨mono_eq, mono_eq, mono_eq, mono_eq, mono_eq, mono_eq, mono_eq, mono_eq, mono_eq, mono_eq, trivial⟩) (steps_of 10 ⟨?s0, ?s1, ?s2, ?s3, ?s4, ?s5, ?s6, ?s7, ?s8, ?s9, trivial⟩) ?_
  case s0 =>
    refine step_val (v := (.pointer (some ⟨b, 0, none⟩))) (fun av wv hE hS hO hD => ?_) (fun _ => rfl)
    have h0 : av.eval (.tmp 0) = (.pointer (some ⟨b, 0, none⟩)) := hO.2.2 0 rfl
    have f0 := (ev_form av 0).symm.trans h0
    refine ⟨rfl, ?_⟩
    simp [go_sem, f0, i1, i2, i3]
  case s1 =>
    refine step_val (v := (.pointer (some ⟨b, 0, none⟩))) (fun av wv hE hS hO hD => ?_) (fun _ => rfl)
    have d6 : av.eval (.tmp 6) = (.pointer (some ⟨b, 0, none⟩)) := hD.1 rfl _ rfl
    have f6 := (ev_form av 6).symm.trans d6
    refine ⟨rfl, ?_⟩
    simp [go_sem, f6, i1, i2, i3]
  case s2 =>
    refine step_val (v := (.pointer (some ⟨b, 0, none⟩))) (fun av wv hE hS hO hD => ?_) (fun _ => rfl)
    have d7 : av.eval (.tmp 7) = (.pointer (some ⟨b, 0, none⟩)) := hD.1 rfl _ rfl
    have f7 := (ev_form av 7).symm.trans d7
    refine ⟨rfl, ?_⟩
    simp [go_sem, f7, i1, i2, i3]
  case s3 =>
    refine step_val (v := (.string s)) (fun av wv hE hS hO hD => ?_) (fun _ => rfl)
    have d8 : av.eval (.tmp 8) = (.pointer (some ⟨b, 0, none⟩)) := hD.1 rfl _ rfl
    have f8 := (ev_form av 8).symm.trans d8
    have c0 := extB_cell hE (by simp) c0
    have c1 := extB_cell hE (by simp) c1
    refine ⟨rfl, ?_⟩
    simp [go_sem, f8, c0, c1, i1, i2, i3]
  case s4 =>
    refine step_val (v := (.pointer (some ⟨b, 0, none⟩))) (fun av wv hE hS hO hD => ?_) (fun _ => rfl)
    have h0 : av.eval (.tmp 0) = (.pointer (some ⟨b, 0, none⟩)) := hO.2.2 0 rfl
    have f0 := (ev_form av 0).symm.trans h0
    refine ⟨rfl, ?_⟩
    simp [go_sem, f0, i1, i2, i3]
  case s5 =>
    refine step_val (v := (.pointer (some ⟨b, 0, none⟩))) (fun av wv hE hS hO hD => ?_) (fun _ => rfl)
    have d10 : av.eval (.tmp 10) = (.pointer (some ⟨b, 0, none⟩)) := hD.1 rfl _ rfl
    have f10 := (ev_form av 10).symm.trans d10
    refine ⟨rfl, ?_⟩
    simp [go_sem, f10, i1, i2, i3]
  case s6 =>
    refine step_val (v := (.pointer (some ⟨b, 1, none⟩))) (fun av wv hE hS hO hD => ?_) (fun _ => rfl)
    have d11 : av.eval (.tmp 11) = (.pointer (some ⟨b, 0, none⟩)) := hD.1 rfl _ rfl
    have f11 := (ev_form av 11).symm.trans d11
    refine ⟨rfl, ?_⟩
    simp [go_sem, f11, i1, i2, i3]
  case s7 =>
    refine step_val (v := (.int .i64 a)) (fun av wv hE hS hO hD => ?_) (fun _ => rfl)
    have d12 : av.eval (.tmp 12) = (.pointer (some ⟨b, 1, none⟩)) := hD.1 rfl _ rfl
    have f12 := (ev_form av 12).symm.trans d12
    have c0 := extB_cell hE (by simp) c0
    have c1 := extB_cell hE (by simp) c1
    refine ⟨rfl, ?_⟩
    simp [go_sem, f12, c0, c1, i1, i2, i3]
  case s8 =>
    refine step_val (v := (.string (s.extract a s.size))) (fun av wv hE hS hO hD => ?_) (fun _ => rfl)
    have d9 : av.eval (.tmp 9) = (.string s) := hD.1 rfl _ rfl
    have f9 := (ev_form av 9).symm.trans d9
    have d13 : av.eval (.tmp 13) = (.int .i64 a) := hD.2.1 rfl _ rfl
    have f13 := (ev_form av 13).symm.trans d13
    refine ⟨rfl, ?_⟩
    simp [go_sem, f9, f13, i1, i2, i3]
  case s9 =>
    refine step_val (v := (.string (s.extract a s.size))) (fun av wv hE hS hO hD => ?_) (fun _ => rfl)
    have d14 : av.eval (.tmp 14) = (.string (s.extract a s.size)) := hD.1 rfl _ rfl
    have f14 := (ev_form av 14).symm.trans d14
    refine ⟨rfl, ?_⟩
    simp [go_sem, f14, i1, i2, i3]
  intro a' w' hE hO hall
  have hA := act_of_outer (ds := [6, 7, 8, 9, 10, 11, 12, 13, 14, 2]) rfl hO (by kernel_rfl)
  have e6 : (fun u _ => u = (.pointer (some ⟨b, 0, none⟩))) (a'.eval (.tmp 6)) w' := hall.1 _ rfl
  have e7 : (fun u _ => u = (.pointer (some ⟨b, 0, none⟩))) (a'.eval (.tmp 7)) w' := hall.2.1 _ rfl
  have e8 : (fun u _ => u = (.pointer (some ⟨b, 0, none⟩))) (a'.eval (.tmp 8)) w' := hall.2.2.1 _ rfl
  have e9 : (fun u _ => u = (.string s)) (a'.eval (.tmp 9)) w' := hall.2.2.2.1 _ rfl
  have e10 : (fun u _ => u = (.pointer (some ⟨b, 0, none⟩))) (a'.eval (.tmp 10)) w' := hall.2.2.2.2.1 _ rfl
  have e11 : (fun u _ => u = (.pointer (some ⟨b, 0, none⟩))) (a'.eval (.tmp 11)) w' := hall.2.2.2.2.2.1 _ rfl
  have e12 : (fun u _ => u = (.pointer (some ⟨b, 1, none⟩))) (a'.eval (.tmp 12)) w' := hall.2.2.2.2.2.2.1 _ rfl
  have e13 : (fun u _ => u = (.int .i64 a)) (a'.eval (.tmp 13)) w' := hall.2.2.2.2.2.2.2.1 _ rfl
  have e14 : (fun u _ => u = (.string (s.extract a s.size))) (a'.eval (.tmp 14)) w' := hall.2.2.2.2.2.2.2.2.1 _ rfl
  have e2 : (fun u _ => u = (.string (s.extract a s.size))) (a'.eval (.tmp 2)) w' := hall.2.2.2.2.2.2.2.2.2.1 _ rfl
  simp only [List.foldl_cons, List.foldl_nil, Act.put, List.setIfInBounds_toArray, List.set_cons_succ, List.set_cons_zero, e6, e7, e8, e9, e10, e11, e12, e13, e14, e2] at hA
  clear hO hall e6 e7 e8 e9 e10 e11 e12 e13 e14 e2
  subst hA
  --ENDREGION
  have B := Lib.hid (of_drew hE)
  clear hE
  go_wp2
  go_ret
  exact ⟨rfl, B.out⟩

/-- A thing whose number is above the bound is none. -/
def boundOf (n most : Int) (rest : ByteArray) : Except Int (Int × ByteArray) := if most < n then .error 3 else .ok (n, rest)

set_option maxRecDepth 100000 in
set_option maxHeartbeats 1000000 in
theorem bound_any (w : World) (b : Nat) (s rest : ByteArray) (a most n : Int) (h : RdB w b s a most) (hm0 : 0 ≤ most) (hm1 : most ≤ 9223372036854775807) :
    Calls Tryd.prog 39 #[.pointer (some ⟨b, 0, none⟩), .agg #[.int .u64 n, .string rest]] w (HeadIs (boundOf n most rest) w) := by
  have c2 : w.cell? ⟨b, 2, none⟩ = some (.int .i64 most) := block_cell h 2
  have hl := lt_of_block h
  have i1 : IntKind.u64.wrap most = most := IntWalk.u64_in _ (by omega)
  clear h
  go_enter Tryd.func39, Tryd.ntmps39
  go_wp2
  obtain ⟨W, hW⟩ : ∃ W, (w.alloc (.cells #[.int .u64 n, .string rest] 71)).alloc (.cells #[.int .u64 0, .string ⟨#[]⟩] 71) = W := ⟨_, rfl⟩
  have WB : Hid (Below w.heap.size w W) := Lib.hid (by rw [← hW]; (repeat (first | exact Below.refl _ _ | assumption | (refine bdrew ?_) | (refine bdrewN ?_ _) | (refine balloc ?_ _) | (refine bset ?_ (by first | omega | (simp; done) | (simp; omega)) _) | (refine bnext ?_ (by assumption)))))
  have W0 : Hid (W.heap[w.heap.size]? = some (.cells #[.int .u64 n, .string rest] 71 (0, 0))) := Lib.hid (by rw [← hW]; (repeat (first | exact alloc_new_at _ (by repeat (first | rfl | refine alloc_size _ ?_)) | refine block_alloc ?_ _)))
  have W1 : Hid (W.heap[w.heap.size + 1]? = some (.cells #[.int .u64 0, .string ⟨#[]⟩] 71 (0, 0))) := Lib.hid (by rw [← hW]; (repeat (first | exact alloc_new_at _ (by repeat (first | rfl | refine alloc_size _ ?_)) | refine block_alloc ?_ _)))
  rw [hW]
  have c2 : W.cell? ⟨b, 2, none⟩ = some (.int .i64 most) := by rw [WB.out.cell (p := ⟨b, 2, none⟩) hl]; exact c2
  have d0 : W.cell? ⟨w.heap.size, 0, none⟩ = some (.int .u64 n) := block_cell W0.out 0
  clear hW
  obtain ⟨x, hx⟩ : ∃ x, decide (most < n) = x := ⟨_, rfl⟩
  --REGION (*sextant/unpack.Reader).bound 1 bound1
  refine wp_region_all 1000 (none) (phis [fun u _ => u = (.pointer (some ⟨w.heap.size, 0, none⟩)), fun u _ => u = (.int .u64 n), fun u _ => u = (.pointer (some ⟨b, 0, none⟩)), fun u _ => u = (.pointer (some ⟨b, 0, none⟩)), fun u _ => u = (.pointer (some ⟨b, 2, none⟩)), fun u _ => u = (.int .i64 most), fun u _ => u = (.int .u64 most), fun u _ => u = (.bool x)]) rfl (by kernel_rfl) (mono_of ⟨mono_eq, mono_eq, mono_eq, mono_eq, mono_eq, mono_eq, mono_eq, mono_eq, trivial⟩) (steps_of 8 ⟨?s0, ?s1, ?s2, ?s3, ?s4, ?s5, ?s6, ?s7, trivial⟩) ?_
  case s0 =>
    refine step_val (v := (.pointer (some ⟨w.heap.size, 0, none⟩))) (fun av wv hE hS hO hD => ?_) (fun _ => rfl)
    have h3 : av.eval (.tmp 3) = (.pointer (some ⟨w.heap.size, 0, none⟩)) := hO.2.2 3 rfl
    have f3 := (ev_form av 3).symm.trans h3
    refine ⟨rfl, ?_⟩
    simp [go_sem, f3, i1]
  case s1 =>
    refine step_val (v := (.int .u64 n)) (fun av wv hE hS hO hD => ?_) (fun _ => rfl)
    have d5 : av.eval (.tmp 5) = (.pointer (some ⟨w.heap.size, 0, none⟩)) := hD.1 rfl _ rfl
    have f5 := (ev_form av 5).symm.trans d5
    have d0 := extB_cell hE (by simp) d0
    have c2 := extB_cell hE (by simp) c2
    refine ⟨rfl, ?_⟩
    simp [go_sem, f5, d0, c2, i1]
  case s2 =>
    refine step_val (v := (.pointer (some ⟨b, 0, none⟩))) (fun av wv hE hS hO hD => ?_) (fun _ => rfl)
    have h0 : av.eval (.tmp 0) = (.pointer (some ⟨b, 0, none⟩)) := hO.2.2 0 rfl
    have f0 := (ev_form av 0).symm.trans h0
    refine ⟨rfl, ?_⟩
    simp [go_sem, f0, i1]
  case s3 =>
    refine step_val (v := (.pointer (some ⟨b, 0, none⟩))) (fun av wv hE hS hO hD => ?_) (fun _ => rfl)
    have d7 : av.eval (.tmp 7) = (.pointer (some ⟨b, 0, none⟩)) := hD.1 rfl _ rfl
    have f7 := (ev_form av 7).symm.trans d7
    refine ⟨rfl, ?_⟩
    simp [go_sem, f7, i1]
  case s4 =>
    refine step_val (v := (.pointer (some ⟨b, 2, none⟩))) (fun av wv hE hS hO hD => ?_) (fun _ => rfl)
    have d8 : av.eval (.tmp 8) = (.pointer (some ⟨b, 0, none⟩)) := hD.1 rfl _ rfl
    have f8 := (ev_form av 8).symm.trans d8
    refine ⟨rfl, ?_⟩
    simp [go_sem, f8, i1]
  case s5 =>
    refine step_val (v := (.int .i64 most)) (fun av wv hE hS hO hD => ?_) (fun _ => rfl)
    have d9 : av.eval (.tmp 9) = (.pointer (some ⟨b, 2, none⟩)) := hD.1 rfl _ rfl
    have f9 := (ev_form av 9).symm.trans d9
    have d0 := extB_cell hE (by simp) d0
    have c2 := extB_cell hE (by simp) c2
    refine ⟨rfl, ?_⟩
    simp [go_sem, f9, d0, c2, i1]
  case s6 =>
    refine step_val (v := (.int .u64 most)) (fun av wv hE hS hO hD => ?_) (fun _ => rfl)
    have d10 : av.eval (.tmp 10) = (.int .i64 most) := hD.1 rfl _ rfl
    have f10 := (ev_form av 10).symm.trans d10
    refine ⟨rfl, ?_⟩
    simp [go_sem, f10, i1]
  case s7 =>
    refine step_val (v := (.bool x)) (fun av wv hE hS hO hD => ?_) (fun _ => rfl)
    have d6 : av.eval (.tmp 6) = (.int .u64 n) := hD.1 rfl _ rfl
    have f6 := (ev_form av 6).symm.trans d6
    have d11 : av.eval (.tmp 11) = (.int .u64 most) := hD.2.1 rfl _ rfl
    have f11 := (ev_form av 11).symm.trans d11
    refine ⟨rfl, ?_⟩
    simp [go_sem, f6, f11, hx]
  intro a' w' hE hO hall
  have hA := act_of_outer (ds := [5, 6, 7, 8, 9, 10, 11, 12]) rfl hO (by kernel_rfl)
  have e5 : (fun u _ => u = (.pointer (some ⟨w.heap.size, 0, none⟩))) (a'.eval (.tmp 5)) w' := hall.1 _ rfl
  have e6 : (fun u _ => u = (.int .u64 n)) (a'.eval (.tmp 6)) w' := hall.2.1 _ rfl
  have e7 : (fun u _ => u = (.pointer (some ⟨b, 0, none⟩))) (a'.eval (.tmp 7)) w' := hall.2.2.1 _ rfl
  have e8 : (fun u _ => u = (.pointer (some ⟨b, 0, none⟩))) (a'.eval (.tmp 8)) w' := hall.2.2.2.1 _ rfl
  have e9 : (fun u _ => u = (.pointer (some ⟨b, 2, none⟩))) (a'.eval (.tmp 9)) w' := hall.2.2.2.2.1 _ rfl
  have e10 : (fun u _ => u = (.int .i64 most)) (a'.eval (.tmp 10)) w' := hall.2.2.2.2.2.1 _ rfl
  have e11 : (fun u _ => u = (.int .u64 most)) (a'.eval (.tmp 11)) w' := hall.2.2.2.2.2.2.1 _ rfl
  have e12 : (fun u _ => u = (.bool x)) (a'.eval (.tmp 12)) w' := hall.2.2.2.2.2.2.2.1 _ rfl
  simp only [List.foldl_cons, List.foldl_nil, Act.put, List.setIfInBounds_toArray, List.set_cons_succ, List.set_cons_zero, e5, e6, e7, e8, e9, e10, e11, e12] at hA
  clear hO hall e5 e6 e7 e8 e9 e10 e11 e12
  subst hA
  --ENDREGION
  have B := Lib.hid (bnext WB.out (of_drew hE))
  have X0 := Lib.hid (extB_block hE (by simp) W0.out)
  have X1 := Lib.hid (extB_block hE (by simp) W1.out)
  have HX := Lib.hid hx
  clear hE c2 d0 hx
  have x0 : w'.cell? ⟨w.heap.size, 0, none⟩ = some (.int .u64 n) := block_cell X0.out 0
  have x1 : w'.cell? ⟨w.heap.size, 1, none⟩ = some (.string rest) := block_cell X0.out 1
  have y0 : ∀ o, w'.cell? ⟨w.heap.size + 1, o, none⟩ = _ := block_cell X1.out
  have y1 : ∀ o, w'.frozen? ⟨w.heap.size + 1, o, none⟩ = false := block_free X1.out
  cases x
  · go_wp2
    refine bodyPost_ret (v := .agg #[.int .u64 n, .string rest]) (by simp [results, Tryd.results39, go_sem, y0]) rfl ?_
    have : boundOf n most rest = .ok (n, rest) := by unfold boundOf; rw [if_neg (by simpa using HX.out)]
    rw [this]
    exact ⟨(by have := B.out; (repeat (first | exact Below.refl _ _ | assumption | (refine bdrew ?_) | (refine bdrewN ?_ _) | (refine balloc ?_ _) | (refine bset ?_ (by first | omega | (simp; done) | (simp; omega)) _) | (refine bnext ?_ (by assumption))))), rfl⟩
  · go_wp2_with fail
    refine (stop_any 3 _).mono ?_
    rintro e w1 ⟨rfl, rfl⟩
    go_wp2
    have : boundOf n most rest = .error 3 := by unfold boundOf; rw [if_pos (by simpa using HX.out)]
    rw [this]
    exact ⟨rfl, B.out, rfl⟩

theorem behind_any (w : World) (b : Nat) (s : ByteArray) (a left most : Int) (h : RdB w b s a most) (hs : s.size ≤ 9223372036854775807) (l0 : 0 ≤ left) (l1 : left ≤ s.size) :
    Calls Tryd.prog 28 #[.pointer (some ⟨b, 0, none⟩), .int .i64 left] w fun e w' => e = .returned (.tuple #[]) ∧ w' = w.setCell ⟨b, 1, none⟩ (.int .i64 (s.size - left)) := by
  have c0 : w.cell? ⟨b, 0, none⟩ = some (.string s) := block_cell h 0
  have c1 : w.cell? ⟨b, 1, none⟩ = some (.int .i64 a) := block_cell h 1
  have c2 : w.frozen? ⟨b, 1, none⟩ = false := block_free h 1
  clear h
  go_enter Tryd.func28, Tryd.ntmps28
  go_wp2
  go_end0
  exact ⟨rfl, rfl⟩

set_option maxRecDepth 100000 in
theorem fault_frame (p q x : Value) : #[p, q] ++ ((Array.replicate 24 undef).setIfInBounds 5 x).setIfInBounds 2 x = #[p, q, undef, undef, x, undef, undef, x, undef, undef, undef, undef, undef, undef, undef, undef, undef, undef, undef, undef, undef, undef, undef, undef, undef, undef] := by
  simp [Array.replicate, List.replicate]
set_option maxRecDepth 100000 in
theorem fault_idle (p q : Value) (w : World) :
    CallsD Tryd.prog 25 #[p, q] .returning w fun e u' w' => e = .returned (.tuple #[]) ∧ u' = .returning ∧ w' = w := by
  refine callsD_of_wpS Tryd.func25 rfl fun c₀ cs hu => ?_
  apply wpS_seq
  apply wpS_region
  simp [wpOpsS, go_sem, recoverD, hu, Tryd.ntmps25, Exit.thenS]
  refine wpS_of_wp ?_
  obtain ⟨Q, hQ⟩ : ∃ Q : Exit → Act → World → Prop, (fun e a' w' => bodyPostS Tryd.prog Tryd.f25 c₀ cs (fun e u' w' => e = Ending.returned (.tuple #[]) ∧ u' = .returning ∧ w' = w) e a' (c₀ :: cs) w') = Q := ⟨_, rfl⟩
  rw [hQ, fault_frame]
  have HQ := Lib.hid hQ
  clear hQ
  go_wp2
  rw [← HQ.out]
  simp [bodyPostS, results, Tryd.results25]
  cases c₀; simp_all

theorem assert_errno (k : Int) (w : World) : (Instr.typeAssert (.iface 34 (.int .i64 k)) 20 34 true).run Tryd.prog w = .ok (.tuple #[.int .i64 k, .bool true]) w := by kernel_rfl
set_option maxRecDepth 100000 in
theorem fault_some (k : Int) (older : List PanicEntry) (p : Value) (a : Int) (eb : Nat) (x : Value) (w : World) (hp : Calls Tryd.prog 38 #[p] w fun e w' => e = .returned (.int .i64 a) ∧ w' = w)
    (hc : w.cell? ⟨eb, 0, none⟩ = some x) (hx : x.oneCell' = true) (hz : w.frozen? ⟨eb, 0, none⟩ = false) :
    CallsD Tryd.prog 25 #[p, .pointer (some ⟨eb, 0, none⟩)] (.panicking ({ v := .iface 34 (.int .i64 k), recovered := false } :: older)) w fun e u' w' =>
      e = .returned (.tuple #[]) ∧ u' = .panicking ({ v := .iface 34 (.int .i64 k), recovered := true } :: older) ∧
      w' = (w.setCell ⟨eb, 0, none⟩ (.iface 61 (.pointer (some ⟨w.heap.size, 0, none⟩)))).alloc (.cells #[.int .i64 k, .int .i64 a] 66) := by
  refine callsD_of_wpS Tryd.func25 rfl fun c₀ cs hu => ?_
  apply wpS_seq
  apply wpS_region
  simp [wpOpsS, go_sem, recoverD, hu, Tryd.ntmps25, Exit.thenS]
  refine wpS_of_wp ?_
  obtain ⟨Q, hQ⟩ : ∃ Q : Exit → Act → World → Prop, (fun e a' w' => bodyPostS Tryd.prog Tryd.f25 c₀ cs (fun e u' w' => e = Ending.returned (.tuple #[]) ∧ u' = .panicking ({ v := .iface 34 (.int .i64 k), recovered := true } :: older) ∧ w' = (w.setCell ⟨eb, 0, none⟩ (.iface 61 (.pointer (some ⟨w.heap.size, 0, none⟩)))).alloc (.cells #[.int .i64 k, .int .i64 a] 66)) e a' ({ c₀ with mode := .panicking ({ v := .iface 34 (.int .i64 k), recovered := true } :: older) } :: cs) w') = Q := ⟨_, rfl⟩
  rw [hQ, fault_frame]
  have HQ := Lib.hid hQ
  clear hQ hu
  have ha := assert_errno k
  have hl := lt_of_cell hc
  go_wp2_with fail
  refine hp.mono ?_
  rintro e w1 ⟨rfl, rfl⟩
  go_wp2
  rw [← HQ.out]
  exact ⟨rfl, _, rfl, .tuple #[], by simp [results, Tryd.results25], rfl, rfl, rfl⟩
end Go.Proofs.YtmcmapcijncblaaDoor
