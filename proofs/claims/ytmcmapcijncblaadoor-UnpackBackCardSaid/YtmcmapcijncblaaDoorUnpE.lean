/- Contracts: whether bytes are left, the end; what an error is. -/
import Derived.Test.YtmcmapcijncblaaDoorUnpD
import Derived.Test.YtmcmapcijncblaaDoorErr
namespace Go.Proofs.YtmcmapcijncblaaDoor
set_option linter.unusedSimpArgs false
set_option linter.unusedVariables false
open Go.RowKit

/-- A fault's block. -/
def FltB (w : World) (f : Nat) (k : Int) (a : Nat) : Prop := w.heap[f]? = some (.cells #[.int .i64 k, .int .i64 a] 66 (0, 0))
theorem FltB.below {w w' : World} {f : Nat} {k : Int} {a : Nat} (h : FltB w f k a) (hb : Below w.heap.size w w') : FltB w' f k a := (hb.block _ (lt_of_block h)).trans h
theorem ErrType.below {w w' : World} (h : ErrType w) (hb : Below w.heap.size w w') : ErrType w' := by
  unfold ErrType at *
  rw [hb.cell (p := ⟨_, 0, none⟩) (lt_of_cell h)]; exact h

/-- What left and End answer: nil, or a fault. -/
def LeftIs (k : Option Int) (b : Nat) (s : ByteArray) (most : Int) (a : Nat) (w : World) (e : Ending) (w' : World) : Prop :=
  Below w.heap.size w w' ∧ match k with
    | none => e = .returned .nilIface
    | some k => ∃ f, e = .returned (.iface 61 (.pointer (some ⟨f, 0, none⟩))) ∧ w.heap.size ≤ f ∧ FltB w' f k a
def leftOf (s : ByteArray) (a : Nat) : Option Int := if a < s.size then some 5 else none

theorem empty_of {t : ByteArray} (h : t.size = 0) : t.toList.isEmpty = true := by
  rw [ByteArray.toList_eq]; cases t with | mk d => simp_all [ByteArray.size]
theorem full_of {t : ByteArray} (h : t.size ≠ 0) : t.toList.isEmpty = false := by
  rw [ByteArray.toList_eq]; cases t with | mk d => simp_all [ByteArray.size]
theorem ext_empty (s : ByteArray) (a : Nat) (h : ¬ a < s.size) : (s.extract a s.size).toList.isEmpty = true := empty_of (by rw [ByteArray.size_extract]; omega)
theorem ext_some (s : ByteArray) (a : Nat) (h : a < s.size) : (s.extract a s.size).toList.isEmpty = false := full_of (by rw [ByteArray.size_extract]; omega)

theorem door_left {fn : Func} {tmps : Array Value} {R : Ending → World → Prop} (k : Int) (b : Nat) (s : ByteArray) (a : Nat) (most : Int) (w1 : World) (eb : Nat) (h : RdB w1 b s a most)
    (he : w1.heap[eb]? = some (.cells #[.nilIface] 31 (0, 0)))
    (hr : ∀ w : World, w.cell? ⟨eb, 0, none⟩ = some (.iface 61 (.pointer (some ⟨w1.heap.size, 0, none⟩))) → (results fn tmps).run Tryd.prog w = .ok (.iface 61 (.pointer (some ⟨w1.heap.size, 0, none⟩))) w)
    (hR : ∀ w' : World, ExtB (some eb) w1 w' → w'.heap[w1.heap.size]? = some (.cells #[.int .i64 k, .int .i64 a] 66 (0, 0)) → R (.returned (.iface 61 (.pointer (some ⟨w1.heap.size, 0, none⟩)))) w') :
    Leaves Tryd.prog fn tmps R [{ target := .fn (.func 25) #[], args := #[.pointer (some ⟨b, 0, none⟩), .pointer (some ⟨eb, 0, none⟩)] }] (.panicking (chainOf k)) w1 := by
  refine leaves_cons (f := 25) (args := #[.pointer (some ⟨b, 0, none⟩), .pointer (some ⟨eb, 0, none⟩)]) (by simp) (by simp [go_sem]) ?_
  refine (fault_some k [] (.pointer (some ⟨b, 0, none⟩)) a eb .nilIface w1 (place_any w1 b s a most h) (block_cell he 0) rfl (block_free he 0)).mono ?_
  rintro e u' w'' ⟨rfl, rfl, rfl⟩
  have hl := lt_of_block he
  have hs : (w1.setCell ⟨eb, 0, none⟩ (.iface 61 (.pointer (some ⟨w1.heap.size, 0, none⟩)))).heap.size = w1.heap.size := by simp
  have hb0 : (w1.setCell ⟨eb, 0, none⟩ (.iface 61 (.pointer (some ⟨w1.heap.size, 0, none⟩)))).heap[eb]? = _ := block_setCell he _
  have hb := block_alloc hb0 (.cells #[.int .i64 k, .int .i64 a] 66)
  refine ⟨_, hr _ (block_cell hb 0), hR _ ?_ ?_⟩
  · refine ⟨rfl, rfl, rfl, by simp, fun i hi hn => ?_⟩
    rw [Below.heap_alloc _ _ _ (by rw [hs]; exact hi), Below.heap_setCell _ _ _ _ (by intro e; subst e; exact hn rfl)]
  · exact alloc_new_at _ hs

set_option maxRecDepth 100000 in
set_option maxHeartbeats 1000000 in
theorem left_any (w : World) (b : Nat) (s : ByteArray) (a : Nat) (most : Int) (h : RdB w b s a most) (ha : a ≤ s.size) (hs : s.size ≤ 9223372036854775807) :
    Calls Tryd.prog 23 #[.pointer (some ⟨b, 0, none⟩)] w (LeftIs (leftOf s a) b s most a w) := by
  have H := Lib.hid h
  have hbl := lt_of_block h
  clear h
  go_enter_defers Tryd.func23, Tryd.ntmps23
  go_wp2_with fail
  obtain ⟨W, hW⟩ : ∃ W, w.alloc (.cells #[.nilIface] 31) = W := ⟨_, rfl⟩
  have WB : Hid (Below w.heap.size w W) := Lib.hid (by rw [← hW]; (repeat (first | exact Below.refl _ _ | assumption | (refine bdrew ?_) | (refine bdrewN ?_ _) | (refine balloc ?_ _) | (refine bset ?_ (by first | omega | (simp; done) | (simp; omega)) _) | (refine bnext ?_ (by assumption)))))
  have W0 : Hid (W.heap[w.heap.size]? = some (.cells #[.nilIface] 31 (0, 0))) := Lib.hid (by rw [← hW]; (repeat (first | exact alloc_new_at _ (by repeat (first | rfl | refine alloc_size _ ?_)) | refine block_alloc ?_ _)))
  rw [hW]
  clear hW
  refine (here_any W b s a most (H.out.below WB.out) ha hs).mono ?_
  rintro e w1 ⟨rfl, hb1⟩
  have B1 := Lib.hid hb1
  clear hb1
  by_cases hlt : a < s.size
  · have he := ext_some s a hlt
    have he2 : (!(s.extract a s.size).toList.isEmpty) = true := by rw [he]; rfl
    have T : Hid (leftOf s a = some 5) := Lib.hid (by unfold leftOf; rw [if_pos hlt])
    go_wp2_with fail
    refine (stop_any 5 _).mono ?_
    rintro e w2 ⟨rfl, rfl⟩
    go_wp2
    rw [T.out]
    refine door_left 5 b s a most w2 w.heap.size (H.out.below (bnext WB.out B1.out)) ((B1.out.block _ (lt_of_block W0.out)).trans W0.out) (fun w hc => by simp [results, Tryd.results23, go_sem, hc]) (fun w' hE hf => ?_)
    have hz := (bnext WB.out B1.out).size
    exact ⟨grownBy_below (bnext WB.out B1.out) hE (fun k hk => by cases hk; exact Nat.le_refl _), _, rfl, hz, hf⟩
  · have he := ext_empty s a hlt
    have he2 : (!(s.extract a s.size).toList.isEmpty) = false := by rw [he]; rfl
    have T : Hid (leftOf s a = none) := Lib.hid (by unfold leftOf; rw [if_neg hlt])
    have E1 := (B1.out.block _ (lt_of_block W0.out)).trans W0.out
    have a2 : w1.cell? ⟨w.heap.size, 0, none⟩ = some .nilIface := block_cell E1 0
    have a3 : w1.frozen? ⟨w.heap.size, 0, none⟩ = false := block_free E1 0
    have hz1 := lt_of_block E1
    clear E1
    go_wp2
    rw [T.out]
    refine leaves_cons (f := 25) (args := #[.pointer (some ⟨b, 0, none⟩), .pointer (some ⟨w.heap.size, 0, none⟩)]) (by simp) (by simp [go_sem]) ?_
    refine (fault_idle (.pointer (some ⟨b, 0, none⟩)) (.pointer (some ⟨w.heap.size, 0, none⟩)) _).mono ?_
    rintro e u' w'' ⟨rfl, rfl, rfl⟩
    refine ⟨_, by simp [results, Tryd.results23, go_sem, a2]; rfl, ?_⟩
    exact ⟨bset (bnext WB.out B1.out) (by show w.heap.size ≤ w.heap.size; exact Nat.le_refl _) _, rfl⟩

set_option maxRecDepth 100000 in
set_option maxHeartbeats 1000000 in
theorem End_any (w : World) (b : Nat) (s : ByteArray) (a : Nat) (most : Int) (het : ErrType w) (h : RdB w b s a most) (ha : a ≤ s.size) (hs : s.size ≤ 9223372036854775807) :
    Calls Tryd.prog 12 #[.pointer (some ⟨b, 0, none⟩)] w (LeftIs (leftOf s a) b s most a w) := by
  have H := Lib.hid h
  have HET := Lib.hid het
  clear h het
  go_enter Tryd.func12, Tryd.ntmps12
  go_wp2_with fail
  refine (left_any w b s a most H.out ha hs).mono ?_
  rintro e w1 ⟨hb1, hm⟩
  have B1 := Lib.hid hb1
  clear hb1
  cases hl : leftOf s a with
  | none =>
    rw [hl] at hm
    subst hm
    have T := Lib.hid hl
    clear hl
    go_wp2_with fail
    refine (is_none 1 _).mono ?_
    rintro e w2 ⟨rfl, rfl⟩
    go_wp2_with fail
    refine (as_none _ _).mono ?_
    rintro e w2 ⟨rfl, rfl⟩
    go_wp2
    go_ret
    rw [T.out]
    exact ⟨(by have := B1.out; (repeat (first | exact Below.refl _ _ | assumption | (refine bdrew ?_) | (refine bdrewN ?_ _) | (refine balloc ?_ _) | (refine bset ?_ (by first | omega | (simp; done) | (simp; omega)) _) | (refine bnext ?_ (by assumption))))), rfl⟩
  | some k =>
    have hk : k = 5 := by unfold leftOf at hl; split at hl <;> simp_all
    subst hk
    rw [hl] at hm
    obtain ⟨f, rfl, hf, hfb⟩ := hm
    have T := Lib.hid hl
    have F1 := Lib.hid hfb
    clear hl hfb
    go_wp2_with fail
    refine (is_fault f 5 1 _ (block_cell (block_alloc F1.out _) 0)).mono ?_
    rintro e w2 ⟨rfl, hw2⟩
    have hb51 : ((5 : Int) == 1) = false := by decide
    have B2 : Hid (Below w1.heap.size w1 w2) := Lib.hid (by rw [hw2]; exact balloc (Below.refl _ _) _)
    have T2 : Hid (w2.heap[w1.heap.size]? = some (.cells #[.pointer none] 61 (0, 0))) := Lib.hid (by rw [hw2]; exact heap_alloc_new _ _)
    clear hw2
    go_wp2_with fail
    refine (as_fault f w1.heap.size none w2 (HET.out.below (bnext B1.out B2.out)) T2.out).mono ?_
    rintro e w3 ⟨rfl, hE3, hb3⟩
    have X3 : Hid (Below w.heap.size w w3) := Lib.hid (grownBy_below (bnext B1.out B2.out) hE3 (fun k hk => by cases hk; exact B1.out.size))
    have F3 : Hid (FltB w3 f 5 a) := Lib.hid (extB_block hE3 (by
      have := lt_of_block F1.out
      intro e; cases e; omega) (F1.out.below B2.out))
    clear hE3 hb3
    go_wp2
    go_ret
    rw [T.out]
    exact ⟨X3.out, f, rfl, hf, F3.out⟩

theorem fault_nil (w : World) : Calls Tryd.prog 11 #[.nilIface] w fun e w' => e = .returned (.tuple #[.int .i64 0, .int .i64 0, .bool true]) ∧ w' = w := by
  go_enter Tryd.func11, Tryd.ntmps11
  go_wp2
  go_ret3
  exact ⟨rfl, rfl⟩

set_option maxRecDepth 100000 in
set_option maxHeartbeats 1000000 in
theorem fault_is (w : World) (f : Nat) (k : Int) (a : Nat) (het : ErrType w) (h : FltB w f k a) (hk : k ≠ 0) :
    Calls Tryd.prog 11 #[.iface 61 (.pointer (some ⟨f, 0, none⟩))] w fun e w' => e = .returned (.tuple #[.int .i64 k, .int .i64 a, .bool true]) ∧ Below w.heap.size w w' := by
  have H := Lib.hid h
  have HET := Lib.hid het
  have hfl := lt_of_block h
  have k0 : (k == 0) = false := by simpa using hk
  have kk : (k == k) = true := by simp
  have HK := Lib.hid hk
  clear h het hk
  go_enter Tryd.func11, Tryd.ntmps11
  go_wp2_with fail
  obtain ⟨W, hW⟩ : ∃ W, w.alloc (.cells #[.pointer none] 61) = W := ⟨_, rfl⟩
  have WB : Hid (Below w.heap.size w W) := Lib.hid (by rw [← hW]; (repeat (first | exact Below.refl _ _ | assumption | (refine bdrew ?_) | (refine bdrewN ?_ _) | (refine balloc ?_ _) | (refine bset ?_ (by first | omega | (simp; done) | (simp; omega)) _) | (refine bnext ?_ (by assumption)))))
  have W0 : Hid (W.heap[w.heap.size]? = some (.cells #[.pointer none] 61 (0, 0))) := Lib.hid (by rw [← hW]; (repeat (first | exact alloc_new_at _ (by repeat (first | rfl | refine alloc_size _ ?_)) | refine block_alloc ?_ _)))
  rw [hW]
  clear hW
  refine (as_fault f w.heap.size none W (HET.out.below WB.out) W0.out).mono ?_
  rintro e w1 ⟨rfl, hE, hb⟩
  have X1 : Hid (Below w.heap.size w w1) := Lib.hid (grownBy_below WB.out hE (fun k hk => by cases hk; exact Nat.le_refl _))
  have F1 : Hid (FltB w1 f k a) := Lib.hid (extB_block hE (by intro e; cases e; omega) (H.out.below WB.out))
  have z0 : w1.cell? ⟨w.heap.size, 0, none⟩ = some (.pointer (some ⟨f, 0, none⟩)) := block_cell hb 0
  have z1 : w1.cell? ⟨f, 0, none⟩ = some (.int .i64 k) := block_cell F1.out 0
  have z2 : w1.cell? ⟨f, 1, none⟩ = some (.int .i64 a) := block_cell F1.out 1
  clear hE hb
  go_wp2_with fail
  refine (is_fault f k k _ z1).mono ?_
  rintro e w2 ⟨rfl, rfl⟩
  rw [kk]
  go_wp2
  --REGION sextant/sextantlaw06.fault 6 fault6
  refine wp_region_all 1000 (none) (phis [fun u _ => u = (.pointer (some ⟨f, 0, none⟩)), fun u _ => u = (.pointer (some ⟨f, 0, none⟩)), fun u _ => u = (.pointer (some ⟨f, 0, none⟩)), fun u _ => u = (.int .i64 k), fun u _ => u = (.pointer (some ⟨f, 0, none⟩)), fun u _ => u = (.pointer (some ⟨f, 0, none⟩)), fun u _ => u = (.pointer (some ⟨f, 1, none⟩)), fun u _ => u = (.int .i64 a), fun u _ => u = (.int .i64 k), fun u _ => u = (.int .i64 a), fun u _ => u = (.bool true)]) rfl (by kernel_rfl) (mono_of ⟨mono_eq, mono_eq, mono_eq, mono_eq, mono_eq, mono_eq, mono_eq, mono_eq, mono_eq, mono_eq, mono_eq, trivial⟩) (steps_of 11 ⟨?s0, ?s1, ?s2, ?s3, ?s4, ?s5, ?s6, ?s7, ?s8, ?s9, ?s10, trivial⟩) ?_
  case s0 =>
    refine step_val (v := (.pointer (some ⟨f, 0, none⟩))) (fun av wv hE hS hO hD => ?_) (fun _ => rfl)
    have h5 : av.eval (.tmp 5) = (.pointer (some ⟨w.heap.size, 0, none⟩)) := hO.2.2 5 rfl
    have f5 := (ev_form av 5).symm.trans h5
    have z0 := extB_cell hE (by simp) z0
    have z1 := extB_cell hE (by simp) z1
    have z2 := extB_cell hE (by simp) z2
    refine ⟨rfl, ?_⟩
    simp [go_sem, f5, z0, z1, z2]
  case s1 =>
    refine step_val (v := (.pointer (some ⟨f, 0, none⟩))) (fun av wv hE hS hO hD => ?_) (fun _ => rfl)
    have d33 : av.eval (.tmp 33) = (.pointer (some ⟨f, 0, none⟩)) := hD.1 rfl _ rfl
    have f33 := (ev_form av 33).symm.trans d33
    refine ⟨rfl, ?_⟩
    simp [go_sem, f33]
  case s2 =>
    refine step_val (v := (.pointer (some ⟨f, 0, none⟩))) (fun av wv hE hS hO hD => ?_) (fun _ => rfl)
    have d34 : av.eval (.tmp 34) = (.pointer (some ⟨f, 0, none⟩)) := hD.1 rfl _ rfl
    have f34 := (ev_form av 34).symm.trans d34
    refine ⟨rfl, ?_⟩
    simp [go_sem, f34]
  case s3 =>
    refine step_val (v := (.int .i64 k)) (fun av wv hE hS hO hD => ?_) (fun _ => rfl)
    have d35 : av.eval (.tmp 35) = (.pointer (some ⟨f, 0, none⟩)) := hD.1 rfl _ rfl
    have f35 := (ev_form av 35).symm.trans d35
    have z0 := extB_cell hE (by simp) z0
    have z1 := extB_cell hE (by simp) z1
    have z2 := extB_cell hE (by simp) z2
    refine ⟨rfl, ?_⟩
    simp [go_sem, f35, z0, z1, z2]
  case s4 =>
    refine step_val (v := (.pointer (some ⟨f, 0, none⟩))) (fun av wv hE hS hO hD => ?_) (fun _ => rfl)
    have h5 : av.eval (.tmp 5) = (.pointer (some ⟨w.heap.size, 0, none⟩)) := hO.2.2 5 rfl
    have f5 := (ev_form av 5).symm.trans h5
    have z0 := extB_cell hE (by simp) z0
    have z1 := extB_cell hE (by simp) z1
    have z2 := extB_cell hE (by simp) z2
    refine ⟨rfl, ?_⟩
    simp [go_sem, f5, z0, z1, z2]
  case s5 =>
    refine step_val (v := (.pointer (some ⟨f, 0, none⟩))) (fun av wv hE hS hO hD => ?_) (fun _ => rfl)
    have d37 : av.eval (.tmp 37) = (.pointer (some ⟨f, 0, none⟩)) := hD.1 rfl _ rfl
    have f37 := (ev_form av 37).symm.trans d37
    refine ⟨rfl, ?_⟩
    simp [go_sem, f37]
  case s6 =>
    refine step_val (v := (.pointer (some ⟨f, 1, none⟩))) (fun av wv hE hS hO hD => ?_) (fun _ => rfl)
    have d38 : av.eval (.tmp 38) = (.pointer (some ⟨f, 0, none⟩)) := hD.1 rfl _ rfl
    have f38 := (ev_form av 38).symm.trans d38
    refine ⟨rfl, ?_⟩
    simp [go_sem, f38]
  case s7 =>
    refine step_val (v := (.int .i64 a)) (fun av wv hE hS hO hD => ?_) (fun _ => rfl)
    have d39 : av.eval (.tmp 39) = (.pointer (some ⟨f, 1, none⟩)) := hD.1 rfl _ rfl
    have f39 := (ev_form av 39).symm.trans d39
    have z0 := extB_cell hE (by simp) z0
    have z1 := extB_cell hE (by simp) z1
    have z2 := extB_cell hE (by simp) z2
    refine ⟨rfl, ?_⟩
    simp [go_sem, f39, z0, z1, z2]
  case s8 =>
    refine step_val (v := (.int .i64 k)) (fun av wv hE hS hO hD => ?_) (fun _ => rfl)
    have d36 : av.eval (.tmp 36) = (.int .i64 k) := hD.1 rfl _ rfl
    have f36 := (ev_form av 36).symm.trans d36
    refine ⟨rfl, ?_⟩
    simp [go_sem, f36]
  case s9 =>
    refine step_val (v := (.int .i64 a)) (fun av wv hE hS hO hD => ?_) (fun _ => rfl)
    have d40 : av.eval (.tmp 40) = (.int .i64 a) := hD.1 rfl _ rfl
    have f40 := (ev_form av 40).symm.trans d40
    refine ⟨rfl, ?_⟩
    simp [go_sem, f40]
  case s10 =>
    refine step_val (v := (.bool true)) (fun av wv hE hS hO hD => ?_) (fun _ => rfl)
    refine ⟨rfl, ?_⟩
    simp [go_sem]
  intro a' w' hE hO hall
  have hA := act_of_outer (ds := [33, 34, 35, 36, 37, 38, 39, 40, 2, 3, 4]) rfl hO (by kernel_rfl)
  have e33 : (fun u _ => u = (.pointer (some ⟨f, 0, none⟩))) (a'.eval (.tmp 33)) w' := hall.1 _ rfl
  have e34 : (fun u _ => u = (.pointer (some ⟨f, 0, none⟩))) (a'.eval (.tmp 34)) w' := hall.2.1 _ rfl
  have e35 : (fun u _ => u = (.pointer (some ⟨f, 0, none⟩))) (a'.eval (.tmp 35)) w' := hall.2.2.1 _ rfl
  have e36 : (fun u _ => u = (.int .i64 k)) (a'.eval (.tmp 36)) w' := hall.2.2.2.1 _ rfl
  have e37 : (fun u _ => u = (.pointer (some ⟨f, 0, none⟩))) (a'.eval (.tmp 37)) w' := hall.2.2.2.2.1 _ rfl
  have e38 : (fun u _ => u = (.pointer (some ⟨f, 0, none⟩))) (a'.eval (.tmp 38)) w' := hall.2.2.2.2.2.1 _ rfl
  have e39 : (fun u _ => u = (.pointer (some ⟨f, 1, none⟩))) (a'.eval (.tmp 39)) w' := hall.2.2.2.2.2.2.1 _ rfl
  have e40 : (fun u _ => u = (.int .i64 a)) (a'.eval (.tmp 40)) w' := hall.2.2.2.2.2.2.2.1 _ rfl
  have e2 : (fun u _ => u = (.int .i64 k)) (a'.eval (.tmp 2)) w' := hall.2.2.2.2.2.2.2.2.1 _ rfl
  have e3 : (fun u _ => u = (.int .i64 a)) (a'.eval (.tmp 3)) w' := hall.2.2.2.2.2.2.2.2.2.1 _ rfl
  have e4 : (fun u _ => u = (.bool true)) (a'.eval (.tmp 4)) w' := hall.2.2.2.2.2.2.2.2.2.2.1 _ rfl
  simp only [List.foldl_cons, List.foldl_nil, Act.put, List.setIfInBounds_toArray, List.set_cons_succ, List.set_cons_zero, e33, e34, e35, e36, e37, e38, e39, e40, e2, e3, e4] at hA
  clear hO hall e33 e34 e35 e36 e37 e38 e39 e40 e2 e3 e4
  subst hA
  --ENDREGION
  have Y := Lib.hid (bnext X1.out (of_drew hE))
  clear hE
  go_wp2
  go_ret3
  exact ⟨rfl, Y.out⟩
end Go.Proofs.YtmcmapcijncblaaDoor
