/- A reader that is none. -/
import Derived.Test.YtmcmapcijncblaaDoorUnpJ
namespace Go.Proofs.YtmcmapcijncblaaDoor
open Go.RowKit
set_option linter.unusedSimpArgs false
set_option linter.unusedVariables false

theorem door_nil {fn : Func} {tmps : Array Value} {R : Ending → World → Prop} (k : Int) (w1 : World) (eb : Nat) (val : Value)
    (he : w1.heap[eb]? = some (.cells #[.nilIface] 31 (0, 0)))
    (hr : ∀ w : World, w.cell? ⟨eb, 0, none⟩ = some (.iface 61 (.pointer (some ⟨w1.heap.size, 0, none⟩))) → (results fn tmps).run Tryd.prog w = .ok val w)
    (hR : ∀ w' : World, ExtB (some eb) w1 w' → w'.heap[w1.heap.size]? = some (.cells #[.int .i64 k, .int .i64 0] 66 (0, 0)) → R (.returned val) w') :
    Leaves Tryd.prog fn tmps R [{ target := .fn (.func 25) #[], args := #[.pointer none, .pointer (some ⟨eb, 0, none⟩)] }] (.panicking (chainOf k)) w1 := by
  refine leaves_cons (f := 25) (args := #[.pointer none, .pointer (some ⟨eb, 0, none⟩)]) (by simp) (by simp [go_sem]) ?_
  refine (fault_some k [] (.pointer none) 0 eb .nilIface w1 (place_nil w1) (block_cell he 0) rfl (block_free he 0)).mono ?_
  rintro e u' w'' ⟨rfl, rfl, rfl⟩
  have hl := lt_of_block he
  have hs : (w1.setCell ⟨eb, 0, none⟩ (.iface 61 (.pointer (some ⟨w1.heap.size, 0, none⟩)))).heap.size = w1.heap.size := by simp
  have hb0 : (w1.setCell ⟨eb, 0, none⟩ (.iface 61 (.pointer (some ⟨w1.heap.size, 0, none⟩)))).heap[eb]? = _ := block_setCell he _
  have hb := block_alloc hb0 (.cells #[.int .i64 k, .int .i64 0] 66)
  refine ⟨_, hr _ (block_cell hb 0), hR _ ?_ ?_⟩
  · refine ⟨rfl, rfl, rfl, by simp, fun i hi hn => ?_⟩
    rw [Below.heap_alloc _ _ _ (by rw [hs]; exact hi), Below.heap_setCell _ _ _ _ (by intro e; subst e; exact hn rfl)]
  · exact alloc_new_at _ hs

/-- What a reader that is none answers: a fault. -/
def NoneIs (zero : List Value) (w : World) (e : Ending) (w' : World) : Prop :=
  Below w.heap.size w w' ∧ ∃ f, e = .returned (match zero with | [] => .iface 61 (.pointer (some ⟨f, 0, none⟩)) | z :: _ => .tuple #[z, .iface 61 (.pointer (some ⟨f, 0, none⟩))]) ∧ w.heap.size ≤ f ∧ FltB w' f 1 0

set_option maxRecDepth 100000 in
set_option maxHeartbeats 1000000 in
theorem left_nil (w : World) : Calls Tryd.prog 23 #[.pointer none] w (NoneIs [] w) := by
  go_enter_defers Tryd.func23, Tryd.ntmps23
  go_wp2_with fail
  obtain ⟨W, hW⟩ : ∃ W, w.alloc (.cells #[.nilIface] 31) = W := ⟨_, rfl⟩
  have WB : Hid (Below w.heap.size w W) := Lib.hid (by rw [← hW]; (repeat (first | exact Below.refl _ _ | assumption | (refine bdrew ?_) | (refine bdrewN ?_ _) | (refine balloc ?_ _) | (refine bset ?_ (by first | omega | (simp; done) | (simp; omega)) _) | (refine bnext ?_ (by assumption)))))
  have W0 : Hid (W.heap[w.heap.size]? = some (.cells #[.nilIface] 31 (0, 0))) := Lib.hid (by rw [← hW]; (repeat (first | exact alloc_new_at _ (by repeat (first | rfl | refine alloc_size _ ?_)) | refine block_alloc ?_ _)))
  rw [hW]
  clear hW
  refine (here_nil W).mono ?_
  rintro e w1 ⟨rfl, hb1⟩
  have B1 := Lib.hid hb1
  clear hb1
  go_wp2
  refine door_nil 1 w1 w.heap.size _ ((B1.out.block _ (lt_of_block W0.out)).trans W0.out) (fun w hc => by simp [results, Tryd.results23, go_sem, hc]; rfl) (fun w' hE hf => ?_)
  have hz := (bnext WB.out B1.out).size
  exact ⟨grownBy_below (bnext WB.out B1.out) hE (fun k hk => by cases hk; exact Nat.le_refl _), _, rfl, hz, hf⟩

set_option maxRecDepth 100000 in
set_option maxHeartbeats 1000000 in
theorem End_nil (w : World) : Calls Tryd.prog 12 #[.pointer none] w (NoneIs [] w) := by
  go_enter Tryd.func12, Tryd.ntmps12
  go_wp2_with fail
  refine (left_nil w).mono ?_
  rintro e w1 ⟨hb1, f, rfl, hf, hfb⟩
  have B1 := Lib.hid hb1
  have F1 := Lib.hid hfb
  clear hb1 hfb
  go_wp2_with fail
  refine (is_fault f 1 1 _ (block_cell (block_alloc F1.out _) 0)).mono ?_
  rintro e w2 ⟨rfl, hw2⟩
  have hb11 : ((1 : Int) == 1) = true := by decide
  have B2 : Hid (Below w1.heap.size w1 w2) := Lib.hid (by rw [hw2]; exact balloc (Below.refl _ _) _)
  clear hw2
  go_wp2
  go_ret
  exact ⟨bnext B1.out B2.out, f, rfl, hf, F1.out.below B2.out⟩

set_option maxRecDepth 100000 in
set_option maxHeartbeats 1000000 in
theorem Num_nil (w : World) (B : Nat) (ht : Tabs B w) : Calls Tryd.prog 15 #[.pointer none] w (NoneIs [.int .u64 0] w) := by
  obtain ⟨tb, tq, rc, -, -, -, cg, hrow⟩ := ht.nums
  have hgl := lt_of_cell cg
  have HG := Lib.hid cg
  clear ht hrow cg
  go_enter_defers Tryd.func15, Tryd.ntmps15
  go_wp2
  obtain ⟨W, hW⟩ : ∃ W, w.alloc (.cells #[.nilIface] 31) = W := ⟨_, rfl⟩
  have WB : Hid (Below w.heap.size w W) := Lib.hid (by rw [← hW]; (repeat (first | exact Below.refl _ _ | assumption | (refine bdrew ?_) | (refine bdrewN ?_ _) | (refine balloc ?_ _) | (refine bset ?_ (by first | omega | (simp; done) | (simp; omega)) _) | (refine bnext ?_ (by assumption)))))
  have W0 : Hid (W.heap[w.heap.size]? = some (.cells #[.nilIface] 31 (0, 0))) := Lib.hid (by rw [← hW]; (repeat (first | exact alloc_new_at _ (by repeat (first | rfl | refine alloc_size _ ?_)) | refine block_alloc ?_ _)))
  rw [hW]
  clear hW
  have cg : W.cell? ⟨0, 0, none⟩ = some (.slice (some ⟨tb, tq, none⟩) (len numsL) rc) := by rw [WB.out.cell (p := ⟨0, 0, none⟩) hgl]; exact HG.out
  have hzW := lt_of_block W0.out
  --REGION (*sextant/unpack.Reader).Num 2 num2n
  refine wp_region_tail 5 1000 (none) (phis [fun u _ => u = (.pointer none), fun _ _ => False, fun u _ => u = (.slice (some ⟨tb, tq, none⟩) (len numsL) rc), fun _ _ => False, fun u w' => ∃ b', u = .pointer (some ⟨b', 0, none⟩) ∧ w.heap.size < b' ∧ w'.heap[b']? = some (.cells #[.int .u64 0, .string ⟨#[]⟩] 71 (0, 0))]) rfl (by kernel_rfl) (by kernel_rfl) (mono_of ⟨mono_eq, ?m1, mono_eq, ?m3, ?m4, trivial⟩) (steps_of 5 ⟨?s0, ?s1, ?s2, ?s3, ?s4, trivial⟩) ?_
  case m1 =>
    exact ⟨fun _ _ _ _ h => h, fun _ _ _ _ _ h => h⟩
  case m3 =>
    exact ⟨fun _ _ _ _ h => h, fun _ _ _ _ _ h => h⟩
  case m4 =>
    exact ⟨fun u w1 w' h ⟨b', h1, h2, h3⟩ => ⟨b', h1, h2, ext_block h h3⟩, fun _ u w1 w' h ⟨b', h1, h2, h3⟩ => ⟨b', h1, h2, extB_block h (by simp) h3⟩⟩
  case s0 =>
    refine step_val (v := (.pointer none)) (fun av wv hE hS hO hD => ?_) (fun _ => rfl)
    have h0 : av.eval (.tmp 0) = (.pointer none) := hO.2.2 0 rfl
    have f0 := (ev_form av 0).symm.trans h0
    refine ⟨rfl, ?_⟩
    simp [go_sem, f0]
  case s1 =>
    refine step_wp (fun av wv hE hS hO hD => ?_)
    have d6 : av.eval (.tmp 6) = (.pointer none) := hD.1 rfl _ rfl
    have f6 := (ev_form av 6).symm.trans d6
    refine ⟨rfl, ?_⟩
    refine wp_of_panic (chain := chainOf 1) (by simp [go_sem, f6]) ((here_nil wv).mono (fun e w' hh => hh)) (fun w2 hb => ?_)
    have g2 : av.eval (.tmp 2) = .int .u64 0 := hO.2.2 2 rfl
    have g3 : av.eval (.tmp 3) = .pointer (some ⟨w.heap.size, 0, none⟩) := hO.2.2 3 rfl
    have f2 := (ev_form av 2).symm.trans g2
    have f3 := (ev_form av 3).symm.trans g3
    have B2 := bnext (of_drew hE) hb
    show Leaves _ _ av.tmps _ av.defers _ _
    rw [hO.1]
    refine door_nil 1 w2 w.heap.size _ ((B2.block _ (lt_of_block W0.out)).trans W0.out) (fun w hc => by simp [results, Tryd.results15, go_sem, hc, f2, f3]; rfl) (fun w' hE hf => ?_)
    have hz := (bnext WB.out B2).size
    exact ⟨grownBy_below (bnext WB.out B2) hE (fun k hk => by cases hk; exact Nat.le_refl _), _, rfl, hz, hf⟩
  case s2 =>
    refine step_val (v := (.slice (some ⟨tb, tq, none⟩) (len numsL) rc)) (fun av wv hE hS hO hD => ?_) (fun _ => rfl)
    have cg := extB_cell hE (by simp) cg
    refine ⟨rfl, ?_⟩
    simp [go_sem, cg]
  case s3 =>
    refine step_wp (fun av wv hE hS hO hD => ?_)
    have d7 : (fun _ _ => False) (av.eval (.tmp 7)) wv := hD.1 rfl _ rfl
    have d8 : av.eval (.tmp 8) = (.slice (some ⟨tb, tq, none⟩) (len numsL) rc) := hD.2.1 rfl _ rfl
    have f8 := (ev_form av 8).symm.trans d8
    refine ⟨rfl, ?_⟩
    exact (hD.1 rfl _ rfl : False).elim
  case s4 =>
    refine step_wp (fun av wv hE hS hO hD => ?_)
    refine ⟨rfl, ?_⟩
    refine wp_of_run (v := .pointer (some ⟨wv.heap.size, 0, none⟩)) (w' := wv.alloc (.cells #[.int .u64 0, .string ⟨#[]⟩] 71)) (by simp [go_sem]) ⟨_, rfl, es_of_ext (balloc (Ext_refl _) _), wv.heap.size, rfl, ?_, heap_alloc_new _ _⟩
    have := (of_drew hE).size; omega
  intro a' w' hE hO hall
  have hA := act_of_outer (ds := [6, 7, 8, 9, 4]) rfl hO (by kernel_rfl)
  have e6 : (fun u _ => u = (.pointer none)) (a'.eval (.tmp 6)) w' := hall.1 _ rfl
  have e7 : (fun _ _ => False) (a'.eval (.tmp 7)) w' := hall.2.1 _ rfl
  have e8 : (fun u _ => u = (.slice (some ⟨tb, tq, none⟩) (len numsL) rc)) (a'.eval (.tmp 8)) w' := hall.2.2.1 _ rfl
  have e9 : (fun _ _ => False) (a'.eval (.tmp 9)) w' := hall.2.2.2.1 _ rfl
  have e4 : (fun u w' => ∃ b', u = .pointer (some ⟨b', 0, none⟩) ∧ w.heap.size < b' ∧ w'.heap[b']? = some (.cells #[.int .u64 0, .string ⟨#[]⟩] 71 (0, 0))) (a'.eval (.tmp 4)) w' := hall.2.2.2.2.1 _ rfl
  obtain ⟨v7, hv7⟩ : ∃ v, a'.eval (.tmp 7) = v := ⟨_, rfl⟩
  rw [hv7] at e7
  obtain ⟨v9, hv9⟩ : ∃ v, a'.eval (.tmp 9) = v := ⟨_, rfl⟩
  rw [hv9] at e9
  obtain ⟨v4, hv4⟩ : ∃ v, a'.eval (.tmp 4) = v := ⟨_, rfl⟩
  rw [hv4] at e4
  simp only [List.foldl_cons, List.foldl_nil, Act.put, List.setIfInBounds_toArray, List.set_cons_succ, List.set_cons_zero, e6, hv7, e8, hv9, hv4] at hA
  clear hO hall e6 hv7 e8 hv9 hv4
  subst hA
  --ENDREGION
  exact absurd e7 id

set_option maxRecDepth 100000 in
set_option maxHeartbeats 1000000 in
theorem text_nil (w : World) (r : Value) : Calls Tryd.prog 30 #[.pointer none, r] w (NoneIs [.string ⟨#[]⟩] w) := by
  go_enter_defers Tryd.func30, Tryd.ntmps30
  go_wp2_with fail
  obtain ⟨W, hW⟩ : ∃ W, w.alloc (.cells #[.nilIface] 31) = W := ⟨_, rfl⟩
  have WB : Hid (Below w.heap.size w W) := Lib.hid (by rw [← hW]; (repeat (first | exact Below.refl _ _ | assumption | (refine bdrew ?_) | (refine bdrewN ?_ _) | (refine balloc ?_ _) | (refine bset ?_ (by first | omega | (simp; done) | (simp; omega)) _) | (refine bnext ?_ (by assumption)))))
  have W0 : Hid (W.heap[w.heap.size]? = some (.cells #[.nilIface] 31 (0, 0))) := Lib.hid (by rw [← hW]; (repeat (first | exact alloc_new_at _ (by repeat (first | rfl | refine alloc_size _ ?_)) | refine block_alloc ?_ _)))
  rw [hW]
  clear hW
  refine (here_nil W).mono ?_
  rintro e w1 ⟨rfl, hb1⟩
  have B1 := Lib.hid hb1
  clear hb1
  go_wp2
  refine door_nil 1 w1 w.heap.size _ ((B1.out.block _ (lt_of_block W0.out)).trans W0.out) (fun w hc => by simp [results, Tryd.results30, go_sem, hc]; rfl) (fun w' hE hf => ?_)
  have hz := (bnext WB.out B1.out).size
  exact ⟨grownBy_below (bnext WB.out B1.out) hE (fun k hk => by cases hk; exact Nat.le_refl _), _, rfl, hz, hf⟩

set_option maxRecDepth 100000 in
set_option maxHeartbeats 1000000 in
theorem Str_nil (w : World) (B : Nat) (ht : Tabs B w) : Calls Tryd.prog 18 #[.pointer none] w (NoneIs [.string ⟨#[]⟩] w) := by
  obtain ⟨tb, tq, rc, -, -, -, cg, hrow⟩ := ht.strs
  clear ht hrow
  go_enter Tryd.func18, Tryd.ntmps18
  go_wp2_with fail
  refine (text_nil w _).mono ?_
  rintro e w1 ⟨hb1, f, rfl, hf, hfb⟩
  have B1 := Lib.hid hb1
  have F1 := Lib.hid hfb
  clear hb1 hfb cg
  go_wp2
  go_ret2
  exact ⟨B1.out, f, rfl, hf, F1.out⟩
end Go.Proofs.YtmcmapcijncblaaDoor
