/- Contracts of package unpack: the exported methods that read. -/
import Derived.Test.YtmcmapcijncblaaDoorUnpC
namespace Go.Proofs.YtmcmapcijncblaaDoor
set_option linter.unusedSimpArgs false
set_option linter.unusedVariables false
open Go.RowKit

def numsL : List URow := [⟨0, 127, 0, 0⟩, ⟨204, 204, 1, 128⟩, ⟨205, 205, 2, 256⟩, ⟨206, 206, 4, 65536⟩, ⟨207, 207, 8, 4294967296⟩]
def binsL : List URow := [⟨196, 196, 1, 0⟩, ⟨197, 197, 2, 256⟩]
def strsL : List URow := [⟨160, 191, 0, 0⟩, ⟨217, 217, 1, 32⟩, ⟨218, 218, 2, 256⟩]
def listsL : List URow := [⟨144, 159, 0, 0⟩, ⟨220, 220, 2, 16⟩]
def pairsL : List URow := [⟨128, 143, 0, 0⟩, ⟨222, 222, 2, 16⟩]
theorem urows_ok {l : List URow} (h : (l.all fun r => decide (0 ≤ r.lo) && decide (r.hi ≤ 255) && decide (0 ≤ r.size) && decide (r.size ≤ 8) && decide (0 ≤ r.least) && decide (r.least ≤ 4294967296)) = true) : ∀ i, (unth l i).Ok := fun i => by
  rcases Nat.lt_or_ge i l.length with hi | hi
  · rw [unth_eq l i hi]
    have := List.all_eq_true.1 h l[i] (List.getElem_mem _)
    simp only [Bool.and_eq_true, decide_eq_true_eq] at this
    obtain ⟨⟨⟨⟨⟨a, b⟩, c⟩, d⟩, e⟩, f⟩ := this
    exact ⟨a, b, c, d, e, f⟩
  · have : unth l i = URow.zero := by unfold unth; rw [List.getD_eq_getElem?_getD, List.getElem?_eq_none hi]; rfl
    rw [this]; exact ⟨by decide, by decide, by decide, by decide, by decide, by decide⟩
theorem numsL_ok : ∀ i, (unth numsL i).Ok := urows_ok (by decide)
theorem binsL_ok : ∀ i, (unth binsL i).Ok := urows_ok (by decide)
theorem strsL_ok : ∀ i, (unth strsL i).Ok := urows_ok (by decide)
theorem listsL_ok : ∀ i, (unth listsL i).Ok := urows_ok (by decide)
theorem pairsL_ok : ∀ i, (unth pairsL i).Ok := urows_ok (by decide)

/-- A package-level variable that reads as rows, all of it below block B. -/
def TabAt (B : Nat) (w : World) (g : Nat) (l : List URow) : Prop := ∃ tb tq rc, g < B ∧ tb < B ∧ B ≤ w.heap.size ∧ w.cell? ⟨g, 0, none⟩ = some (.slice (some ⟨tb, tq, none⟩) (len l) rc) ∧ URows w (some ⟨tb, tq, none⟩) l
theorem TabAt.ext {B : Nat} {w w' : World} {g b : Nat} {l : List URow} (h : TabAt B w g l) (hE : ExtB (some b) w w') (hb : B ≤ b) : TabAt B w' g l := by
  obtain ⟨tb, tq, rc, h1, h2, h5, h3, h4⟩ := h
  have e : ∀ x o, x < B → w'.cell? ⟨x, o, none⟩ = w.cell? ⟨x, o, none⟩ := fun x o hx => World.cell?_of_block (w := w) (hE.block x (by omega) (by intro e; cases e; omega))
  refine ⟨tb, tq, rc, h1, h2, Nat.le_trans h5 hE.size, by rw [e g 0 h1]; exact h3, fun i hi => ?_⟩
  obtain ⟨b', off', e2, ⟨c0, c1, c2, c3⟩⟩ := h4 i hi
  cases e2
  exact ⟨tb, tq, rfl, by rw [e tb _ h2]; exact c0, by rw [e tb _ h2]; exact c1, by rw [e tb _ h2]; exact c2, by rw [e tb _ h2]; exact c3⟩
theorem below_extB {w w' : World} (h : Below w.heap.size w w') (b : Nat) : ExtB (some b) w w' := ⟨h.os, h.tape, h.output, h.size, fun i hi _ => h.block i hi⟩
theorem TabAt.below {B : Nat} {w w' : World} {g : Nat} {l : List URow} (h : TabAt B w g l) (hb : Below w.heap.size w w') : TabAt B w' g l := by
  obtain ⟨tb, tq, rc, h1, h2, h5, h3, h4⟩ := h
  exact TabAt.ext ⟨tb, tq, rc, h1, h2, h5, h3, h4⟩ (below_extB hb B) (Nat.le_refl _)
structure Tabs (B : Nat) (w : World) : Prop where
  nums : TabAt B w 0 numsL
  lists : TabAt B w 1 listsL
  bins : TabAt B w 2 binsL
  strs : TabAt B w 3 strsL
  pairs : TabAt B w 4 pairsL
theorem Tabs.ext {B : Nat} {w w' : World} {b : Nat} (h : Tabs B w) (hE : ExtB (some b) w w') (hb : B ≤ b) : Tabs B w' := ⟨h.nums.ext hE hb, h.lists.ext hE hb, h.bins.ext hE hb, h.strs.ext hE hb, h.pairs.ext hE hb⟩
theorem Tabs.below {B : Nat} {w w' : World} (h : Tabs B w) (hb : Below w.heap.size w w') : Tabs B w' := ⟨h.nums.below hb, h.lists.below hb, h.bins.below hb, h.strs.below hb, h.pairs.below hb⟩

set_option maxRecDepth 100000 in
theorem Bin_any (w : World) (B b : Nat) (s : ByteArray) (a : Nat) (most : Int) (ht : Tabs B w) (h : RdB w b s a most) (ha : a ≤ s.size) (hs : s.size ≤ 9223372036854775807) (hm0 : 0 ≤ most) (hm1 : most ≤ 9223372036854775807) :
    Calls Tryd.prog 17 #[.pointer (some ⟨b, 0, none⟩)] w (ReadIs (textOf s a most binsL) (.string ⟨#[]⟩) b s most a w) := by
  obtain ⟨tb, tq, rc, -, -, -, cg, hrow⟩ := ht.bins
  have HC := Lib.hid hrow
  have H := Lib.hid h
  clear ht hrow h
  go_enter Tryd.func17, Tryd.ntmps17
  go_wp2_with fail
  refine (text_any w b s a most (some ⟨tb, tq, none⟩) rc binsL H.out ha hs hm0 hm1 (by decide) (by decide) HC.out binsL_ok).mono ?_
  intro e w1 hh
  clear cg
  obtain ⟨hE, hm⟩ := hh
  have HE := Lib.hid hE
  cases hres : textOf s a most binsL with
  | error k =>
    rw [hres] at hm
    obtain ⟨hR, f, rfl, hf, hb⟩ := hm
    have HR := Lib.hid hR
    have HB := Lib.hid hb
    have HRES := Lib.hid hres
    clear hR hb hE hres
    go_wp2
    go_ret2
    rw [HRES.out]
    exact ⟨HE.out, HR.out, f, rfl, hf, HB.out⟩
  | ok x =>
    rw [hres] at hm
    obtain ⟨rfl, hR⟩ := hm
    have HR := Lib.hid hR
    have HRES := Lib.hid hres
    clear hR hE hres
    go_wp2
    go_ret2
    rw [HRES.out]
    exact ⟨HE.out, rfl, HR.out⟩

set_option maxRecDepth 100000 in
theorem Str_any (w : World) (B b : Nat) (s : ByteArray) (a : Nat) (most : Int) (ht : Tabs B w) (h : RdB w b s a most) (ha : a ≤ s.size) (hs : s.size ≤ 9223372036854775807) (hm0 : 0 ≤ most) (hm1 : most ≤ 9223372036854775807) :
    Calls Tryd.prog 18 #[.pointer (some ⟨b, 0, none⟩)] w (ReadIs (textOf s a most strsL) (.string ⟨#[]⟩) b s most a w) := by
  obtain ⟨tb, tq, rc, -, -, -, cg, hrow⟩ := ht.strs
  have HC := Lib.hid hrow
  have H := Lib.hid h
  clear ht hrow h
  go_enter Tryd.func18, Tryd.ntmps18
  go_wp2_with fail
  refine (text_any w b s a most (some ⟨tb, tq, none⟩) rc strsL H.out ha hs hm0 hm1 (by decide) (by decide) HC.out strsL_ok).mono ?_
  intro e w1 hh
  clear cg
  obtain ⟨hE, hm⟩ := hh
  have HE := Lib.hid hE
  cases hres : textOf s a most strsL with
  | error k =>
    rw [hres] at hm
    obtain ⟨hR, f, rfl, hf, hb⟩ := hm
    have HR := Lib.hid hR
    have HB := Lib.hid hb
    have HRES := Lib.hid hres
    clear hR hb hE hres
    go_wp2
    go_ret2
    rw [HRES.out]
    exact ⟨HE.out, HR.out, f, rfl, hf, HB.out⟩
  | ok x =>
    rw [hres] at hm
    obtain ⟨rfl, hR⟩ := hm
    have HR := Lib.hid hR
    have HRES := Lib.hid hres
    clear hR hE hres
    go_wp2
    go_ret2
    rw [HRES.out]
    exact ⟨HE.out, rfl, HR.out⟩

set_option maxRecDepth 100000 in
theorem List_any (w : World) (B b : Nat) (s : ByteArray) (a : Nat) (most : Int) (ht : Tabs B w) (h : RdB w b s a most) (ha : a ≤ s.size) (hs : s.size ≤ 9223372036854775807) (hm0 : 0 ≤ most) (hm1 : most ≤ 9223372036854775807) :
    Calls Tryd.prog 16 #[.pointer (some ⟨b, 0, none⟩)] w (ReadIs (countOf s a most listsL) (.int .i64 0) b s most a w) := by
  obtain ⟨tb, tq, rc, -, -, -, cg, hrow⟩ := ht.lists
  have HC := Lib.hid hrow
  have H := Lib.hid h
  clear ht hrow h
  go_enter Tryd.func16, Tryd.ntmps16
  go_wp2_with fail
  refine (count_any w b s a most (some ⟨tb, tq, none⟩) rc listsL H.out ha hs hm0 hm1 (by decide) (by decide) HC.out listsL_ok).mono ?_
  intro e w1 hh
  clear cg
  obtain ⟨hE, hm⟩ := hh
  have HE := Lib.hid hE
  cases hres : countOf s a most listsL with
  | error k =>
    rw [hres] at hm
    obtain ⟨hR, f, rfl, hf, hb⟩ := hm
    have HR := Lib.hid hR
    have HB := Lib.hid hb
    have HRES := Lib.hid hres
    clear hR hb hE hres
    go_wp2
    go_ret2
    rw [HRES.out]
    exact ⟨HE.out, HR.out, f, rfl, hf, HB.out⟩
  | ok x =>
    rw [hres] at hm
    obtain ⟨rfl, hR⟩ := hm
    have HR := Lib.hid hR
    have HRES := Lib.hid hres
    clear hR hE hres
    go_wp2
    go_ret2
    rw [HRES.out]
    exact ⟨HE.out, rfl, HR.out⟩

set_option maxRecDepth 100000 in
theorem Map_any (w : World) (B b : Nat) (s : ByteArray) (a : Nat) (most : Int) (ht : Tabs B w) (h : RdB w b s a most) (ha : a ≤ s.size) (hs : s.size ≤ 9223372036854775807) (hm0 : 0 ≤ most) (hm1 : most ≤ 9223372036854775807) :
    Calls Tryd.prog 19 #[.pointer (some ⟨b, 0, none⟩)] w (ReadIs (countOf s a most pairsL) (.int .i64 0) b s most a w) := by
  obtain ⟨tb, tq, rc, -, -, -, cg, hrow⟩ := ht.pairs
  have HC := Lib.hid hrow
  have H := Lib.hid h
  clear ht hrow h
  go_enter Tryd.func19, Tryd.ntmps19
  go_wp2_with fail
  refine (count_any w b s a most (some ⟨tb, tq, none⟩) rc pairsL H.out ha hs hm0 hm1 (by decide) (by decide) HC.out pairsL_ok).mono ?_
  intro e w1 hh
  clear cg
  obtain ⟨hE, hm⟩ := hh
  have HE := Lib.hid hE
  cases hres : countOf s a most pairsL with
  | error k =>
    rw [hres] at hm
    obtain ⟨hR, f, rfl, hf, hb⟩ := hm
    have HR := Lib.hid hR
    have HB := Lib.hid hb
    have HRES := Lib.hid hres
    clear hR hb hE hres
    go_wp2
    go_ret2
    rw [HRES.out]
    exact ⟨HE.out, HR.out, f, rfl, hf, HB.out⟩
  | ok x =>
    rw [hres] at hm
    obtain ⟨rfl, hR⟩ := hm
    have HR := Lib.hid hR
    have HRES := Lib.hid hres
    clear hR hE hres
    go_wp2
    go_ret2
    rw [HRES.out]
    exact ⟨HE.out, rfl, HR.out⟩

set_option maxRecDepth 100000 in
set_option maxHeartbeats 1000000 in
theorem Num_any (w : World) (B b : Nat) (s : ByteArray) (a : Nat) (most : Int) (ht : Tabs B w) (h : RdB w b s a most) (ha : a ≤ s.size) (hs : s.size ≤ 9223372036854775807) :
    Calls Tryd.prog 15 #[.pointer (some ⟨b, 0, none⟩)] w (ReadIs (numOf s a numsL) (.int .u64 0) b s most a w) := by
  obtain ⟨tb, tq, rc, -, -, -, cg, hrow⟩ := ht.nums
  have hgl := lt_of_cell cg
  have HC0 := Lib.hid hrow
  have H := Lib.hid h
  have hbl := lt_of_block h
  have HG := Lib.hid cg
  clear ht hrow h cg
  go_enter_defers Tryd.func15, Tryd.ntmps15
  go_wp2
  obtain ⟨W, hW⟩ : ∃ W, w.alloc (.cells #[.nilIface] 31) = W := ⟨_, rfl⟩
  have WB : Hid (Below w.heap.size w W) := Lib.hid (by rw [← hW]; (repeat (first | exact Below.refl _ _ | assumption | (refine bdrew ?_) | (refine bdrewN ?_ _) | (refine balloc ?_ _) | (refine bset ?_ (by first | omega | (simp; done) | (simp; omega)) _) | (refine bnext ?_ (by assumption)))))
  have W0 : Hid (W.heap[w.heap.size]? = some (.cells #[.nilIface] 31 (0, 0))) := Lib.hid (by rw [← hW]; (repeat (first | exact alloc_new_at _ (by repeat (first | rfl | refine alloc_size _ ?_)) | refine block_alloc ?_ _)))
  rw [hW]
  clear hW
  have RB := Lib.hid (H.out.below WB.out)
  have HC := Lib.hid (HC0.out.below WB.out)
  have cg : W.cell? ⟨0, 0, none⟩ = some (.slice (some ⟨tb, tq, none⟩) (len numsL) rc) := by rw [WB.out.cell (p := ⟨0, 0, none⟩) hgl]; exact HG.out
  have hzW := lt_of_block W0.out
  have hts : (s.extract a s.size).size ≤ 9223372036854775807 := by rw [ByteArray.size_extract]; omega
  cases hres : headOf (s.extract a s.size) numsL with
  | error k =>
    have HRES := Lib.hid hres
    have T : Hid (numOf s a numsL = .error k) := Lib.hid (by unfold numOf; rw [hres])
    clear hres
    --REGION (*sextant/unpack.Reader).Num 2 num2b
    refine wp_region_tail 5 1000 (none) (phis [fun u _ => u = (.pointer (some ⟨b, 0, none⟩)), fun u _ => u = (.string (s.extract a s.size)), fun u _ => u = (.slice (some ⟨tb, tq, none⟩) (len numsL) rc), fun _ _ => False, fun u w' => ∃ b', u = .pointer (some ⟨b', 0, none⟩) ∧ w.heap.size < b' ∧ w'.heap[b']? = some (.cells #[.int .u64 0, .string ⟨#[]⟩] 71 (0, 0))]) rfl (by kernel_rfl) (by kernel_rfl) (mono_of ⟨mono_eq, mono_eq, mono_eq, ?m3, ?m4, trivial⟩) (steps_of 5 ⟨?s0, ?s1, ?s2, ?s3, ?s4, trivial⟩) ?_
    case m3 =>
      exact ⟨fun _ _ _ _ h => h, fun _ _ _ _ _ h => h⟩
    case m4 =>
      exact ⟨fun u w1 w' h ⟨b', h1, h2, h3⟩ => ⟨b', h1, h2, ext_block h h3⟩, fun _ u w1 w' h ⟨b', h1, h2, h3⟩ => ⟨b', h1, h2, extB_block h (by simp) h3⟩⟩
    case s0 =>
      refine step_val (v := (.pointer (some ⟨b, 0, none⟩))) (fun av wv hE hS hO hD => ?_) (fun _ => rfl)
      have h0 : av.eval (.tmp 0) = (.pointer (some ⟨b, 0, none⟩)) := hO.2.2 0 rfl
      have f0 := (ev_form av 0).symm.trans h0
      refine ⟨rfl, ?_⟩
      simp [go_sem, f0]
    case s1 =>
      refine step_wp (fun av wv hE hS hO hD => ?_)
      have d6 : av.eval (.tmp 6) = (.pointer (some ⟨b, 0, none⟩)) := hD.1 rfl _ rfl
      have f6 := (ev_form av 6).symm.trans d6
      refine ⟨rfl, ?_⟩
      refine wp_of_call (v := (.string (s.extract a s.size))) (by simp [go_sem, f6]) (here_any wv b s a most (RB.out.below (of_drew hE)) ha hs) (fun w2 hb => ⟨_, rfl, es_of_ext hb, rfl⟩)
    case s2 =>
      refine step_val (v := (.slice (some ⟨tb, tq, none⟩) (len numsL) rc)) (fun av wv hE hS hO hD => ?_) (fun _ => rfl)
      have cg := extB_cell hE (by simp) cg
      refine ⟨rfl, ?_⟩
      simp [go_sem, cg]
    case s3 =>
      refine step_wp (fun av wv hE hS hO hD => ?_)
      have d7 : av.eval (.tmp 7) = (.string (s.extract a s.size)) := hD.1 rfl _ rfl
      have f7 := (ev_form av 7).symm.trans d7
      have d8 : av.eval (.tmp 8) = (.slice (some ⟨tb, tq, none⟩) (len numsL) rc) := hD.2.1 rfl _ rfl
      have f8 := (ev_form av 8).symm.trans d8
      refine ⟨rfl, ?_⟩
      refine wp_of_panic (chain := chainOf k) (by simp [go_sem, f7, f8]) ((head_any (s.extract a s.size) (some ⟨tb, tq, none⟩) rc numsL wv hts (by decide) (by decide) (HC.out.below (of_drew hE)) numsL_ok).mono (fun e w' hh => by rw [HRES.out] at hh; exact headIs_err hh)) (fun w2 hb => ?_)
      have g2 : av.eval (.tmp 2) = .int .u64 0 := hO.2.2 2 rfl
      have g3 : av.eval (.tmp 3) = .pointer (some ⟨w.heap.size, 0, none⟩) := hO.2.2 3 rfl
      have f2 := (ev_form av 2).symm.trans g2
      have f3 := (ev_form av 3).symm.trans g3
      have B2 := bnext (of_drew hE) hb
      show Leaves _ _ av.tmps _ av.defers _ _
      rw [hO.1]
      refine door_err k b s a most w2 w.heap.size (.int .u64 0) (RB.out.below B2) ((B2.block _ (lt_of_block W0.out)).trans W0.out) (by omega) (fun w hc => by simp [results, Tryd.results15, go_sem, hc, f2, f3]) (fun w' hE hR hf => ?_)
      have hz := (bnext WB.out B2).size
      rw [T.out]
      exact ⟨extB_own (bnext WB.out B2) hE, hR, _, rfl, hz, hf⟩
    case s4 =>
      refine step_wp (fun av wv hE hS hO hD => ?_)
      refine ⟨rfl, ?_⟩
      refine wp_of_run (v := .pointer (some ⟨wv.heap.size, 0, none⟩)) (w' := wv.alloc (.cells #[.int .u64 0, .string ⟨#[]⟩] 71)) (by simp [go_sem]) ⟨_, rfl, es_of_ext (balloc (Ext_refl _) _), wv.heap.size, rfl, ?_, heap_alloc_new _ _⟩
      have := (of_drew hE).size; omega
    intro a' w' hE hO hall
    have hA := act_of_outer (ds := [6, 7, 8, 9, 4]) rfl hO (by kernel_rfl)
    have e6 : (fun u _ => u = (.pointer (some ⟨b, 0, none⟩))) (a'.eval (.tmp 6)) w' := hall.1 _ rfl
    have e7 : (fun u _ => u = (.string (s.extract a s.size))) (a'.eval (.tmp 7)) w' := hall.2.1 _ rfl
    have e8 : (fun u _ => u = (.slice (some ⟨tb, tq, none⟩) (len numsL) rc)) (a'.eval (.tmp 8)) w' := hall.2.2.1 _ rfl
    have e9 : (fun _ _ => False) (a'.eval (.tmp 9)) w' := hall.2.2.2.1 _ rfl
    have e4 : (fun u w' => ∃ b', u = .pointer (some ⟨b', 0, none⟩) ∧ w.heap.size < b' ∧ w'.heap[b']? = some (.cells #[.int .u64 0, .string ⟨#[]⟩] 71 (0, 0))) (a'.eval (.tmp 4)) w' := hall.2.2.2.2.1 _ rfl
    obtain ⟨v9, hv9⟩ : ∃ v, a'.eval (.tmp 9) = v := ⟨_, rfl⟩
    rw [hv9] at e9
    obtain ⟨v4, hv4⟩ : ∃ v, a'.eval (.tmp 4) = v := ⟨_, rfl⟩
    rw [hv4] at e4
    simp only [List.foldl_cons, List.foldl_nil, Act.put, List.setIfInBounds_toArray, List.set_cons_succ, List.set_cons_zero, e6, e7, e8, hv9, hv4] at hA
    clear hO hall e6 e7 e8 hv9 hv4
    subst hA
    --ENDREGION
    exact absurd e9 id
  | ok x =>
    obtain ⟨n, rest⟩ := x
    obtain ⟨n0, n1, hrest⟩ := head_bd numsL_ok hres
    have HRES := Lib.hid hres
    have hss : (s.extract a s.size).size = s.size - a := by rw [ByteArray.size_extract]; omega
    have hr2 : rest.size < s.size - a := by omega
    have T : Hid (numOf s a numsL = .ok (.int .u64 n, s.size - rest.size)) := Lib.hid (by unfold numOf; rw [hres])
    clear hres hrest hss
    --REGION (*sextant/unpack.Reader).Num 2 num2a
    refine wp_region_tail 5 1000 (none) (phis [fun u _ => u = (.pointer (some ⟨b, 0, none⟩)), fun u _ => u = (.string (s.extract a s.size)), fun u _ => u = (.slice (some ⟨tb, tq, none⟩) (len numsL) rc), fun u _ => u = (.agg #[.int .u64 n, .string rest]), fun u w' => ∃ b', u = .pointer (some ⟨b', 0, none⟩) ∧ w.heap.size < b' ∧ w'.heap[b']? = some (.cells #[.int .u64 0, .string ⟨#[]⟩] 71 (0, 0))]) rfl (by kernel_rfl) (by kernel_rfl) (mono_of ⟨mono_eq, mono_eq, mono_eq, mono_eq, ?m4, trivial⟩) (steps_of 5 ⟨?s0, ?s1, ?s2, ?s3, ?s4, trivial⟩) ?_
    case m4 =>
      exact ⟨fun u w1 w' h ⟨b', h1, h2, h3⟩ => ⟨b', h1, h2, ext_block h h3⟩, fun _ u w1 w' h ⟨b', h1, h2, h3⟩ => ⟨b', h1, h2, extB_block h (by simp) h3⟩⟩
    case s0 =>
      refine step_val (v := (.pointer (some ⟨b, 0, none⟩))) (fun av wv hE hS hO hD => ?_) (fun _ => rfl)
      have h0 : av.eval (.tmp 0) = (.pointer (some ⟨b, 0, none⟩)) := hO.2.2 0 rfl
      have f0 := (ev_form av 0).symm.trans h0
      refine ⟨rfl, ?_⟩
      simp [go_sem, f0]
    case s1 =>
      refine step_wp (fun av wv hE hS hO hD => ?_)
      have d6 : av.eval (.tmp 6) = (.pointer (some ⟨b, 0, none⟩)) := hD.1 rfl _ rfl
      have f6 := (ev_form av 6).symm.trans d6
      refine ⟨rfl, ?_⟩
      refine wp_of_call (v := (.string (s.extract a s.size))) (by simp [go_sem, f6]) (here_any wv b s a most (RB.out.below (of_drew hE)) ha hs) (fun w2 hb => ⟨_, rfl, es_of_ext hb, rfl⟩)
    case s2 =>
      refine step_val (v := (.slice (some ⟨tb, tq, none⟩) (len numsL) rc)) (fun av wv hE hS hO hD => ?_) (fun _ => rfl)
      have cg := extB_cell hE (by simp) cg
      refine ⟨rfl, ?_⟩
      simp [go_sem, cg]
    case s3 =>
      refine step_wp (fun av wv hE hS hO hD => ?_)
      have d7 : av.eval (.tmp 7) = (.string (s.extract a s.size)) := hD.1 rfl _ rfl
      have f7 := (ev_form av 7).symm.trans d7
      have d8 : av.eval (.tmp 8) = (.slice (some ⟨tb, tq, none⟩) (len numsL) rc) := hD.2.1 rfl _ rfl
      have f8 := (ev_form av 8).symm.trans d8
      refine ⟨rfl, ?_⟩
      refine wp_of_call (v := (.agg #[.int .u64 n, .string rest])) (by simp [go_sem, f7, f8]) ((head_any (s.extract a s.size) (some ⟨tb, tq, none⟩) rc numsL wv hts (by decide) (by decide) (HC.out.below (of_drew hE)) numsL_ok).mono (fun e w' hh => by rw [HRES.out] at hh; exact headIs_ok hh)) (fun w2 hb => ⟨_, rfl, es_of_ext hb, rfl⟩)
    case s4 =>
      refine step_wp (fun av wv hE hS hO hD => ?_)
      refine ⟨rfl, ?_⟩
      refine wp_of_run (v := .pointer (some ⟨wv.heap.size, 0, none⟩)) (w' := wv.alloc (.cells #[.int .u64 0, .string ⟨#[]⟩] 71)) (by simp [go_sem]) ⟨_, rfl, es_of_ext (balloc (Ext_refl _) _), wv.heap.size, rfl, ?_, heap_alloc_new _ _⟩
      have := (of_drew hE).size; omega
    intro a' w' hE hO hall
    have hA := act_of_outer (ds := [6, 7, 8, 9, 4]) rfl hO (by kernel_rfl)
    have e6 : (fun u _ => u = (.pointer (some ⟨b, 0, none⟩))) (a'.eval (.tmp 6)) w' := hall.1 _ rfl
    have e7 : (fun u _ => u = (.string (s.extract a s.size))) (a'.eval (.tmp 7)) w' := hall.2.1 _ rfl
    have e8 : (fun u _ => u = (.slice (some ⟨tb, tq, none⟩) (len numsL) rc)) (a'.eval (.tmp 8)) w' := hall.2.2.1 _ rfl
    have e9 : (fun u _ => u = (.agg #[.int .u64 n, .string rest])) (a'.eval (.tmp 9)) w' := hall.2.2.2.1 _ rfl
    have e4 : (fun u w' => ∃ b', u = .pointer (some ⟨b', 0, none⟩) ∧ w.heap.size < b' ∧ w'.heap[b']? = some (.cells #[.int .u64 0, .string ⟨#[]⟩] 71 (0, 0))) (a'.eval (.tmp 4)) w' := hall.2.2.2.2.1 _ rfl
    obtain ⟨v4, hv4⟩ : ∃ v, a'.eval (.tmp 4) = v := ⟨_, rfl⟩
    rw [hv4] at e4
    simp only [List.foldl_cons, List.foldl_nil, Act.put, List.setIfInBounds_toArray, List.set_cons_succ, List.set_cons_zero, e6, e7, e8, e9, hv4] at hA
    clear hO hall e6 e7 e8 e9 hv4
    subst hA
    --ENDREGION
    obtain ⟨tk, rfl, ht1, ht2⟩ := e4
    have B1 := Lib.hid (of_drew hE)
    have x0 : ∀ o, w'.cell? ⟨tk, o, none⟩ = _ := block_cell ht2
    have x1 : ∀ o, w'.frozen? ⟨tk, o, none⟩ = false := block_free ht2
    have HT2 := Lib.hid ht2
    have E1 : Hid (w'.heap[w.heap.size]? = some (.cells #[.nilIface] 31 (0, 0))) := Lib.hid ((B1.out.block _ hzW).trans W0.out)
    clear hE ht2 cg
    go_upto_region 3 with fail
    obtain ⟨V, hV⟩ : ∃ V, (w'.setCell ⟨tk, 0, none⟩ (.int .u64 n)).setCell ⟨tk, 1, none⟩ (.string rest) = V := ⟨_, rfl⟩
    have hne : b ≠ tk := by omega
    have hne2 : w.heap.size ≠ tk := by omega
    have VR : Hid (RdB V b s a most) := Lib.hid (by rw [← hV]; exact block_setCell_ne (block_setCell_ne (RB.out.below B1.out) hne _) hne _)
    have VE : Hid (V.heap[w.heap.size]? = some (.cells #[.nilIface] 31 (0, 0))) := Lib.hid (by rw [← hV]; exact block_setCell_ne (block_setCell_ne E1.out hne2 _) hne2 _)
    have VT : Hid (V.heap[tk]? = some (.cells #[.int .u64 n, .string rest] 71 (0, 0))) := Lib.hid (by rw [← hV]; exact block_setCell (block_setCell HT2.out _) _)
    have VX : Hid (Below w.heap.size w V) := Lib.hid (by rw [← hV]; exact bset (bset (bnext WB.out B1.out) (by show w.heap.size ≤ tk; omega) _) (by show w.heap.size ≤ tk; omega) _)
    rw [hV]
    clear hV x0 x1 HT2 E1 RB
    have y1 : V.cell? ⟨tk, 1, none⟩ = some (.string rest) := block_cell VT.out 1
    go_wp2_with fail
    refine (behind_any _ b s a rest.size most VR.out hs (by omega) (by omega)).mono ?_
    rintro e w5 ⟨rfl, hw5⟩
    have R5 : Hid (RdB w5 b s ((s.size - rest.size : Nat) : Int) most) := Lib.hid (by
      rw [hw5]
      have h := block_setCell VR.out (o := 1) (.int .i64 ((s.size : Int) - rest.size))
      rw [show ((s.size - rest.size : Nat) : Int) = (s.size : Int) - rest.size by omega]
      exact h)
    have E5 : w5.heap[w.heap.size]? = some (.cells #[.nilIface] 31 (0, 0)) := by
      rw [hw5]; exact block_setCell_ne VE.out (by show w.heap.size ≠ b; omega) _
    have N5 : w5.heap[tk]? = some (.cells #[.int .u64 n, .string rest] 71 (0, 0)) := by
      rw [hw5]; exact block_setCell_ne VT.out (by show tk ≠ b; omega) _
    have X5 : Hid (ExtB (some b) w w5) := Lib.hid (by
      rw [hw5]
      have hB := VX.out
      exact ⟨hB.os, hB.tape, hB.output, by simpa using hB.size, fun i hi hn => by rw [Below.heap_setCell _ _ _ _ (by exact fun e => hn (by rw [e]))]; exact hB.block i hi⟩)
    have a0 : w5.cell? ⟨tk, 0, none⟩ = some (.int .u64 n) := block_cell N5 0
    have a2 : w5.cell? ⟨w.heap.size, 0, none⟩ = some .nilIface := block_cell E5 0
    have a3 : w5.frozen? ⟨w.heap.size, 0, none⟩ = false := block_free E5 0
    have hz5 := lt_of_block E5
    clear hw5 E5 N5 y1
    go_wp2
    rw [T.out]
    refine leaves_cons (f := 25) (args := #[.pointer (some ⟨b, 0, none⟩), .pointer (some ⟨w.heap.size, 0, none⟩)]) (by simp) (by simp [go_sem]) ?_
    refine (fault_idle (.pointer (some ⟨b, 0, none⟩)) (.pointer (some ⟨w.heap.size, 0, none⟩)) _).mono ?_
    rintro e u' w'' ⟨rfl, rfl, rfl⟩
    refine ⟨_, by simp [results, Tryd.results15, go_sem, a2]; rfl, ?_⟩
    refine ⟨?_, rfl, ?_⟩
    · exact ext_set X5.out (Nat.le_refl _) _
    · exact block_setCell_ne R5.out (by show b ≠ w.heap.size; omega) _
end Go.Proofs.YtmcmapcijncblaaDoor
