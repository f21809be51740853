/- Contracts of package unpack: what a reader reads. -/
import Derived.Test.YtmcmapcijncblaaDoorUnpB
namespace Go.Proofs.YtmcmapcijncblaaDoor
open Go.RowKit

theorem head_bd {t : ByteArray} {l : List URow} {n : Int} {rest : ByteArray} (hok : ∀ i, (unth l i).Ok) (h : headOf t l = .ok (n, rest)) : 0 ≤ n ∧ n ≤ 18446744073709551615 ∧ rest.size < t.size := by
  unfold headOf at h
  split at h
  · cases h
  · next h0 =>
    split at h
    · cases h
    · next r hr =>
      have hp := List.find?_some hr
      obtain ⟨i, hi, rfl⟩ := List.getElem_of_mem (List.mem_of_find?_eq_some hr)
      have ok := hok i
      rw [unth_eq l i hi] at ok
      simp only [Bool.and_eq_true, decide_eq_true_eq] at hp
      obtain ⟨v, hv⟩ : ∃ v, (if l[i].size = 0 then byte t 0 - l[i].lo else be t l[i].size.toNat) = v := ⟨_, rfl⟩
      simp only [hv] at h
      by_cases h1 : (t.size : Int) < 1 + l[i].size
      · rw [if_pos h1] at h; cases h
      · rw [if_neg h1] at h
        by_cases h2 : v < l[i].least
        · rw [if_pos h2] at h; cases h
        · rw [if_neg h2] at h
          simp only [Except.ok.injEq, Prod.mk.injEq] at h
          obtain ⟨rfl, rfl⟩ := h
          have vb := numAt_bd (s := t) (r := l[i]) (j := l[i].size.toNat) (by have := ok.sz1; have := ok.sz0; omega) ok hp.1
          unfold numAt at vb
          rw [hv] at vb
          refine ⟨vb.1, vb.2, ?_⟩
          rw [ByteArray.size_extract]; omega

/-- What a reading answers: the value and the place behind; or an error's number, and the reader stays. -/
def ReadIs (res : Except Int (Value × Nat)) (zero : Value) (b : Nat) (s : ByteArray) (most : Int) (a : Nat) (w : World) (e : Ending) (w' : World) : Prop :=
  ExtB (some b) w w' ∧ match res with
    | .ok x => e = .returned (.tuple #[x.1, .nilIface]) ∧ RdB w' b s x.2 most
    | .error k => RdB w' b s a most ∧ ∃ f, e = .returned (.tuple #[zero, .iface 61 (.pointer (some ⟨f, 0, none⟩))]) ∧ w.heap.size ≤ f ∧ w'.heap[f]? = some (.cells #[.int .i64 k, .int .i64 a] 66 (0, 0))

def textOf (s : ByteArray) (a : Nat) (most : Int) (l : List URow) : Except Int (Value × Nat) :=
  match headOf (s.extract a s.size) l with
  | .error k => .error k
  | .ok (n, rest) => if most < n then .error 3 else if (rest.size : Int) < n then .error 4 else .ok (.string (rest.extract 0 n.toNat), s.size - (rest.size - n.toNat))
def countOf (s : ByteArray) (a : Nat) (most : Int) (l : List URow) : Except Int (Value × Nat) :=
  match headOf (s.extract a s.size) l with
  | .error k => .error k
  | .ok (n, rest) => if most < n then .error 3 else .ok (.int .i64 n, s.size - rest.size)
def numOf (s : ByteArray) (a : Nat) (l : List URow) : Except Int (Value × Nat) :=
  match headOf (s.extract a s.size) l with
  | .error k => .error k
  | .ok (n, rest) => .ok (.int .u64 n, s.size - rest.size)

theorem extB_own {w w1 w' : World} {b : Nat} (h : Below w.heap.size w w1) (hE : ExtB (some w.heap.size) w1 w') : ExtB (some b) w w' :=
  ⟨hE.os.trans h.os, hE.tape.trans h.tape, hE.output.trans h.output, Nat.le_trans h.size hE.size, fun i hi _ => (hE.block i (Nat.lt_of_lt_of_le hi h.size) (by intro e; cases e; omega)).trans (h.block i hi)⟩
/-- Behind a store into a block that was not there. -/
theorem ext_set {w w1 : World} {b eb : Nat} (h : ExtB (some b) w w1) (he : w.heap.size ≤ eb) (v : Value) : ExtB (some b) w (w1.setCell ⟨eb, 0, none⟩ v) :=
  ⟨h.os, h.tape, h.output, by simpa using h.size, fun i hi hn => by rw [Below.heap_setCell _ _ _ _ (by show i ≠ eb; omega)]; exact h.block i hi hn⟩
/-- The door of a reading that failed. -/
theorem door_err {fn : Func} {tmps : Array Value} {R : Ending → World → Prop} (k : Int) (b : Nat) (s : ByteArray) (a : Nat) (most : Int) (w1 : World) (eb : Nat) (zero : Value) (h : RdB w1 b s a most)
    (he : w1.heap[eb]? = some (.cells #[.nilIface] 31 (0, 0))) (hne : eb ≠ b)
    (hr : ∀ w : World, w.cell? ⟨eb, 0, none⟩ = some (.iface 61 (.pointer (some ⟨w1.heap.size, 0, none⟩))) → (results fn tmps).run Tryd.prog w = .ok (.tuple #[zero, .iface 61 (.pointer (some ⟨w1.heap.size, 0, none⟩))]) w)
    (hR : ∀ w' : World, ExtB (some eb) w1 w' → RdB w' b s a most → w'.heap[w1.heap.size]? = some (.cells #[.int .i64 k, .int .i64 a] 66 (0, 0)) → R (.returned (.tuple #[zero, .iface 61 (.pointer (some ⟨w1.heap.size, 0, none⟩))])) w') :
    Leaves Tryd.prog fn tmps R [{ target := .fn (.func 25) #[], args := #[.pointer (some ⟨b, 0, none⟩), .pointer (some ⟨eb, 0, none⟩)] }] (.panicking (chainOf k)) w1 := by
  refine leaves_cons (f := 25) (args := #[.pointer (some ⟨b, 0, none⟩), .pointer (some ⟨eb, 0, none⟩)]) (by simp) (by simp [go_sem]) ?_
  refine (fault_some k [] (.pointer (some ⟨b, 0, none⟩)) a eb .nilIface w1 (place_any w1 b s a most h) (block_cell he 0) rfl (block_free he 0)).mono ?_
  rintro e u' w'' ⟨rfl, rfl, rfl⟩
  have hl := lt_of_block he
  have hs : (w1.setCell ⟨eb, 0, none⟩ (.iface 61 (.pointer (some ⟨w1.heap.size, 0, none⟩)))).heap.size = w1.heap.size := by simp
  have hb0 : (w1.setCell ⟨eb, 0, none⟩ (.iface 61 (.pointer (some ⟨w1.heap.size, 0, none⟩)))).heap[eb]? = _ := block_setCell he _
  have hb := block_alloc hb0 (.cells #[.int .i64 k, .int .i64 a] 66)
  refine ⟨_, hr _ (block_cell hb 0), hR _ ?_ ?_ ?_⟩
  · refine ⟨rfl, rfl, rfl, by simp, fun i hi hn => ?_⟩
    rw [Below.heap_alloc _ _ _ (by rw [hs]; exact hi), Below.heap_setCell _ _ _ _ (by intro e; subst e; exact hn rfl)]
  · exact block_alloc (block_setCell_ne h (by exact fun e => hne e.symm) _) _
  · exact alloc_new_at _ hs

set_option maxRecDepth 100000 in
set_option maxHeartbeats 1000000 in
theorem text_any (w : World) (b : Nat) (s : ByteArray) (a : Nat) (most : Int) (ra : Option Addr) (rc : Nat) (l : List URow) (h : RdB w b s a most) (ha : a ≤ s.size) (hs : s.size ≤ 9223372036854775807) (hm0 : 0 ≤ most) (hm1 : most ≤ 9223372036854775807)
    (hl0 : 0 < len l) (hl : len l ≤ 100) (hc : URows w ra l) (hok : ∀ i, (unth l i).Ok) :
    Calls Tryd.prog 30 #[.pointer (some ⟨b, 0, none⟩), .slice ra (len l) rc] w (ReadIs (textOf s a most l) (.string ⟨#[]⟩) b s most a w) := by
  have HC := Lib.hid hc
  have HO := Lib.hid hok
  have H := Lib.hid h
  have hbl := lt_of_block h
  clear hc hok h
  go_enter_defers Tryd.func30, Tryd.ntmps30
  go_wp2_with fail
  obtain ⟨W, hW⟩ : ∃ W, w.alloc (.cells #[.nilIface] 31) = W := ⟨_, rfl⟩
  have WB : Hid (Below w.heap.size w W) := Lib.hid (by rw [← hW]; (repeat (first | exact Below.refl _ _ | assumption | (refine bdrew ?_) | (refine bdrewN ?_ _) | (refine balloc ?_ _) | (refine bset ?_ (by first | omega | (simp; done) | (simp; omega)) _) | (refine bnext ?_ (by assumption)))))
  have W0 : Hid (W.heap[w.heap.size]? = some (.cells #[.nilIface] 31 (0, 0))) := Lib.hid (by rw [← hW]; (repeat (first | exact alloc_new_at _ (by repeat (first | rfl | refine alloc_size _ ?_)) | refine block_alloc ?_ _)))
  rw [hW]
  clear hW
  refine (here_any W b s a most (H.out.below WB.out) ha hs).mono ?_
  rintro e w1 ⟨rfl, hb1⟩
  have B1 := Lib.hid hb1
  clear hb1
  go_wp2_with fail
  have hts : (s.extract a s.size).size ≤ 9223372036854775807 := by rw [ByteArray.size_extract]; omega
  refine (head_any (s.extract a s.size) ra rc l w1 hts hl0 hl (HC.out.below (bnext WB.out B1.out)) HO.out).mono ?_
  intro e w2 hh
  cases hres : headOf (s.extract a s.size) l with
  | error k =>
    rw [hres] at hh
    obtain ⟨rfl, hb2⟩ := headIs_err hh
    have B2 := Lib.hid (bnext B1.out hb2)
    have T : Hid (textOf s a most l = .error k) := Lib.hid (by unfold textOf; rw [hres])
    clear hh hb2 hres
    go_wp2
    rw [T.out]
    refine door_err k b s a most w2 w.heap.size (.string ⟨#[]⟩) (H.out.below (bnext WB.out B2.out)) ((B2.out.block _ (lt_of_block W0.out)).trans W0.out) (by omega) (fun w hc => by simp [results, Tryd.results30, go_sem, hc]) (fun w' hE hR hf => ?_)
    have hz := (bnext WB.out B2.out).size
    exact ⟨extB_own (bnext WB.out B2.out) hE, hR, _, rfl, hz, hf⟩
  | ok x =>
    obtain ⟨n, rest⟩ := x
    rw [hres] at hh
    obtain ⟨rfl, hb2⟩ := headIs_ok hh
    have B2 := Lib.hid (bnext B1.out hb2)
    obtain ⟨n0, n1, hrest⟩ := head_bd HO.out hres
    have HRES := Lib.hid hres
    have hrs : rest.size < (s.extract a s.size).size := hrest
    have hss : (s.extract a s.size).size = s.size - a := by rw [ByteArray.size_extract]; omega
    have hr2 : rest.size < s.size - a := by omega
    clear hh hb2 hres hrest hts hss hrs
    go_wp2_with fail
    refine (bound_any w2 b s rest a most n (H.out.below (bnext WB.out B2.out)) hm0 hm1).mono ?_
    intro e w3 hh
    by_cases hmn : most < n
    · have hbo : boundOf n most rest = .error 3 := by unfold boundOf; rw [if_pos hmn]
      rw [hbo] at hh
      obtain ⟨rfl, hb3⟩ := headIs_err hh
      have B3 := Lib.hid (bnext B2.out hb3)
      have T : Hid (textOf s a most l = .error 3) := Lib.hid (by unfold textOf; rw [HRES.out]; exact if_pos hmn)
      clear hh hb3 hbo
      go_wp2
      rw [T.out]
      refine door_err 3 b s a most w3 w.heap.size (.string ⟨#[]⟩) (H.out.below (bnext WB.out B3.out)) ((B3.out.block _ (lt_of_block W0.out)).trans W0.out) (by omega) (fun w hc => by simp [results, Tryd.results30, go_sem, hc]) (fun w' hE hR hf => ?_)
      have hz := (bnext WB.out B3.out).size
      exact ⟨extB_own (bnext WB.out B3.out) hE, hR, _, rfl, hz, hf⟩
    · have hbo : boundOf n most rest = .ok (n, rest) := by unfold boundOf; rw [if_neg hmn]
      rw [hbo] at hh
      obtain ⟨rfl, hb3⟩ := headIs_ok hh
      have B3 := Lib.hid (bnext B2.out hb3)
      clear hh hb3 hbo
      obtain ⟨q, hq⟩ : ∃ q : Nat, n = q := ⟨n.toNat, by omega⟩
      subst hq
      have i1 : IntKind.u64.wrap (rest.size : Int) = rest.size := IntWalk.u64_in _ (by omega)
      have i2 : IntKind.i64.wrap (q : Int) = q := IntWalk.i64_in _ (by omega)
      by_cases hrq : rest.size < q
      · have T : Hid (textOf s a most l = .error 4) := Lib.hid (by
          unfold textOf; rw [HRES.out]
          show (if most < (q : Int) then _ else _) = _
          rw [if_neg hmn, if_pos (by omega)])
        have t1 : (rest.size : Int) < q := by omega
        go_wp2_with fail
        refine (stop_any 4 _).mono ?_
        rintro e w4 ⟨rfl, hw4⟩
        have B4 : Hid (Below W.heap.size W w4) := Lib.hid (by rw [hw4]; exact balloc B3.out _)
        clear hw4
        go_wp2
        rw [T.out]
        refine door_err 4 b s a most w4 w.heap.size (.string ⟨#[]⟩) (H.out.below (bnext WB.out B4.out)) ((B4.out.block _ (lt_of_block W0.out)).trans W0.out) (by omega) (fun w hc => by simp [results, Tryd.results30, go_sem, hc]) (fun w' hE hR hf => ?_)
        have hz := (bnext WB.out B4.out).size
        exact ⟨extB_own (bnext WB.out B4.out) hE, hR, _, rfl, hz, hf⟩
      · have T : Hid (textOf s a most l = .ok (.string (rest.extract 0 q), s.size - (rest.size - q))) := Lib.hid (by
          unfold textOf; rw [HRES.out]
          show (if most < (q : Int) then _ else _) = _
          rw [if_neg hmn, if_neg (by omega)]; rfl)
        have t1 : ¬ (rest.size : Int) < q := by omega
        have hb3 : b < w3.heap.size := Nat.lt_of_lt_of_le hbl (bnext WB.out B3.out).size
        have he3 : w.heap.size < w3.heap.size := Nat.lt_of_lt_of_le (lt_of_block W0.out) B3.out.size
        go_wp2_with fail
        refine (behind_any _ b s a (rest.size - q) most (block_alloc (H.out.below (bnext WB.out B3.out)) _) hs (by omega) (by omega)).mono ?_
        rintro e w5 ⟨rfl, hw5⟩
        have R5 : Hid (RdB w5 b s ((s.size - (rest.size - q) : Nat) : Int) most) := Lib.hid (by
          rw [hw5]
          have h := block_setCell (block_alloc (H.out.below (bnext WB.out B3.out)) (.cells #[.int .u64 q, .string rest] 71)) (o := 1) (.int .i64 ((s.size : Int) - (rest.size - q)))
          rw [show ((s.size - (rest.size - q) : Nat) : Int) = (s.size : Int) - (rest.size - q) by omega]
          exact h)
        have E5 : w5.heap[w.heap.size]? = some (.cells #[.nilIface] 31 (0, 0)) := by
          rw [hw5]; exact block_setCell_ne (block_alloc ((B3.out.block _ (lt_of_block W0.out)).trans W0.out) _) (by show w.heap.size ≠ b; omega) _
        have N5 : w5.heap[w3.heap.size]? = some (.cells #[.int .u64 q, .string rest] 71 (0, 0)) := by
          rw [hw5]; exact block_setCell_ne (alloc_new_at _ rfl) (by show w3.heap.size ≠ b; omega) _
        have X5 : Hid (ExtB (some b) w w5) := Lib.hid (by
          rw [hw5]
          have hB := balloc (bnext WB.out B3.out) (.cells #[.int .u64 q, .string rest] 71)
          exact ⟨hB.os, hB.tape, hB.output, by simpa using hB.size, fun i hi hn => by rw [Below.heap_setCell _ _ _ _ (by exact fun e => hn (by rw [e]))]; exact hB.block i hi⟩)
        have a0 : w5.cell? ⟨w3.heap.size, 0, none⟩ = some (.int .u64 q) := block_cell N5 0
        have a1 : w5.cell? ⟨w3.heap.size, 1, none⟩ = some (.string rest) := block_cell N5 1
        have a2 : w5.cell? ⟨w.heap.size, 0, none⟩ = some .nilIface := block_cell E5 0
        have a3 : w5.frozen? ⟨w.heap.size, 0, none⟩ = false := block_free E5 0
        have hz5 := lt_of_block E5
        have qr : q ≤ rest.size := by omega
        clear hw5 E5 N5
        go_wp2
        rw [T.out]
        refine leaves_cons (f := 25) (args := #[.pointer (some ⟨b, 0, none⟩), .pointer (some ⟨w.heap.size, 0, none⟩)]) (by simp) (by simp [go_sem]) ?_
        refine (fault_idle (.pointer (some ⟨b, 0, none⟩)) (.pointer (some ⟨w.heap.size, 0, none⟩)) _).mono ?_
        rintro e u' w'' ⟨rfl, rfl, rfl⟩
        refine ⟨_, by simp [results, Tryd.results30, go_sem, a2]; rfl, ?_⟩
        refine ⟨?_, rfl, ?_⟩
        · exact ext_set X5.out (Nat.le_refl _) _
        · exact block_setCell_ne R5.out (by show b ≠ w.heap.size; omega) _

set_option maxRecDepth 100000 in
set_option maxHeartbeats 1000000 in
theorem count_any (w : World) (b : Nat) (s : ByteArray) (a : Nat) (most : Int) (ra : Option Addr) (rc : Nat) (l : List URow) (h : RdB w b s a most) (ha : a ≤ s.size) (hs : s.size ≤ 9223372036854775807) (hm0 : 0 ≤ most) (hm1 : most ≤ 9223372036854775807)
    (hl0 : 0 < len l) (hl : len l ≤ 100) (hc : URows w ra l) (hok : ∀ i, (unth l i).Ok) :
    Calls Tryd.prog 29 #[.pointer (some ⟨b, 0, none⟩), .slice ra (len l) rc] w (ReadIs (countOf s a most l) (.int .i64 0) b s most a w) := by
  have HC := Lib.hid hc
  have HO := Lib.hid hok
  have H := Lib.hid h
  have hbl := lt_of_block h
  clear hc hok h
  go_enter_defers Tryd.func29, Tryd.ntmps29
  go_wp2_with fail
  obtain ⟨W, hW⟩ : ∃ W, w.alloc (.cells #[.nilIface] 31) = W := ⟨_, rfl⟩
  have WB : Hid (Below w.heap.size w W) := Lib.hid (by rw [← hW]; (repeat (first | exact Below.refl _ _ | assumption | (refine bdrew ?_) | (refine bdrewN ?_ _) | (refine balloc ?_ _) | (refine bset ?_ (by first | omega | (simp; done) | (simp; omega)) _) | (refine bnext ?_ (by assumption)))))
  have W0 : Hid (W.heap[w.heap.size]? = some (.cells #[.nilIface] 31 (0, 0))) := Lib.hid (by rw [← hW]; (repeat (first | exact alloc_new_at _ (by repeat (first | rfl | refine alloc_size _ ?_)) | refine block_alloc ?_ _)))
  rw [hW]
  clear hW
  refine (here_any W b s a most (H.out.below WB.out) ha hs).mono ?_
  rintro e w1 ⟨rfl, hb1⟩
  have B1 := Lib.hid hb1
  clear hb1
  go_wp2_with fail
  have hts : (s.extract a s.size).size ≤ 9223372036854775807 := by rw [ByteArray.size_extract]; omega
  refine (head_any (s.extract a s.size) ra rc l w1 hts hl0 hl (HC.out.below (bnext WB.out B1.out)) HO.out).mono ?_
  intro e w2 hh
  cases hres : headOf (s.extract a s.size) l with
  | error k =>
    rw [hres] at hh
    obtain ⟨rfl, hb2⟩ := headIs_err hh
    have B2 := Lib.hid (bnext B1.out hb2)
    have T : Hid (countOf s a most l = .error k) := Lib.hid (by unfold countOf; rw [hres])
    clear hh hb2 hres
    go_wp2
    rw [T.out]
    refine door_err k b s a most w2 w.heap.size (.int .i64 0) (H.out.below (bnext WB.out B2.out)) ((B2.out.block _ (lt_of_block W0.out)).trans W0.out) (by omega) (fun w hc => by simp [results, Tryd.results29, go_sem, hc]) (fun w' hE hR hf => ?_)
    have hz := (bnext WB.out B2.out).size
    exact ⟨extB_own (bnext WB.out B2.out) hE, hR, _, rfl, hz, hf⟩
  | ok x =>
    obtain ⟨n, rest⟩ := x
    rw [hres] at hh
    obtain ⟨rfl, hb2⟩ := headIs_ok hh
    have B2 := Lib.hid (bnext B1.out hb2)
    obtain ⟨n0, n1, hrest⟩ := head_bd HO.out hres
    have HRES := Lib.hid hres
    have hrs : rest.size < (s.extract a s.size).size := hrest
    have hss : (s.extract a s.size).size = s.size - a := by rw [ByteArray.size_extract]; omega
    have hr2 : rest.size < s.size - a := by omega
    clear hh hb2 hres hrest hts hss hrs
    go_wp2_with fail
    refine (bound_any w2 b s rest a most n (H.out.below (bnext WB.out B2.out)) hm0 hm1).mono ?_
    intro e w3 hh
    by_cases hmn : most < n
    · have hbo : boundOf n most rest = .error 3 := by unfold boundOf; rw [if_pos hmn]
      rw [hbo] at hh
      obtain ⟨rfl, hb3⟩ := headIs_err hh
      have B3 := Lib.hid (bnext B2.out hb3)
      have T : Hid (countOf s a most l = .error 3) := Lib.hid (by unfold countOf; rw [HRES.out]; exact if_pos hmn)
      clear hh hb3 hbo
      go_wp2
      rw [T.out]
      refine door_err 3 b s a most w3 w.heap.size (.int .i64 0) (H.out.below (bnext WB.out B3.out)) ((B3.out.block _ (lt_of_block W0.out)).trans W0.out) (by omega) (fun w hc => by simp [results, Tryd.results29, go_sem, hc]) (fun w' hE hR hf => ?_)
      have hz := (bnext WB.out B3.out).size
      exact ⟨extB_own (bnext WB.out B3.out) hE, hR, _, rfl, hz, hf⟩
    · have hbo : boundOf n most rest = .ok (n, rest) := by unfold boundOf; rw [if_neg hmn]
      rw [hbo] at hh
      obtain ⟨rfl, hb3⟩ := headIs_ok hh
      have B3 := Lib.hid (bnext B2.out hb3)
      clear hh hb3 hbo
      obtain ⟨q, hq⟩ : ∃ q : Nat, n = q := ⟨n.toNat, by omega⟩
      subst hq
      have i2 : IntKind.i64.wrap (q : Int) = q := IntWalk.i64_in _ (by omega)
      have T : Hid (countOf s a most l = .ok (.int .i64 q, s.size - rest.size)) := Lib.hid (by
        unfold countOf; rw [HRES.out]
        show (if most < (q : Int) then _ else _) = _
        rw [if_neg hmn])
      have hb3 : b < w3.heap.size := Nat.lt_of_lt_of_le hbl (bnext WB.out B3.out).size
      have he3 : w.heap.size < w3.heap.size := Nat.lt_of_lt_of_le (lt_of_block W0.out) B3.out.size
      go_wp2_with fail
      refine (behind_any _ b s a rest.size most (block_alloc (H.out.below (bnext WB.out B3.out)) _) hs (by omega) (by omega)).mono ?_
      rintro e w5 ⟨rfl, hw5⟩
      have R5 : Hid (RdB w5 b s ((s.size - rest.size : Nat) : Int) most) := Lib.hid (by
        rw [hw5]
        have h := block_setCell (block_alloc (H.out.below (bnext WB.out B3.out)) (.cells #[.int .u64 q, .string rest] 71)) (o := 1) (.int .i64 ((s.size : Int) - rest.size))
        rw [show ((s.size - rest.size : Nat) : Int) = (s.size : Int) - rest.size by omega]
        exact h)
      have E5 : w5.heap[w.heap.size]? = some (.cells #[.nilIface] 31 (0, 0)) := by
        rw [hw5]; exact block_setCell_ne (block_alloc ((B3.out.block _ (lt_of_block W0.out)).trans W0.out) _) (by show w.heap.size ≠ b; omega) _
      have N5 : w5.heap[w3.heap.size]? = some (.cells #[.int .u64 q, .string rest] 71 (0, 0)) := by
        rw [hw5]; exact block_setCell_ne (alloc_new_at _ rfl) (by show w3.heap.size ≠ b; omega) _
      have X5 : Hid (ExtB (some b) w w5) := Lib.hid (by
        rw [hw5]
        have hB := balloc (bnext WB.out B3.out) (.cells #[.int .u64 q, .string rest] 71)
        exact ⟨hB.os, hB.tape, hB.output, by simpa using hB.size, fun i hi hn => by rw [Below.heap_setCell _ _ _ _ (by exact fun e => hn (by rw [e]))]; exact hB.block i hi⟩)
      have a0 : w5.cell? ⟨w3.heap.size, 0, none⟩ = some (.int .u64 q) := block_cell N5 0
      have a2 : w5.cell? ⟨w.heap.size, 0, none⟩ = some .nilIface := block_cell E5 0
      have a3 : w5.frozen? ⟨w.heap.size, 0, none⟩ = false := block_free E5 0
      have hz5 := lt_of_block E5
      clear hw5 E5 N5
      go_wp2
      rw [T.out]
      refine leaves_cons (f := 25) (args := #[.pointer (some ⟨b, 0, none⟩), .pointer (some ⟨w.heap.size, 0, none⟩)]) (by simp) (by simp [go_sem]) ?_
      refine (fault_idle (.pointer (some ⟨b, 0, none⟩)) (.pointer (some ⟨w.heap.size, 0, none⟩)) _).mono ?_
      rintro e u' w'' ⟨rfl, rfl, rfl⟩
      refine ⟨_, by simp [results, Tryd.results29, go_sem, a2]; rfl, ?_⟩
      refine ⟨?_, rfl, ?_⟩
      · exact ext_set X5.out (Nat.le_refl _) _
      · exact block_setCell_ne R5.out (by show b ≠ w.heap.size; omega) _
end Go.Proofs.YtmcmapcijncblaaDoor
