/- Parts of the proof, one behind the other. -/
import Derived.Test.YtoafjbillcooiaaGreatLvfP4
import Derived.Lib.ConvBytes
import Derived.Maps.AppendAt
import Derived.ArgAppend
import Derived.Laws.AppendOwnNone
namespace Go.Proofs.YtoafjbillcooiaaGreat
open Go.RowKit
set_option linter.unusedSimpArgs false
set_option linter.unusedVariables false
def SigB (sb : Nat) (k : Nat) (v p : Value) (w : World) : Prop := w.heap[sb]? = some (.cells #[.int .u64 (k : Nat), v, p] 54 (0, 0))
theorem grownBy_setO (W : World) (b o : Nat) (v : Value) : W.grownBy (W.setCell ⟨b, o, none⟩ v) (some b) :=
  ⟨rfl, rfl, rfl, by simp [World.setCell], fun k _ hk => Below.heap_setCell _ _ _ k (fun e => hk (by rw [e]))⟩
theorem TextsAt.lit {B : Nat} {L : List ByteArray} {v : Value} {w : World} (h : TextsAt B L v w) : ∃ a c, v = .slice a (len L) c ∧ TextsAt B L (.slice a (len L) c) w := by
  obtain ⟨a, c, rfl, h2⟩ := h
  exact ⟨a, c, rfl, a, c, rfl, h2⟩
theorem TextsAt.keep {sb : Nat} {L : List ByteArray} {v : Value} {w w' : World} (h : TextsAt (sb + 1) L v w) (hb : ExtB (some sb) w w') : TextsAt (sb + 1) L v w' := by
  obtain ⟨a, c, h1, h2, h3⟩ := h
  refine ⟨a, c, h1, fun i hi => ?_, h3⟩
  obtain ⟨b, off, h4, h5, h6⟩ := h2 i hi
  refine ⟨b, off, h4, h5, ?_⟩
  rw [World.cell?_of_block (w := w) (a := ⟨b, off + i, none⟩) (hb.block b (lt_of_cell h6) (fun e => by have : b = sb := Option.some.inj e; omega))]
  exact h6
theorem TextsAt.set {sb o : Nat} {L : List ByteArray} {v : Value} {w : World} (h : TextsAt (sb + 1) L v w) (x : Value) : TextsAt (sb + 1) L v (w.setCell ⟨sb, o, none⟩ x) := by
  obtain ⟨a, c, h1, h2, h3⟩ := h
  refine ⟨a, c, h1, fun i hi => ?_, h3⟩
  obtain ⟨b, off, h4, h5, h6⟩ := h2 i hi
  refine ⟨b, off, h4, h5, ?_⟩
  rw [World.cell?_of_block (w := w) (a := ⟨b, off + i, none⟩) (Below.heap_setCell _ _ _ _ (fun e => by have : b = sb := e; omega))]
  exact h6
theorem sig_ne {sb b : Nat} {k : Nat} {v p : Value} {cs : Array Value} {t : TypeId} {w : World} (hs : SigB sb k v p w) (h : w.heap[b]? = some (.cells cs t (0, 0))) (ht : t ≠ 54) : some b ≠ some sb := fun e => by
  cases e
  rw [hs] at h
  cases h
  exact ht rfl
theorem PlaceIs.sig {els : List ByteArray} {d sb k9 : Nat} {v p : Value} {w w' : World} (hs : SigB sb k9 v p w) (hb : ExtB (some sb) w w') : ∀ {l k b : Nat}, PlaceIs els d l k b w → PlaceIs els d l k b w'
  | 0, _, _, h => extB_block hb (sig_ne hs h (by decide)) h
  | l + 1, _, _, ⟨b0, b1, h, h0, h1⟩ => ⟨b0, b1, extB_block hb (sig_ne hs h (by decide)) h, PlaceIs.sig hs hb h0, PlaceIs.sig hs hb h1⟩
theorem TreeAt.sig {els : List ByteArray} {sb k9 b : Nat} {v p : Value} {w w' : World} (h : TreeAt els b w) (hs : SigB sb k9 v p w) (hb : ExtB (some sb) w w') : TreeAt els b w' := by
  obtain ⟨q, h1, h2⟩ := h
  exact ⟨q, extB_block hb (sig_ne hs h1 (by decide)) h1, h2.sig hs hb⟩
structure SgB (seed d : ByteArray) (f L K k lb tb xb kb db : Nat) (w : World) : Prop where
  l : LadAt seed f L K lb tb w
  x : w.heap[xb]? = some (.cells #[.pointer (some ⟨lb, 0, none⟩)] 68 (0, 0))
  k : w.heap[kb]? = some (.cells #[.int .u64 (k : Nat)] 37 (0, 0))
  d : w.heap[db]? = some (.cells #[.string d] 9 (0, 0))
theorem SgB.below {seed d : ByteArray} {f L K k lb tb xb kb db : Nat} {w w' : World} (h : SgB seed d f L K k lb tb xb kb db w) (hb : Below w.heap.size w w') : SgB seed d f L K k lb tb xb kb db w' :=
  ⟨h.l.below hb, (hb.block _ (lt_of_block h.x)).trans h.x, (hb.block _ (lt_of_block h.k)).trans h.k, (hb.block _ (lt_of_block h.d)).trans h.d⟩
set_option maxRecDepth 100000 in
set_option maxHeartbeats 4000000 in
theorem sign1_any (seed d : ByteArray) (f L K k lb tb xb kb db sb : Nat) (a1 a2 : Option Addr) (m1 m2 p1 p2 : Nat) (w : World) (h : SgB seed d f L K k lb tb xb kb db w) (hs : SigB sb k (.slice a1 m1 p1) (.slice a2 m2 p2) w) (hk : k < 18446744073709551616) (hsd : seed.size ≤ 1000) :
    Calls Tryz.prog 84 #[.pointer (some ⟨xb, 0, none⟩), .pointer (some ⟨kb, 0, none⟩), .pointer (some ⟨db, 0, none⟩), .pointer (some ⟨sb, 0, none⟩)] w fun e w' => e = .returned (.int .i64 (sgE d)) ∧ (∃ v, SigB sb k v (.slice a2 m2 p2) w' ∧ TextsAt (sb + 1) (sgL seed k d) v w') ∧ ExtB (some sb) w w' := by
  have HSG := Lib.hid (fun wv => sign13_at seed k d wv hk hsd)
  obtain ⟨L9, hL9⟩ : ∃ L9, sgL seed k d = L9 := ⟨_, rfl⟩
  obtain ⟨E, hE9⟩ : ∃ E, sgE d = E := ⟨_, rfl⟩
  rw [hL9, hE9] at HSG ⊢
  have HS := Lib.hid hs
  have c0 : w.cell? ⟨xb, 0, none⟩ = some (.pointer (some ⟨lb, 0, none⟩)) := block_cell h.x 0
  have c1 : w.cell? ⟨lb, 4, none⟩ = some (.string seed) := block_cell h.l.c 4
  have c2 : w.cell? ⟨kb, 0, none⟩ = some (.int .u64 (k : Nat)) := block_cell h.k 0
  have c3 : w.cell? ⟨db, 0, none⟩ = some (.string d) := block_cell h.d 0
  have q0 : some xb ≠ some sb := fun e => by cases e; have h9 := h.x; rw [hs] at h9; cases h9
  have q1 : some lb ≠ some sb := fun e => by cases e; have h9 := h.l.c; rw [hs] at h9; cases h9
  have q2 : some kb ≠ some sb := fun e => by cases e; have h9 := h.k; rw [hs] at h9; cases h9
  have q3 : some db ≠ some sb := fun e => by cases e; have h9 := h.d; rw [hs] at h9; cases h9
  have HSB : Hid (sb < w.heap.size) := Lib.hid (lt_of_block hs)
  clear h hs hk hsd hL9 hE9
  go_enter Tryz.func84, Tryz.ntmps84
  go_upto_region 1 with fail
  refine wp_region_all 11 ((some sb)) (phis [fun u _ => u = (.pointer (some ⟨lb, 0, none⟩)), fun u _ => u = (.pointer (some ⟨lb, 0, none⟩)), fun u _ => u = (.pointer (some ⟨lb, 4, none⟩)), fun u _ => u = (.string seed), fun u _ => u = (.int .u64 (k : Nat)), fun u _ => u = (.string d), fun u w' => ∃ v, u = .tuple #[v, .int .i64 E] ∧ TextsAt (sb + 1) L9 v w', fun u w' => ∃ v, u = .tuple #[v, .int .i64 E] ∧ TextsAt (sb + 1) L9 v w', fun u w' => TextsAt (sb + 1) L9 u w', fun u _ => u = (.int .i64 E), fun u _ => u = (.pointer (some ⟨sb, 1, none⟩)), fun _ w' => ∃ v, SigB sb k v (.slice a2 m2 p2) w' ∧ TextsAt (sb + 1) L9 v w', fun u _ => u = (.int .i64 E)]) rfl (by kernel_rfl) (mono_of ⟨mono_eq, mono_eq, mono_eq, mono_eq, mono_eq, mono_eq, ?m6, ?m7, ?m8, mono_eq, mono_eq, ?m11, mono_eq, trivial⟩) (steps_of 13 ⟨?s0, ?s1, ?s2, ?s3, ?s4, ?s5, ?s6, ?s7, ?s8, ?s9, ?s10, ?s11, ?s12, trivial⟩) ?_
  case m6 =>
    exact ⟨fun u w1 w' h ⟨v, h1, h2⟩ => ⟨v, h1, h2.below h⟩, fun _ u w1 w' h ⟨v, h1, h2⟩ => ⟨v, h1, h2.keep h⟩⟩
  case m7 =>
    exact ⟨fun u w1 w' h ⟨v, h1, h2⟩ => ⟨v, h1, h2.below h⟩, fun _ u w1 w' h ⟨v, h1, h2⟩ => ⟨v, h1, h2.keep h⟩⟩
  case m8 =>
    exact ⟨fun u w1 w' h h1 => h1.below h, fun _ u w1 w' h h1 => h1.keep h⟩
  case m11 =>
    exact ⟨fun u w1 w' h ⟨v, h1, h2⟩ => ⟨v, ext_block h h1, h2.below h⟩, fun hn => absurd rfl hn⟩
  case s0 =>
    refine qV (fun _ => rfl) rfl fun av wv hE hO hD => ?_
    simp [go_sem, qF av 0 (.pointer (some ⟨xb, 0, none⟩)) (hO.2.2 0 rfl), extB_cell hE q0 c0, extB_cell hE q1 c1, extB_cell hE q2 c2, extB_cell hE q3 c3]
  case s1 =>
    refine qV (fun _ => rfl) rfl fun av wv hE hO hD => ?_
    simp [go_sem, qE (hD.1 rfl _ rfl)]
  case s2 =>
    refine qV (fun _ => rfl) rfl fun av wv hE hO hD => ?_
    simp [go_sem, qE (hD.1 rfl _ rfl)]
  case s3 =>
    refine qV (fun _ => rfl) rfl fun av wv hE hO hD => ?_
    simp [go_sem, qE (hD.1 rfl _ rfl), extB_cell hE q0 c0, extB_cell hE q1 c1, extB_cell hE q2 c2, extB_cell hE q3 c3]
  case s4 =>
    refine qV (fun _ => rfl) rfl fun av wv hE hO hD => ?_
    simp [go_sem, qF av 1 (.pointer (some ⟨kb, 0, none⟩)) (hO.2.2 1 rfl), extB_cell hE q0 c0, extB_cell hE q1 c1, extB_cell hE q2 c2, extB_cell hE q3 c3]
  case s5 =>
    refine qV (fun _ => rfl) rfl fun av wv hE hO hD => ?_
    simp [go_sem, qF av 2 (.pointer (some ⟨db, 0, none⟩)) (hO.2.2 2 rfl), extB_cell hE q0 c0, extB_cell hE q1 c1, extB_cell hE q2 c2, extB_cell hE q3 c3]
  case s6 =>
    refine step_wp (fun av wv hE hS hO hD => ⟨rfl, ?_⟩)
    have f9 := qE (hD.1 rfl _ rfl)
    have f10 := qE (hD.2.1 rfl _ rfl)
    have f11 := qE (hD.2.2.1 rfl _ rfl)
    refine wp_of_callV (R := fun u w2 => (∃ v, u = .tuple #[v, .int .i64 E] ∧ TextsAt (sb + 1) L9 v w2) ∧ Below wv.heap.size wv w2) (f := 85) (args := #[.string seed, .int .u64 (k : Nat), .string d]) (by simp [go_sem, f9, f10, f11]) ((HSG.out wv).mono ?_) (fun v w2 h => ⟨_, rfl, es_of_ext h.2, h.1⟩)
    rintro e w2 ⟨v, rfl, h1, h2⟩
    have hz := hE.size
    exact ⟨_, rfl, ⟨v, rfl, h1.low (by simp at hz; have := HSB.out; omega)⟩, h2⟩
  case s7 =>
    refine step_wp (fun av wv hE hS hO hD => ⟨rfl, ?_⟩)
    have d12 : (fun u w' => ∃ v, u = .tuple #[v, .int .i64 E] ∧ TextsAt (sb + 1) L9 v w') (av.eval (.tmp 12)) wv := hD.1 rfl _ rfl
    obtain ⟨v, hv, ht⟩ := d12
    have fv := (ev_form av 12).symm.trans hv
    exact wp_of_run (v := .tuple #[v, .int .i64 E]) (w' := wv) (by simp [go_sem, fv]) ⟨_, rfl, es_of_ext (Ext_refl _), v, rfl, ht⟩
  case s8 =>
    refine step_wp (fun av wv hE hS hO hD => ⟨rfl, ?_⟩)
    have d5 : (fun u w' => ∃ v, u = .tuple #[v, .int .i64 E] ∧ TextsAt (sb + 1) L9 v w') (av.eval (.tmp 5)) wv := hD.1 rfl _ rfl
    obtain ⟨v, hv, ht⟩ := d5
    have fv := (ev_form av 5).symm.trans hv
    exact wp_of_run (v := v) (w' := wv) (by simp [go_sem, fv]) ⟨_, rfl, es_of_ext (Ext_refl _), ht⟩
  case s9 =>
    refine step_wp (fun av wv hE hS hO hD => ⟨rfl, ?_⟩)
    have d5 : (fun u w' => ∃ v, u = .tuple #[v, .int .i64 E] ∧ TextsAt (sb + 1) L9 v w') (av.eval (.tmp 5)) wv := hD.1 rfl _ rfl
    obtain ⟨v, hv, ht⟩ := d5
    have fv := (ev_form av 5).symm.trans hv
    exact wp_of_run (v := .int .i64 E) (w' := wv) (by simp [go_sem, fv]) ⟨_, rfl, es_of_ext (Ext_refl _), rfl⟩
  case s10 =>
    refine qV (fun _ => rfl) rfl fun av wv hE hO hD => ?_
    simp [go_sem, qF av 3 (.pointer (some ⟨sb, 0, none⟩)) (hO.2.2 3 rfl)]
  case s11 =>
    refine step_wp (fun av wv hE hS hO hD => ⟨rfl, ?_⟩)
    have f15 := qE (hD.1 rfl _ rfl)
    have d13 : (fun u w' => TextsAt (sb + 1) L9 u w') (av.eval (.tmp 13)) wv := hD.2.1 rfl _ rfl
    obtain ⟨a, c, hv, ht⟩ : ∃ a c, av.eval (.tmp 13) = .slice a (len L9) c ∧ TextsAt (sb + 1) L9 (.slice a (len L9) c) wv := d13.lit
    have fv := (ev_form av 13).symm.trans hv
    have hsb : SigB sb k (.slice a1 m1 p1) (.slice a2 m2 p2) wv := ext_block (hS rfl) HS.out
    have e0 : wv.cell? ⟨sb, 1, none⟩ = some (.slice a1 m1 p1) := block_cell hsb 1
    have e1 := block_free hsb 1
    have e2 := lt_of_block hsb
    unfold Oper.wp
    simp [go_sem, fv, f15, e0, e1, e2]
    exact ⟨es_sp (grownBy_setO _ _ _ _), undef, _, block_setCell hsb _, ht.set _⟩
  case s12 =>
    refine qV (fun _ => rfl) rfl fun av wv hE hO hD => ?_
    simp [go_sem, qE (hD.1 rfl _ rfl)]
  intro a' w' hE hO hall
  have hA := act_of_outer (ds := [6, 7, 8, 9, 10, 11, 12, 5, 13, 14, 15, 4]) rfl hO (by kernel_rfl)
  obtain ⟨j0, j1, j2, j3, j4, j5, j6, j7, j8, j9, j10, j11, j12, -⟩ := hall
  have e12 : (fun u w' => ∃ v, u = .tuple #[v, .int .i64 E] ∧ TextsAt (sb + 1) L9 v w') (a'.eval (.tmp 12)) w' := j6 _ rfl
  have e5 : (fun u w' => ∃ v, u = .tuple #[v, .int .i64 E] ∧ TextsAt (sb + 1) L9 v w') (a'.eval (.tmp 5)) w' := j7 _ rfl
  have e13 : (fun u w' => TextsAt (sb + 1) L9 u w') (a'.eval (.tmp 13)) w' := j8 _ rfl
  have z11 : (fun _ w' => ∃ v, SigB sb k v (.slice a2 m2 p2) w' ∧ TextsAt (sb + 1) L9 v w') undef w' := j11 _ rfl
  obtain ⟨v12, hv12⟩ : ∃ v, a'.eval (.tmp 12) = v := ⟨_, rfl⟩
  rw [hv12] at e12
  obtain ⟨v5, hv5⟩ : ∃ v, a'.eval (.tmp 5) = v := ⟨_, rfl⟩
  rw [hv5] at e5
  obtain ⟨v13, hv13⟩ : ∃ v, a'.eval (.tmp 13) = v := ⟨_, rfl⟩
  rw [hv13] at e13
  simp only [List.foldl_cons, List.foldl_nil, Act.put, List.setIfInBounds_toArray, List.set_cons_succ, List.set_cons_zero, qJ 6 (j0 _ rfl), qJ 7 (j1 _ rfl), qJ 8 (j2 _ rfl), qJ 9 (j3 _ rfl), qJ 10 (j4 _ rfl), qJ 11 (j5 _ rfl), hv12, hv5, hv13, qJ 14 (j9 _ rfl), qJ 15 (j10 _ rfl), qJ 4 (j12 _ rfl)] at hA
  clear hO j6 j7 j8 j11 j0 j1 j2 j3 j4 j5 hv12 hv5 hv13 j9 j10 j12
  subst hA
  have HEX : Hid (ExtB (some sb) w w') := Lib.hid (ExtB_trans _ _ _ _ (show ExtB (some sb) w w.drew from ⟨rfl, rfl, rfl, Nat.le_refl _, fun _ _ _ => rfl⟩) hE)
  have HV := Lib.hid z11
  clear hE c0 c1 c2 c3 z11 q0 q1 q2 q3
  go_wp2
  go_ret
  exact ⟨rfl, HV.out, HEX.out⟩
theorem prove1_at (els : List ByteArray) (tb k b : Nat) (w : World) (ht : TreeAt els tb w) (hn : len els ≤ 65536) (hk : k < len els) (hb : w.heap[b]? = some (.cells #[.int .u64 (k : Nat)] 37 (0, 0))) : Calls Tryz.prog 20 #[.pointer (some ⟨tb, 0, none⟩), .slice (some ⟨b, 0, none⟩) 1 1] w fun e w' => ∃ v, e = .returned (.tuple #[v, .int .i64 0]) ∧ TextsAt w.heap.size (oneD els k) v w' ∧ Below w.heap.size w w' := by
  refine (prove_ok els tb [((k : Nat) : Int)] (some ⟨b, 0, none⟩) 1 w ht hn (fun i hi => ⟨b, 0, rfl, by
    have hi : i < 1 := hi
    obtain rfl : i = 0 := by omega
    exact block_cell hb 0⟩) (show 1 ≤ 12 by decide) (fun x hx => by
      have hx : x = ((k : Nat) : Int) := by simpa using hx
      subst hx
      unfold U64
      omega) (one_may hk)).mono ?_
  rintro e w' ⟨v, rfl, hr, hbb⟩
  exact ⟨v, rfl, TextsAt.own hr, hbb⟩
set_option maxRecDepth 100000 in
set_option maxHeartbeats 4000000 in
theorem sign2_any (seed d : ByteArray) (f L K k lb tb xb kb db sb : Nat) (a1 a2 : Option Addr) (m1 m2 p1 p2 : Nat) (w : World) (h : SgB seed d f L K k lb tb xb kb db w) (hs : SigB sb k (.slice a1 m1 p1) (.slice a2 m2 p2) w) (hk : k < K) (hK : K ≤ 64) :
    Calls Tryz.prog 86 #[.pointer (some ⟨xb, 0, none⟩), .pointer (some ⟨kb, 0, none⟩), .pointer (some ⟨sb, 0, none⟩)] w fun e w' => e = .returned (.int .i64 0) ∧ (∃ v, SigB sb k (.slice a1 m1 p1) v w' ∧ TextsAt (sb + 1) (oneD (rungL seed K) k) v w') ∧ ExtB (some sb) w w' := by
  obtain ⟨L9, hL9⟩ : ∃ L9, oneD (rungL seed K) k = L9 := ⟨_, rfl⟩
  have HS := Lib.hid hs
  have HSB : Hid (sb < w.heap.size) := Lib.hid (lt_of_block hs)
  have HPR : Hid (∀ (wv : World) (b : Nat), ExtB (some sb) w.drew wv → wv.heap[b]? = some (.cells #[.int .u64 (k : Nat)] 37 (0, 0)) → Calls Tryz.prog 20 #[.pointer (some ⟨tb, 0, none⟩), .slice (some ⟨b, 0, none⟩) 1 1] wv fun e w' => ∃ u, e = .returned u ∧ (∃ v, u = .tuple #[v, .int .i64 0] ∧ TextsAt (sb + 1) L9 v w') ∧ Below wv.heap.size wv w') := Lib.hid (fun wv b hb hc => by
    have hx : ExtB (some sb) w wv := ExtB_trans _ _ _ _ (show ExtB (some sb) w w.drew from ⟨rfl, rfl, rfl, Nat.le_refl _, fun _ _ _ => rfl⟩) hb
    have ht : TreeAt (rungL seed K) tb wv := h.l.t.sig hs hx
    refine (prove1_at (rungL seed K) tb k b wv ht (by rw [rungL_len]; omega) (by rw [rungL_len]; exact hk) hc).mono ?_
    rintro e w2 ⟨v, rfl, h1, h2⟩
    rw [hL9] at h1
    exact ⟨_, rfl, ⟨v, rfl, h1.low (by have h3 := hx.size; have h4 := lt_of_block hs; omega)⟩, h2⟩)
  rw [hL9]
  have c0 : w.cell? ⟨xb, 0, none⟩ = some (.pointer (some ⟨lb, 0, none⟩)) := block_cell h.x 0
  have c1 : w.cell? ⟨lb, 3, none⟩ = some (.pointer (some ⟨tb, 0, none⟩)) := block_cell h.l.c 3
  have c2 : w.cell? ⟨kb, 0, none⟩ = some (.int .u64 (k : Nat)) := block_cell h.k 0
  have q0 : some xb ≠ some sb := fun e => by cases e; have h9 := h.x; rw [hs] at h9; cases h9
  have q1 : some lb ≠ some sb := fun e => by cases e; have h9 := h.l.c; rw [hs] at h9; cases h9
  have q2 : some kb ≠ some sb := fun e => by cases e; have h9 := h.k; rw [hs] at h9; cases h9
  clear h hs hk hK hL9
  go_enter Tryz.func86, Tryz.ntmps86
  go_upto_region 1 with fail
  refine wp_region_all 11 ((some sb)) (phis [fun u _ => u = (.pointer (some ⟨lb, 0, none⟩)), fun u _ => u = (.pointer (some ⟨lb, 0, none⟩)), fun u _ => u = (.pointer (some ⟨lb, 3, none⟩)), fun u _ => u = (.pointer (some ⟨tb, 0, none⟩)), fun u _ => u = (.int .u64 (k : Nat)), fun u w' => ∃ b, u = .slice (some ⟨b, 0, none⟩) 1 1 ∧ some b ≠ some sb ∧ w'.heap[b]? = some (.cells #[.int .u64 (k : Nat)] 37 (0, 0)), fun u w' => ∃ v, u = .tuple #[v, .int .i64 0] ∧ TextsAt (sb + 1) L9 v w', fun u w' => ∃ v, u = .tuple #[v, .int .i64 0] ∧ TextsAt (sb + 1) L9 v w', fun u w' => TextsAt (sb + 1) L9 u w', fun u _ => u = (.int .i64 0), fun u _ => u = (.pointer (some ⟨sb, 2, none⟩)), fun _ w' => ∃ v, SigB sb k (.slice a1 m1 p1) v w' ∧ TextsAt (sb + 1) L9 v w', fun u _ => u = (.int .i64 0)]) rfl (by kernel_rfl) (mono_of ⟨mono_eq, mono_eq, mono_eq, mono_eq, mono_eq, ?m5, ?m6, ?m7, ?m8, mono_eq, mono_eq, ?m11, mono_eq, trivial⟩) (steps_of 13 ⟨?s0, ?s1, ?s2, ?s3, ?s4, ?s5, ?s6, ?s7, ?s8, ?s9, ?s10, ?s11, ?s12, trivial⟩) ?_
  case m5 =>
    exact ⟨fun u w1 w' h ⟨b, h1, hn, hb⟩ => ⟨b, h1, hn, ext_block h hb⟩, fun _ u w1 w' h ⟨b, h1, hn, hb⟩ => ⟨b, h1, hn, extB_block h hn hb⟩⟩
  case m6 =>
    exact ⟨fun u w1 w' h ⟨v, h1, h2⟩ => ⟨v, h1, h2.below h⟩, fun _ u w1 w' h ⟨v, h1, h2⟩ => ⟨v, h1, h2.keep h⟩⟩
  case m7 =>
    exact ⟨fun u w1 w' h ⟨v, h1, h2⟩ => ⟨v, h1, h2.below h⟩, fun _ u w1 w' h ⟨v, h1, h2⟩ => ⟨v, h1, h2.keep h⟩⟩
  case m8 =>
    exact ⟨fun u w1 w' h h1 => h1.below h, fun _ u w1 w' h h1 => h1.keep h⟩
  case m11 =>
    exact ⟨fun u w1 w' h ⟨v, h1, h2⟩ => ⟨v, ext_block h h1, h2.below h⟩, fun hn => absurd rfl hn⟩
  case s0 =>
    refine qV (fun _ => rfl) rfl fun av wv hE hO hD => ?_
    simp [go_sem, qF av 0 (.pointer (some ⟨xb, 0, none⟩)) (hO.2.2 0 rfl), extB_cell hE q0 c0, extB_cell hE q1 c1, extB_cell hE q2 c2]
  case s1 =>
    refine qV (fun _ => rfl) rfl fun av wv hE hO hD => ?_
    simp [go_sem, qE (hD.1 rfl _ rfl)]
  case s2 =>
    refine qV (fun _ => rfl) rfl fun av wv hE hO hD => ?_
    simp [go_sem, qE (hD.1 rfl _ rfl)]
  case s3 =>
    refine qV (fun _ => rfl) rfl fun av wv hE hO hD => ?_
    simp [go_sem, qE (hD.1 rfl _ rfl), extB_cell hE q0 c0, extB_cell hE q1 c1, extB_cell hE q2 c2]
  case s4 =>
    refine qV (fun _ => rfl) rfl fun av wv hE hO hD => ?_
    simp [go_sem, qF av 1 (.pointer (some ⟨kb, 0, none⟩)) (hO.2.2 1 rfl), extB_cell hE q0 c0, extB_cell hE q1 c1, extB_cell hE q2 c2]
  case s5 =>
    refine step_wp (fun av wv hE hS hO hD => ⟨rfl, ?_⟩)
    have f9 := qE (hD.1 rfl _ rfl)
    have hz := hE.size
    exact wp_of_run (v := .slice (some ⟨wv.heap.size, 0, none⟩) 1 1) (w' := wv.alloc (.cells #[.int .u64 (k : Nat)] 37)) (by simp [go_sem, f9]) ⟨_, rfl, es_of_ext (balloc (Ext_refl _) _), wv.heap.size, rfl, (fun e => by have e9 : wv.heap.size = sb := Option.some.inj e; simp at hz; have := HSB.out; omega), heap_alloc_new _ _⟩
  case s6 =>
    refine step_wp (fun av wv hE hS hO hD => ⟨rfl, ?_⟩)
    have f8 := qE (hD.1 rfl _ rfl)
    have d10 : (fun u w' => ∃ b, u = .slice (some ⟨b, 0, none⟩) 1 1 ∧ some b ≠ some sb ∧ w'.heap[b]? = some (.cells #[.int .u64 (k : Nat)] 37 (0, 0))) (av.eval (.tmp 10)) wv := hD.2.1 rfl _ rfl
    obtain ⟨b, hq, -, hcq⟩ := d10
    have fq := (ev_form av 10).symm.trans hq
    refine wp_of_callV (R := fun u w2 => (∃ v, u = .tuple #[v, .int .i64 0] ∧ TextsAt (sb + 1) L9 v w2) ∧ Below wv.heap.size wv w2) (f := 20) (args := #[.pointer (some ⟨tb, 0, none⟩), .slice (some ⟨b, 0, none⟩) 1 1]) (by simp [go_sem, f8, fq]) (HPR.out wv b hE hcq) (fun v w2 h => ⟨_, rfl, es_of_ext h.2, h.1⟩)
  case s7 =>
    refine step_wp (fun av wv hE hS hO hD => ⟨rfl, ?_⟩)
    have d11 : (fun u w' => ∃ v, u = .tuple #[v, .int .i64 0] ∧ TextsAt (sb + 1) L9 v w') (av.eval (.tmp 11)) wv := hD.1 rfl _ rfl
    obtain ⟨v, hv, ht⟩ := d11
    have fv := (ev_form av 11).symm.trans hv
    exact wp_of_run (v := .tuple #[v, .int .i64 0]) (w' := wv) (by simp [go_sem, fv]) ⟨_, rfl, es_of_ext (Ext_refl _), v, rfl, ht⟩
  case s8 =>
    refine step_wp (fun av wv hE hS hO hD => ⟨rfl, ?_⟩)
    have d4 : (fun u w' => ∃ v, u = .tuple #[v, .int .i64 0] ∧ TextsAt (sb + 1) L9 v w') (av.eval (.tmp 4)) wv := hD.1 rfl _ rfl
    obtain ⟨v, hv, ht⟩ := d4
    have fv := (ev_form av 4).symm.trans hv
    exact wp_of_run (v := v) (w' := wv) (by simp [go_sem, fv]) ⟨_, rfl, es_of_ext (Ext_refl _), ht⟩
  case s9 =>
    refine step_wp (fun av wv hE hS hO hD => ⟨rfl, ?_⟩)
    have d4 : (fun u w' => ∃ v, u = .tuple #[v, .int .i64 0] ∧ TextsAt (sb + 1) L9 v w') (av.eval (.tmp 4)) wv := hD.1 rfl _ rfl
    obtain ⟨v, hv, ht⟩ := d4
    have fv := (ev_form av 4).symm.trans hv
    exact wp_of_run (v := .int .i64 0) (w' := wv) (by simp [go_sem, fv]) ⟨_, rfl, es_of_ext (Ext_refl _), rfl⟩
  case s10 =>
    refine qV (fun _ => rfl) rfl fun av wv hE hO hD => ?_
    simp [go_sem, qF av 2 (.pointer (some ⟨sb, 0, none⟩)) (hO.2.2 2 rfl)]
  case s11 =>
    refine step_wp (fun av wv hE hS hO hD => ⟨rfl, ?_⟩)
    have f14 := qE (hD.1 rfl _ rfl)
    have d12 : (fun u w' => TextsAt (sb + 1) L9 u w') (av.eval (.tmp 12)) wv := hD.2.1 rfl _ rfl
    obtain ⟨a, c, hv, ht⟩ : ∃ a c, av.eval (.tmp 12) = .slice a (len L9) c ∧ TextsAt (sb + 1) L9 (.slice a (len L9) c) wv := d12.lit
    have fv := (ev_form av 12).symm.trans hv
    have hsb : SigB sb k (.slice a1 m1 p1) (.slice a2 m2 p2) wv := ext_block (hS rfl) HS.out
    have e0 : wv.cell? ⟨sb, 2, none⟩ = some (.slice a2 m2 p2) := block_cell hsb 2
    have e1 := block_free hsb 2
    have e2 := lt_of_block hsb
    unfold Oper.wp
    simp [go_sem, fv, f14, e0, e1, e2]
    exact ⟨es_sp (grownBy_setO _ _ _ _), undef, _, block_setCell hsb _, ht.set _⟩
  case s12 =>
    refine qV (fun _ => rfl) rfl fun av wv hE hO hD => ?_
    simp [go_sem, qE (hD.1 rfl _ rfl)]
  intro a' w' hE hO hall
  have hA := act_of_outer (ds := [5, 6, 7, 8, 9, 10, 11, 4, 12, 13, 14, 3]) rfl hO (by kernel_rfl)
  obtain ⟨j0, j1, j2, j3, j4, j5, j6, j7, j8, j9, j10, j11, j12, -⟩ := hall
  have e10 : (fun u w' => ∃ b, u = .slice (some ⟨b, 0, none⟩) 1 1 ∧ some b ≠ some sb ∧ w'.heap[b]? = some (.cells #[.int .u64 (k : Nat)] 37 (0, 0))) (a'.eval (.tmp 10)) w' := j5 _ rfl
  have e11 : (fun u w' => ∃ v, u = .tuple #[v, .int .i64 0] ∧ TextsAt (sb + 1) L9 v w') (a'.eval (.tmp 11)) w' := j6 _ rfl
  have e4 : (fun u w' => ∃ v, u = .tuple #[v, .int .i64 0] ∧ TextsAt (sb + 1) L9 v w') (a'.eval (.tmp 4)) w' := j7 _ rfl
  have e12 : (fun u w' => TextsAt (sb + 1) L9 u w') (a'.eval (.tmp 12)) w' := j8 _ rfl
  have z11 : (fun _ w' => ∃ v, SigB sb k (.slice a1 m1 p1) v w' ∧ TextsAt (sb + 1) L9 v w') undef w' := j11 _ rfl
  obtain ⟨v10, hv10⟩ : ∃ v, a'.eval (.tmp 10) = v := ⟨_, rfl⟩
  rw [hv10] at e10
  obtain ⟨v11, hv11⟩ : ∃ v, a'.eval (.tmp 11) = v := ⟨_, rfl⟩
  rw [hv11] at e11
  obtain ⟨v4, hv4⟩ : ∃ v, a'.eval (.tmp 4) = v := ⟨_, rfl⟩
  rw [hv4] at e4
  obtain ⟨v12, hv12⟩ : ∃ v, a'.eval (.tmp 12) = v := ⟨_, rfl⟩
  rw [hv12] at e12
  simp only [List.foldl_cons, List.foldl_nil, Act.put, List.setIfInBounds_toArray, List.set_cons_succ, List.set_cons_zero, qJ 5 (j0 _ rfl), qJ 6 (j1 _ rfl), qJ 7 (j2 _ rfl), qJ 8 (j3 _ rfl), qJ 9 (j4 _ rfl), hv10, hv11, hv4, hv12, qJ 13 (j9 _ rfl), qJ 14 (j10 _ rfl), qJ 3 (j12 _ rfl)] at hA
  clear hO j5 j6 j7 j8 j11 j0 j1 j2 j3 j4 hv10 hv11 hv4 hv12 j9 j10 j12
  subst hA
  have HEX : Hid (ExtB (some sb) w w') := Lib.hid (ExtB_trans _ _ _ _ (show ExtB (some sb) w w.drew from ⟨rfl, rfl, rfl, Nat.le_refl _, fun _ _ _ => rfl⟩) hE)
  have HV := Lib.hid z11
  clear hE c0 c1 c2 z11 q0 q1 q2
  go_wp2
  go_ret
  exact ⟨rfl, HV.out, HEX.out⟩
end Go.Proofs.YtoafjbillcooiaaGreat
namespace Go.Proofs.YtoafjbillcooiaaGreat
open Go.RowKit
set_option linter.unusedSimpArgs false
set_option linter.unusedVariables false
def SignIs (S : SigD) (E : Int) (w : World) (e : Ending) (w' : World) : Prop := ∃ v p, e = .returned (.tuple #[.agg #[.int .u64 S.ix, v, p], .int .i64 E]) ∧ TextsAre S.ws v w' ∧ TextsAre S.ps p w' ∧ Below w.heap.size w w'
theorem TextsAt.setL {B b o : Nat} {L : List ByteArray} {v : Value} {w : World} (h : TextsAt B L v w) (hlt : b < B) (x : Value) : TextsAt B L v (w.setCell ⟨b, o, none⟩ x) := by
  obtain ⟨a, c, h1, h2, h3⟩ := h
  refine ⟨a, c, h1, fun i hi => ?_, h3⟩
  obtain ⟨b9, off, h4, h5, h6⟩ := h2 i hi
  refine ⟨b9, off, h4, h5, ?_⟩
  rw [World.cell?_of_block (w := w) (a := ⟨b9, off + i, none⟩) (Below.heap_setCell _ _ _ _ (fun e => by have : b9 = b := e; omega))]
  exact h6
theorem SgB.sig {seed d : ByteArray} {f L K k lb tb xb kb db sb k9 : Nat} {v p : Value} {w w' : World} (h : SgB seed d f L K k lb tb xb kb db w) (hs : SigB sb k9 v p w) (hb : ExtB (some sb) w w') : SgB seed d f L K k lb tb xb kb db w' :=
  ⟨⟨extB_block hb (sig_ne hs h.l.c (by decide)) h.l.c, h.l.t.sig hs hb⟩, extB_block hb (sig_ne hs h.x (by decide)) h.x, extB_block hb (sig_ne hs h.k (by decide)) h.k, extB_block hb (sig_ne hs h.d (by decide)) h.d⟩
def sgF (j : Nat) : FuncId := if j = 0 then 84 else 86
def sgC (xb kb db sb j : Nat) : Array Value := if j = 0 then #[.pointer (some ⟨xb, 0, none⟩), .pointer (some ⟨kb, 0, none⟩), .pointer (some ⟨db, 0, none⟩), .pointer (some ⟨sb, 0, none⟩)] else #[.pointer (some ⟨xb, 0, none⟩), .pointer (some ⟨kb, 0, none⟩), .pointer (some ⟨sb, 0, none⟩)]
structure SgQ (seed d : ByteArray) (f L K k lb tb xb kb db sb rb fb : Nat) (w0 : World) (j : Nat) (w : World) : Prop where
  b : SgB seed d f L K k lb tb xb kb db w
  r : w.heap[fb]? = some (.cells #[.func (.func 84) #[] (sgC xb kb db sb 0), .func (.func 86) #[] (sgC xb kb db sb 1)] 120 (0, 0))
  z : w.heap[rb]? = some (.cells #[.int .u64 0, .slice none 0 0, .slice none 0 0] 54 (0, 0))
  s : ∃ a1 m1 p1 a2 m2 p2, SigB sb k (.slice a1 m1 p1) (.slice a2 m2 p2) w ∧ (1 ≤ j → TextsAt (sb + 1) (sgL seed k d) (.slice a1 m1 p1) w ∧ d.size = 32) ∧ (2 ≤ j → TextsAt (sb + 1) (oneD (rungL seed K) k) (.slice a2 m2 p2) w)
  w : Below w0.heap.size w0 w
theorem SgQ.below {seed d : ByteArray} {f L K k lb tb xb kb db sb rb fb : Nat} {w0 : World} {j : Nat} {w w' : World} (h : SgQ seed d f L K k lb tb xb kb db sb rb fb w0 j w) (hb : Below w.heap.size w w') : SgQ seed d f L K k lb tb xb kb db sb rb fb w0 j w' := by
  obtain ⟨a1, m1, p1, a2, m2, p2, h1, h2, h3⟩ := h.s
  exact ⟨h.b.below hb, (hb.block _ (lt_of_block h.r)).trans h.r, (hb.block _ (lt_of_block h.z)).trans h.z, ⟨a1, m1, p1, a2, m2, p2, (hb.block _ (lt_of_block h1)).trans h1, fun hj => ⟨(h2 hj).1.below hb, (h2 hj).2⟩, fun hj => (h3 hj).below hb⟩, bnext h.w hb⟩
def SgA (seed d : ByteArray) (f L K k lb tb xb kb db sb rb fb : Nat) (w0 : World) (x : Int) (w' : World) : Prop := x = sgE d ∧ Below w0.heap.size w0 w' ∧ w'.heap[rb]? = some (.cells #[.int .u64 0, .slice none 0 0, .slice none 0 0] 54 (0, 0)) ∧ (x = 0 → SgQ seed d f L K k lb tb xb kb db sb rb fb w0 2 w')
theorem sgfirst_any (seed d : ByteArray) (f L K k lb tb xb kb db sb rb fb : Nat) (w0 w : World) (h : SgQ seed d f L K k lb tb xb kb db sb rb fb w0 0 w) (hsb : w0.heap.size ≤ sb) (hrs : rb ≠ sb) (hk : k < K) (hK : K ≤ 64) (hsd : seed.size ≤ 1000) :
    Calls Tryz.prog 78 #[.slice (some ⟨fb, 0, none⟩) 2 2] w fun e w' => ∃ x, e = .returned (.int .i64 x) ∧ SgA seed d f L K k lb tb xb kb db sb rb fb w0 x w' :=
  lfirst_any 2 fb sgF (sgC xb kb db sb) (SgQ seed d f L K k lb tb xb kb db sb rb fb w0) (SgA seed d f L K k lb tb xb kb db sb rb fb w0) w (by decide)
    (fun k => by
      unfold sgF
      split
      · exact enters_of Tryz.func84 (by kernel_rfl) rfl
      · exact enters_of Tryz.func86 (by kernel_rfl) rfl)
    (fun j w1 w2 h hb => h.below hb)
    (fun j hj w1 h => by
      rcases (by omega : j = 0 ∨ j = 1) with rfl | rfl
      · exact block_cell h.r 0
      · exact block_cell h.r 1)
    h
    (fun j hj w1 hw h => by
      obtain ⟨a1, m1, p1, a2, m2, p2, h1, h2, h3⟩ := h.s
      have keep : ∀ w2, ExtB (some sb) w1 w2 → SgB seed d f L K k lb tb xb kb db w2 ∧ w2.heap[fb]? = w1.heap[fb]? ∧ w2.heap[rb]? = w1.heap[rb]? ∧ Below w0.heap.size w0 w2 := fun w2 hx =>
        ⟨h.b.sig h1 hx, hx.block _ (lt_of_block h.r) (sig_ne h1 h.r (by decide)), hx.block _ (lt_of_block h.z) (fun e => hrs (Option.some.inj e)), grownBy_below h.w hx (fun q hq => by cases hq; exact hsb)⟩
      rcases (by omega : j = 0 ∨ j = 1) with rfl | rfl
      · refine (sign1_any seed d f L K k lb tb xb kb db sb a1 a2 m1 m2 p1 p2 w1 h.b h1 (by omega) hsd).mono ?_
        rintro e w2 ⟨rfl, ⟨v, h4, h5⟩, hx⟩
        obtain ⟨k1, k2, k3, k4⟩ := keep w2 hx
        obtain ⟨a3, c3, rfl, h6⟩ := h5.lit
        refine ⟨_, rfl, fun h0 => ⟨k1, k2.trans h.r, k3.trans h.z, ⟨a3, _, c3, a2, m2, p2, h4, fun _ => ⟨h6, ?_⟩, fun h9 => by omega⟩, k4⟩, fun h0 => ⟨rfl, k4, k3.trans h.z, fun hz => absurd hz h0⟩, Nat.le_trans hw hx.size⟩
        unfold sgE at h0
        by_cases h32 : d.size = 32
        · exact h32
        · rw [if_neg h32] at h0; cases h0
      · refine (sign2_any seed d f L K k lb tb xb kb db sb a1 a2 m1 m2 p1 p2 w1 h.b h1 hk hK).mono ?_
        rintro e w2 ⟨rfl, ⟨v, h4, h5⟩, hx⟩
        obtain ⟨k1, k2, k3, k4⟩ := keep w2 hx
        obtain ⟨a3, c3, rfl, h6⟩ := h5.lit
        have h7 := h2 (Nat.le_refl _)
        exact ⟨0, rfl, fun _ => ⟨k1, k2.trans h.r, k3.trans h.z, ⟨a1, m1, p1, a3, _, c3, h4, fun _ => ⟨h7.1.keep hx, h7.2⟩, fun _ => h6⟩, k4⟩, fun h0 => absurd rfl h0, Nat.le_trans hw hx.size⟩)
    (fun w1 h => by
      obtain ⟨a1, m1, p1, a2, m2, p2, h1, h2, h3⟩ := h.s
      exact ⟨by unfold sgE; rw [if_pos (h2 (by decide)).2], h.w, h.z, fun _ => h⟩)
theorem signD_no {seed d : ByteArray} {f L K r : Nat} (h : keyO f L K r = none) : signD seed f L K r d = ⟨0, [], []⟩ ∧ signE f L K r d = 16 := by
  unfold signD signE
  rw [h]
  exact ⟨rfl, rfl⟩
theorem signD_bad {seed d : ByteArray} {f L K r k : Nat} (h : keyO f L K r = some k) (hd : d.size ≠ 32) : signD seed f L K r d = ⟨0, [], []⟩ ∧ signE f L K r d = 2 := by
  unfold signD signE
  rw [h]
  exact ⟨if_neg hd, if_neg hd⟩
theorem signD_ok {seed d : ByteArray} {f L K r k : Nat} (h : keyO f L K r = some k) (hd : d.size = 32) : signD seed f L K r d = ⟨(k : Nat), sgL seed k d, oneD (rungL seed K) k⟩ ∧ signE f L K r d = 0 := by
  unfold signD signE sgL
  rw [h, if_pos hd]
  exact ⟨if_pos hd, if_pos hd⟩
set_option maxRecDepth 100000 in
set_option maxHeartbeats 4000000 in
theorem sign14_any (seed d : ByteArray) (f L K lb tb r : Nat) (w : World) (h : LadAt seed f L K lb tb w) (hf : f < 18446744073709551616) (hr : r < 18446744073709551616) (hL : 0 < L) (hK : K ≤ 64) (hsd : seed.size ≤ 1000) :
    Calls Tryz.prog 31 #[.pointer (some ⟨lb, 0, none⟩), .int .u64 (r : Nat), .string d] w (SignIs (signD seed f L K r d) (signE f L K r d) w) := by
  have H := Lib.hid h
  have HKY := Lib.hid (fun wv => lkey_any f L K r wv hf hr hL)
  have HK := Lib.hid hK
  have HSD := Lib.hid hsd
  clear h hf hr hL hK hsd
  go_enter Tryz.func31, Tryz.ntmps31
  go_upto_region 1 with fail
  obtain ⟨xb, hxb⟩ : ∃ xb, w.heap.size = xb := ⟨_, rfl⟩
  obtain ⟨V, hV⟩ : ∃ V, (((w.alloc (.cells #[.pointer (some ⟨lb, 0, none⟩)] 68)).alloc (.cells #[.string d] 9)).alloc (.cells #[.int .u64 0, .slice none 0 0, .slice none 0 0] 54)) = V := ⟨_, rfl⟩
  have HXB : Hid (w.heap.size ≤ xb) := Lib.hid (Nat.le_of_eq hxb)
  have HVB : Hid (Below w.heap.size w V) := Lib.hid (by rw [← hV]; exact balloc (balloc (balloc (Below.refl _ _) _) _) _)
  have HVS : Hid (V.heap.size = xb + 3) := Lib.hid (by rw [← hV, ← hxb]; simp)
  have HX : Hid (V.heap[xb]? = some (.cells #[.pointer (some ⟨lb, 0, none⟩)] 68 (0, 0))) := Lib.hid (by rw [← hV]; exact block_alloc (block_alloc (alloc_new_at _ hxb) _) _)
  have HD : Hid (V.heap[xb + 1]? = some (.cells #[.string d] 9 (0, 0))) := Lib.hid (by rw [← hV]; exact block_alloc (alloc_new_at _ (by simp; omega)) _)
  have HR : Hid (V.heap[xb + 2]? = some (.cells #[.int .u64 0, .slice none 0 0, .slice none 0 0] 54 (0, 0))) := Lib.hid (by rw [← hV]; exact alloc_new_at _ (by simp; omega))
  have h03 : w.heap.size + 1 + 1 = xb + 2 := by omega
  have h02 : w.heap.size + 1 = xb + 1 := by omega
  rw [hV, h03, h02, hxb]
  have HLV := Lib.hid (H.out.below HVB.out)
  have cx : V.cell? ⟨xb, 0, none⟩ = some (.pointer (some ⟨lb, 0, none⟩)) := block_cell HX.out 0
  have c0 : V.cell? ⟨lb, 0, none⟩ = some (.int .u64 (f : Nat)) := block_cell HLV.out.c 0
  have c1 : V.cell? ⟨lb, 1, none⟩ = some (.int .u64 (L : Nat)) := block_cell HLV.out.c 1
  have c2 : V.cell? ⟨lb, 2, none⟩ = some (.int .u64 (K : Nat)) := block_cell HLV.out.c 2
  clear hxb hV h03 h02
  go_wp2_with fail
  refine (HKY.out _).mono ?_
  rintro e w1 ⟨rfl, hb⟩
  have HB1 := Lib.hid hb
  have HR1 := Lib.hid ((hb.block _ (lt_of_block HR.out)).trans HR.out)
  unfold keyV
  clear hb c0 c1 c2 cx
  cases hk : keyO f L K r with
  | none =>
    have HS := Lib.hid (signD_no (seed := seed) (d := d) hk)
    dsimp only [Option.getD, Option.isSome]
    clear hk
    have z0 := fun o => block_cell HR1.out o
    have z1 : ∀ o, w1.frozen? ⟨xb + 2, o, none⟩ = false := block_free HR1.out
    have z2 : xb + 2 < w1.heap.size := lt_of_block HR1.out
    go_wp2
    have hk9 := block_alloc (block_setCell (block_setCell (block_setCell HR1.out (o := 0) (.int .u64 0)) (o := 1) (.slice none 0 0)) (o := 2) (.slice none 0 0)) (.cells #[.int .u64 0] 37)
    have e0 := block_cell hk9 0
    have e1 := block_cell hk9 1
    have e2 := block_cell hk9 2
    have hlo : w.heap.size ≤ xb + 2 := by have := HXB.out; omega
    refine bodyPost_ret (v := .tuple #[.agg #[.int .u64 0, .slice none 0 0, .slice none 0 0], .int .i64 16]) ?_ rfl ⟨.slice none 0 0, .slice none 0 0, by rw [HS.out.1, HS.out.2], by rw [HS.out.1]; exact TextsAre.nil _, by rw [HS.out.1]; exact TextsAre.nil _, balloc (bset (bset (bset (bnext HVB.out HB1.out) hlo _) hlo _) hlo _) _⟩
    simp [results, Tryz.results31, go_sem, e0, e1, e2]
  | some k =>
    have HK9 := Lib.hid hk
    dsimp only [Option.getD, Option.isSome]
    clear hk
    obtain ⟨s1, hs1⟩ : ∃ s1, w1.heap.size = s1 := ⟨_, rfl⟩
    go_wp2_with fail
    obtain ⟨V2, hV2⟩ : ∃ V2, (((w1.alloc (.cells #[.int .u64 (k : Nat)] 37)).alloc (.cells #[.int .u64 (k : Nat), .slice none 0 0, .slice none 0 0] 54)).alloc (.cells #[.func (.func 84) #[] #[.pointer (some ⟨xb, 0, none⟩), .pointer (some ⟨s1, 0, none⟩), .pointer (some ⟨xb + 1, 0, none⟩), .pointer (some ⟨s1 + 1, 0, none⟩)], .func (.func 86) #[] #[.pointer (some ⟨xb, 0, none⟩), .pointer (some ⟨s1, 0, none⟩), .pointer (some ⟨s1 + 1, 0, none⟩)]] 120)) = V2 := ⟨_, rfl⟩
    have hb2 : Below w1.heap.size w1 V2 := by rw [← hV2]; exact balloc (balloc (balloc (Below.refl _ _) _) _) _
    have hs9 : s1 < V2.heap.size := by rw [← hV2]; simp; omega
    have hd1 := (HB1.out.block _ (lt_of_block HD.out)).trans HD.out
    have hx1 := (HB1.out.block _ (lt_of_block HX.out)).trans HX.out
    have hq : SgQ seed d f L K k lb tb xb s1 (xb + 1) (s1 + 1) (xb + 2) (s1 + 1 + 1) w 0 V2 := by
      refine ⟨⟨(HLV.out.below HB1.out).below hb2, (hb2.block _ (lt_of_block hx1)).trans hx1, ?_, (hb2.block _ (lt_of_block hd1)).trans hd1⟩, ?_, (hb2.block _ (lt_of_block HR1.out)).trans HR1.out, ⟨none, 0, 0, none, 0, 0, ?_, fun h => by omega, fun h => by omega⟩, bnext (bnext HVB.out HB1.out) hb2⟩
      · rw [← hV2]; exact block_alloc (block_alloc (alloc_new_at _ hs1) _) _
      · rw [← hV2]; exact alloc_new_at _ (by simp; omega)
      · rw [← hV2]; exact block_alloc (alloc_new_at _ (by simp; omega)) _
    have HQ := Lib.hid hq
    have HS1 : Hid (w.heap.size ≤ s1) := Lib.hid (by rw [← hs1]; exact (bnext HVB.out HB1.out).size)
    have HX3 : Hid (xb + 2 < s1) := Lib.hid (by rw [← hs1]; exact lt_of_block HR1.out)
    rw [hV2]
    clear hV2 hb2 hs9 hd1 hx1 hq hs1
    refine (sgfirst_any seed d f L K k lb tb xb s1 (xb + 1) (s1 + 1) (xb + 2) (s1 + 1 + 1) w V2 HQ.out (by have := HS1.out; omega) (by have := HX3.out; omega) (keyO_some HK9.out).2.2 HK.out HSD.out).mono ?_
    rintro e w2 ⟨x, rfl, hx, hb, hz, hq⟩
    have HX9 := Lib.hid hx
    have HB2 := Lib.hid hb
    have hlo : w.heap.size ≤ xb + 2 := by have := HXB.out; omega
    have HLO := Lib.hid hlo
    have HR2 := Lib.hid hz
    have z0 := fun o => block_cell HR2.out o
    have z1 : ∀ o, w2.frozen? ⟨xb + 2, o, none⟩ = false := block_free HR2.out
    have z2 : xb + 2 < w2.heap.size := lt_of_block HR2.out
    by_cases h0 : x = 0
    · obtain ⟨a1, m1, p1, a2, m2, p2, h1, h2, h3⟩ := (hq h0).s
      have HV := Lib.hid (h2 (by decide))
      have HP := Lib.hid (h3 (by decide))
      have HS := Lib.hid (signD_ok HK9.out (h2 (by decide)).2 (seed := seed))
      have cs := fun o => block_cell h1 o
      subst h0
      clear hx hb hz hq h1 h2 h3 hlo
      go_wp2
      have hk9 := block_setCell (block_setCell (block_setCell HR2.out (o := 0) (.int .u64 (k : Nat))) (o := 1) (.slice a1 m1 p1)) (o := 2) (.slice a2 m2 p2)
      have e0 := block_cell hk9 0
      have e1 := block_cell hk9 1
      have e2 := block_cell hk9 2
      have hlt : xb + 2 < s1 + 1 + 1 := by have := HX3.out; omega
      refine bodyPost_ret (v := .tuple #[.agg #[.int .u64 (k : Nat), .slice a1 m1 p1, .slice a2 m2 p2], .int .i64 0]) ?_ rfl ⟨.slice a1 m1 p1, .slice a2 m2 p2, by rw [HS.out.1, HS.out.2], by rw [HS.out.1]; exact (((HV.out.1.setL hlt _).setL hlt _).setL hlt _).are, by rw [HS.out.1]; exact (((HP.out.setL hlt _).setL hlt _).setL hlt _).are, bset (bset (bset HB2.out HLO.out _) HLO.out _) HLO.out _⟩
      simp [results, Tryz.results31, go_sem, e0, e1, e2]
    · have HS : Hid (signD seed f L K r d = ⟨0, [], []⟩ ∧ signE f L K r d = x) := Lib.hid (by
        unfold sgE at hx
        by_cases h32 : d.size = 32
        · rw [if_pos h32] at hx; exact absurd hx h0
        · rw [if_neg h32] at hx
          rw [hx]
          exact signD_bad HK9.out h32)
      clear hx hb hz hq hlo
      go_wp2
      have hk9 := block_setCell (block_setCell (block_setCell HR2.out (o := 0) (.int .u64 0)) (o := 1) (.slice none 0 0)) (o := 2) (.slice none 0 0)
      have e0 := block_cell hk9 0
      have e1 := block_cell hk9 1
      have e2 := block_cell hk9 2
      refine bodyPost_ret (v := .tuple #[.agg #[.int .u64 0, .slice none 0 0, .slice none 0 0], .int .i64 x]) ?_ rfl ⟨.slice none 0 0, .slice none 0 0, by rw [HS.out.1, HS.out.2], by rw [HS.out.1]; exact TextsAre.nil _, by rw [HS.out.1]; exact TextsAre.nil _, bset (bset (bset HB2.out HLO.out _) HLO.out _) HLO.out _⟩
      simp [results, Tryz.results31, go_sem, e0, e1, e2]
end Go.Proofs.YtoafjbillcooiaaGreat
namespace Go.Proofs.YtoafjbillcooiaaGreat
open Go.RowKit
set_option linter.unusedSimpArgs false
set_option linter.unusedVariables false
structure VrB (root d : ByteArray) (wt f L K r : Nat) (ix : Int) (ws ps : List ByteArray) (wa pa : Option Addr) (wc pc b0 : Nat) (w : World) : Prop where
  p : w.heap[b0]? = some (.cells #[.string root, .int .u64 (wt : Nat), .int .u64 (f : Nat), .int .u64 (L : Nat), .int .u64 (K : Nat)] 62 (0, 0))
  r : w.heap[b0 + 1]? = some (.cells #[.int .u64 (r : Nat)] 37 (0, 0))
  d : w.heap[b0 + 2]? = some (.cells #[.string d] 9 (0, 0))
  s : w.heap[b0 + 3]? = some (.cells #[.int .u64 ix, .slice wa (len ws) wc, .slice pa (len ps) pc] 54 (0, 0))
  tw : Txts w wa ws
  tp : Txts w pa ps
theorem VrB.below {root d : ByteArray} {wt f L K r : Nat} {ix : Int} {ws ps : List ByteArray} {wa pa : Option Addr} {wc pc b0 : Nat} {w w' : World} (h : VrB root d wt f L K r ix ws ps wa pa wc pc b0 w) (hb : Below w.heap.size w w') : VrB root d wt f L K r ix ws ps wa pa wc pc b0 w' :=
  ⟨(hb.block _ (lt_of_block h.p)).trans h.p, (hb.block _ (lt_of_block h.r)).trans h.r, (hb.block _ (lt_of_block h.d)).trans h.d, (hb.block _ (lt_of_block h.s)).trans h.s, h.tw.below hb, h.tp.below hb⟩
def mayV (d root : ByteArray) (L K : Nat) : Bool := all32 [d, root] && decide (0 < L) && decide (0 < K) && decide (K ≤ 64)
theorem txts2 {w : World} {b : Nat} {x y : ByteArray} {T : TypeId} {fr : Nat × Nat} (h : w.heap[b]? = some (.cells #[.string x, .string y] T fr)) : Txts w (some ⟨b, 0, none⟩) [x, y] := fun i hi => ⟨b, 0, rfl, by
  have hi : i < 2 := hi
  match i, hi with
  | 0, _ => exact block_cell h 0
  | 1, _ => exact block_cell h 1⟩
set_option maxRecDepth 100000 in
set_option maxHeartbeats 4000000 in
theorem ver1_any (root d : ByteArray) (wt f L K r : Nat) (ix : Int) (ws ps : List ByteArray) (wa pa : Option Addr) (wc pc b0 : Nat) (w : World) (h : VrB root d wt f L K r ix ws ps wa pa wc pc b0 w) : Calls Tryz.prog 68 #[.pointer (some ⟨b0 + 2, 0, none⟩), .pointer (some ⟨b0, 0, none⟩)] w fun e w' => e = .returned (.int .i64 (if mayV d root L K = true then 0 else 2)) ∧ Below w.heap.size w w' := by
  have H := Lib.hid h
  have c0 : w.cell? ⟨b0 + 2, 0, none⟩ = some (.string d) := block_cell h.d 0
  have c1 : w.cell? ⟨b0, 0, none⟩ = some (.string root) := block_cell h.p 0
  clear h
  obtain ⟨R, hR⟩ : ∃ R : Int, (if mayV d root L K = true then 0 else 2) = R := ⟨_, rfl⟩
  have HM : Hid (R = if (all32 [d, root] && decide (0 < L) && decide (0 < K) && decide (K ≤ 64)) = true then 0 else 2) := Lib.hid hR.symm
  rw [hR]
  clear hR
  go_enter Tryz.func68, Tryz.ntmps68
  go_wp2_with fail
  refine (digests_any [d, root] (some ⟨w.heap.size, 0, none⟩) 2 _ (txts2 (heap_alloc_new _ _)) (show 2 ≤ 1000000 by decide)).mono ?_
  rintro e w1 ⟨rfl, hb⟩
  have HB : Hid (Below w.heap.size w w1) := Lib.hid (bnext (balloc (Below.refl _ _) _) hb)
  have H1 := H.out.below HB.out
  have c3 : w1.cell? ⟨b0, 3, none⟩ = some (.int .u64 (L : Nat)) := block_cell H1.p 3
  have c4 : w1.cell? ⟨b0, 4, none⟩ = some (.int .u64 (K : Nat)) := block_cell H1.p 4
  clear hb c0 c1 H1
  obtain ⟨x1, e1⟩ : ∃ b, all32 [d, root] = b := ⟨_, rfl⟩
  rw [e1] at HM
  rw [e1]
  clear e1
  have fin : ∀ y : Bool, Hid (R = if y = true then 0 else 2) → Calls Tryz.prog 69 #[.bool y, .int .i64 2] w1 fun e w' => e = .returned (.int .i64 R) ∧ Below w.heap.size w w' := fun y hy => by
    refine (unless_any y 2 w1).mono ?_
    rintro e w2 ⟨rfl, hb⟩
    rw [hy.out]
    exact ⟨rfl, bnext HB.out hb⟩
  have FIN := Lib.hid fin
  clear fin
  cases x1 with
  | false =>
    go_wp2_with fail
    refine (FIN.out false (Lib.hid (by rw [HM.out]; rfl))).mono ?_
    rintro e w2 ⟨rfl, hb⟩
    have HB2 := Lib.hid hb
    clear hb c3 c4
    go_wp2
    go_ret
    exact ⟨rfl, HB2.out⟩
  | true =>
    obtain ⟨y, hy⟩ : ∃ y, (decide (0 < L) && decide (0 < K) && decide (K ≤ 64)) = y := ⟨_, rfl⟩
    have HM2 : Hid (R = if y = true then 0 else 2) := Lib.hid (by rw [HM.out, ← hy]; rfl)
    by_cases h2 : 0 < L
    · have i2 : (0 : Int) < (L : Int) := by omega
      by_cases h3 : 0 < K
      · have i3 : (1 : Int) ≤ (K : Int) := by omega
        by_cases h4 : K ≤ 64
        · have i4 : (K : Int) ≤ 64 := by omega
          have hy2 : y = true := by rw [← hy, decide_eq_true h2, decide_eq_true h3, decide_eq_true h4]; rfl
          subst hy2
          clear hy
          go_wp2_with fail
          refine (FIN.out true HM2).mono ?_
          rintro e w2 ⟨rfl, hb⟩
          have HB2 := Lib.hid hb
          clear hb c3 c4
          go_wp2
          go_ret
          exact ⟨rfl, HB2.out⟩
        · have i4 : ¬ (K : Int) ≤ 64 := by omega
          have hy2 : y = false := by rw [← hy, decide_eq_false h4, Bool.and_false]
          subst hy2
          clear hy
          go_wp2_with fail
          rw [decide_eq_false (show ¬ (K : Int) ≤ 64 by omega)]
          refine (FIN.out false HM2).mono ?_
          rintro e w2 ⟨rfl, hb⟩
          have HB2 := Lib.hid hb
          clear hb c3 c4
          go_wp2
          go_ret
          exact ⟨rfl, HB2.out⟩
      · obtain rfl : K = 0 := by omega
        have hy2 : y = false := by rw [← hy]; simp
        subst hy2
        clear hy
        go_wp2_with fail
        refine (FIN.out false HM2).mono ?_
        rintro e w2 ⟨rfl, hb⟩
        have HB2 := Lib.hid hb
        clear hb c3 c4
        go_wp2
        go_ret
        exact ⟨rfl, HB2.out⟩
    · obtain rfl : L = 0 := by omega
      have hy2 : y = false := by rw [← hy]; simp
      subst hy2
      clear hy
      go_wp2_with fail
      refine (FIN.out false HM2).mono ?_
      rintro e w2 ⟨rfl, hb⟩
      have HB2 := Lib.hid hb
      clear hb c3 c4
      go_wp2
      go_ret
      exact ⟨rfl, HB2.out⟩
set_option maxRecDepth 100000 in
set_option maxHeartbeats 4000000 in
theorem ver2_any (root d : ByteArray) (wt f L K r : Nat) (ix : Int) (ws ps : List ByteArray) (wa pa : Option Addr) (wc pc b0 : Nat) (x : Int) (w : World) (h : VrB root d wt f L K r ix ws ps wa pa wc pc b0 w) (hk : w.heap[b0 + 4]? = some (.cells #[.int .u64 x] 37 (0, 0))) (hf : f < 18446744073709551616) (hr : r < 18446744073709551616) (hL : 0 < L) : Calls Tryz.prog 71 #[.pointer (some ⟨b0, 0, none⟩), .pointer (some ⟨b0 + 1, 0, none⟩), .pointer (some ⟨b0 + 4, 0, none⟩)] w fun e w' => e = .returned (.int .i64 (if (keyO f L K r).isSome = true then 0 else 16)) ∧ w'.heap[b0 + 4]? = some (.cells #[.int .u64 (((keyO f L K r).getD 0 : Nat) : Int)] 37 (0, 0)) ∧ ExtB (some (b0 + 4)) w w' := by
  have HKY := Lib.hid (fun wv => lkey_any f L K r wv hf hr hL)
  have HK := Lib.hid hk
  have c2 : w.cell? ⟨b0, 2, none⟩ = some (.int .u64 (f : Nat)) := block_cell h.p 2
  have c3 : w.cell? ⟨b0, 3, none⟩ = some (.int .u64 (L : Nat)) := block_cell h.p 3
  have c4 : w.cell? ⟨b0, 4, none⟩ = some (.int .u64 (K : Nat)) := block_cell h.p 4
  have cr : w.cell? ⟨b0 + 1, 0, none⟩ = some (.int .u64 (r : Nat)) := block_cell h.r 0
  clear h hk hf hr hL
  unfold keyV at HKY
  obtain ⟨q, hq⟩ : ∃ q : Int, (((keyO f L K r).getD 0 : Nat) : Int) = q := ⟨_, rfl⟩
  obtain ⟨z, hz⟩ : ∃ z, (keyO f L K r).isSome = z := ⟨_, rfl⟩
  rw [hq, hz] at HKY ⊢
  have HUN := Lib.hid (fun wv => unless_any z 16 wv)
  obtain ⟨R, hR⟩ : ∃ R : Int, (if z = true then 0 else 16) = R := ⟨_, rfl⟩
  rw [hR] at HUN ⊢
  clear hq hz hR
  go_enter Tryz.func71, Tryz.ntmps71
  go_wp2_with fail
  refine (HKY.out _).mono ?_
  rintro e w1 ⟨rfl, hb⟩
  have HB1 := Lib.hid hb
  have HK1 := Lib.hid ((hb.block _ (lt_of_block HK.out)).trans HK.out)
  clear hb c2 c3 c4 cr
  have z0 := fun o => block_cell HK1.out o
  have z1 : ∀ o, w1.frozen? ⟨b0 + 4, o, none⟩ = false := block_free HK1.out
  have z2 : b0 + 4 < w1.heap.size := lt_of_block HK1.out
  go_wp2_with fail
  clear z0 z1 z2
  refine (HUN.out _).mono ?_
  rintro e w2 ⟨rfl, hb⟩
  have HB2 := Lib.hid hb
  have HK2 := Lib.hid ((hb.block _ (lt_of_block (block_setCell HK1.out (o := 0) (.int .u64 q)))).trans (block_setCell HK1.out (o := 0) (.int .u64 q)))
  clear hb
  go_wp2
  go_ret
  refine ⟨rfl, HK2.out, ?_⟩
  exact ExtB_trans _ _ _ _ (ext_extB HB1.out) (ExtB_trans _ _ _ _ (grownBy_setO _ _ _ _) (ext_extB HB2.out))
set_option maxRecDepth 100000 in
set_option maxHeartbeats 4000000 in
theorem ver3_any (root d : ByteArray) (wt f L K r : Nat) (ix : Int) (ws ps : List ByteArray) (wa pa : Option Addr) (wc pc b0 : Nat) (x : Int) (u : ByteArray) (w : World) (h : VrB root d wt f L K r ix ws ps wa pa wc pc b0 w) (hk : w.heap[b0 + 4]? = some (.cells #[.int .u64 x] 37 (0, 0))) (hu : w.heap[b0 + 5]? = some (.cells #[.string u] 9 (0, 0))) (hn : len ws ≤ 1000000) : Calls Tryz.prog 73 #[.pointer (some ⟨b0 + 3, 0, none⟩), .pointer (some ⟨b0 + 2, 0, none⟩), .pointer (some ⟨b0 + 5, 0, none⟩), .pointer (some ⟨b0 + 4, 0, none⟩)] w fun e w' => e = .returned (.int .i64 (if ix = x ∧ recE ws d = 0 then 0 else 10)) ∧ w'.heap[b0 + 5]? = some (.cells #[.string (recS ws d)] 9 (0, 0)) ∧ ExtB (some (b0 + 5)) w w' := by
  have HRC := Lib.hid (fun wv (hx : Txts wv wa ws) => recover_any ws wa wc d wv hx hn)
  have H := Lib.hid h
  have HK := Lib.hid hk
  have HU := Lib.hid hu
  have c1 : w.cell? ⟨b0 + 3, 1, none⟩ = some (.slice wa (len ws) wc) := block_cell h.s 1
  have cd : w.cell? ⟨b0 + 2, 0, none⟩ = some (.string d) := block_cell h.d 0
  clear h hk hu hn
  obtain ⟨S, hS⟩ : ∃ S, recS ws d = S := ⟨_, rfl⟩
  obtain ⟨E, hE⟩ : ∃ E, recE ws d = E := ⟨_, rfl⟩
  rw [hS, hE] at HRC ⊢
  clear hS hE
  have HUN := Lib.hid (fun z wv => unless_any z 10 wv)
  obtain ⟨R, hR⟩ : ∃ R : Int, (if ix = x ∧ E = 0 then 0 else 10) = R := ⟨_, rfl⟩
  have HR := Lib.hid hR
  rw [hR]
  clear hR
  go_enter Tryz.func73, Tryz.ntmps73
  go_wp2_with fail
  refine (HRC.out _ H.out.tw).mono ?_
  rintro e w1 ⟨rfl, hb⟩
  have HB1 := Lib.hid hb
  have HU1 := Lib.hid ((hb.block _ (lt_of_block HU.out)).trans HU.out)
  have H1 := H.out.below hb
  have z0 := fun o => block_cell HU1.out o
  have z1 : ∀ o, w1.frozen? ⟨b0 + 5, o, none⟩ = false := block_free HU1.out
  have z2 : b0 + 5 < w1.heap.size := lt_of_block HU1.out
  have ci : w1.cell? ⟨b0 + 3, 0, none⟩ = some (.int .u64 ix) := block_cell H1.s 0
  have ck : w1.cell? ⟨b0 + 4, 0, none⟩ = some (.int .u64 x) := block_cell ((hb.block _ (lt_of_block HK.out)).trans HK.out) 0
  clear hb c1 cd H1
  obtain ⟨y, hy⟩ : ∃ y : Bool, decide (ix = x ∧ E = 0) = y := ⟨_, rfl⟩
  have HY : Hid ((if y = true then (0 : Int) else 10) = R) := Lib.hid (by
    rw [← HR.out, ← hy]
    by_cases h9 : ix = x ∧ E = 0
    · rw [if_pos h9, decide_eq_true h9]; rfl
    · rw [if_neg h9, decide_eq_false h9]; rfl)
  have FIN : Hid (∀ wv, Calls Tryz.prog 69 #[.bool y, .int .i64 10] wv fun e w' => e = .returned (.int .i64 R) ∧ Below wv.heap.size wv w') := Lib.hid (fun wv => by
    have h9 := HUN.out y wv
    rw [HY.out] at h9
    exact h9)
  have HST := Lib.hid (block_setCell HU1.out (o := 0) (.string S))
  have HSE : Hid (ExtB (some (b0 + 5)) w (w1.setCell ⟨b0 + 5, 0, none⟩ (.string S))) := Lib.hid (ExtB_trans _ _ _ _ (ext_extB HB1.out) (grownBy_setO _ _ _ _))
  by_cases hix : ix = x
  · by_cases hE0 : E = 0
    · have hy2 : y = true := by rw [← hy, decide_eq_true ⟨hix, hE0⟩]
      subst hy2 hix hE0
      clear hy
      go_wp2_with fail
      refine (FIN.out _).mono ?_
      rintro e w2 ⟨rfl, hb⟩
      have HB2 := Lib.hid hb
      clear hb z0 z1 z2 ci ck
      go_wp2
      go_ret
      exact ⟨rfl, (HB2.out.block _ (lt_of_block HST.out)).trans HST.out, ExtB_trans _ _ _ _ HSE.out (ext_extB HB2.out)⟩
    · have hy2 : y = false := by rw [← hy, decide_eq_false (fun h9 => hE0 h9.2)]
      have e0 : (E == 0) = false := by simpa using hE0
      subst hy2 hix
      clear hy
      go_wp2_with fail
      refine (FIN.out _).mono ?_
      rintro e w2 ⟨rfl, hb⟩
      have HB2 := Lib.hid hb
      clear hb z0 z1 z2 ci ck
      go_wp2
      go_ret
      exact ⟨rfl, (HB2.out.block _ (lt_of_block HST.out)).trans HST.out, ExtB_trans _ _ _ _ HSE.out (ext_extB HB2.out)⟩
  · have hy2 : y = false := by rw [← hy, decide_eq_false (fun h9 => hix h9.1)]
    have e0 : (ix == x) = false := by simpa using hix
    subst hy2
    clear hy
    go_wp2_with fail
    refine (FIN.out _).mono ?_
    rintro e w2 ⟨rfl, hb⟩
    have HB2 := Lib.hid hb
    clear hb z0 z1 z2 ci ck
    go_wp2
    go_ret
    exact ⟨rfl, (HB2.out.block _ (lt_of_block HST.out)).trans HST.out, ExtB_trans _ _ _ _ HSE.out (ext_extB HB2.out)⟩
end Go.Proofs.YtoafjbillcooiaaGreat
namespace Go.Proofs.YtoafjbillcooiaaGreat
open Go.RowKit
set_option linter.unusedSimpArgs false
set_option linter.unusedVariables false
set_option maxRecDepth 100000 in
set_option maxHeartbeats 4000000 in
theorem ver4_any (root d : ByteArray) (wt f L K r : Nat) (ix : Int) (ws ps : List ByteArray) (wa pa : Option Addr) (wc pc b0 k : Nat) (pv : ByteArray) (w : World) (h : VrB root d wt f L K r ix ws ps wa pa wc pc b0 w) (hk : w.heap[b0 + 4]? = some (.cells #[.int .u64 (k : Nat)] 37 (0, 0))) (hu : w.heap[b0 + 5]? = some (.cells #[.string pv] 9 (0, 0))) (hlt : k < K) (hK : K ≤ 64) (hus : pv.size ≤ 1000) (hn : len ps ≤ 1000000) (hpc : len ps ≤ pc) :
    Calls Tryz.prog 75 #[.pointer (some ⟨b0, 0, none⟩), .pointer (some ⟨b0 + 4, 0, none⟩), .pointer (some ⟨b0 + 5, 0, none⟩), .pointer (some ⟨b0 + 3, 0, none⟩)] w fun e w' => e = .returned (.int .i64 (if checkE root (K : Nat) [((k : Nat) : Int)] [num8S k ++ pv] ps = 0 then 0 else 10)) ∧ Below w.heap.size w w' := by
  have H := Lib.hid h
  have HRG := Lib.hid (fun wv => rung_any k pv wv (by omega) hus)
  have hys : (num8S k ++ pv).size ≤ 1008 := by rw [ByteArray.size_append, num8S_size]; omega
  obtain ⟨y, hy⟩ : ∃ y, num8S k ++ pv = y := ⟨_, rfl⟩
  rw [hy] at HRG hys ⊢
  obtain ⟨S, hS⟩ : ∃ S, rootS (K : Nat) [((k : Nat) : Int)] [y] ps = S := ⟨_, rfl⟩
  obtain ⟨E, hE⟩ : ∃ E, rootE (K : Nat) [((k : Nat) : Int)] [y] ps = E := ⟨_, rfl⟩
  obtain ⟨m, hm⟩ : ∃ m, len ps = m := ⟨_, rfl⟩
  have HRT : Hid (∀ (wv : World) (b1 b2 : Nat), Below w.heap.size w wv → wv.heap[b1]? = some (.cells #[.int .u64 (k : Nat)] 37 (0, 0)) → wv.heap[b2]? = some (.cells #[.string y] 9 (0, 0)) → Calls Tryz.prog 76 #[.int .i64 (K : Nat), .slice (some ⟨b1, 0, none⟩) 1 1, .slice (some ⟨b2, 0, none⟩) 1 1, .slice pa m pc] wv fun e w' => e = .returned (.tuple #[.string S, .int .i64 E]) ∧ Below wv.heap.size wv w') := Lib.hid (fun wv b1 b2 hb h1 h2 => by
    have h9 := proot_any (K : Nat) [((k : Nat) : Int)] [y] ps (some ⟨b1, 0, none⟩) (some ⟨b2, 0, none⟩) pa 1 1 pc wv
      ⟨fun i hi => ⟨b1, 0, rfl, by
        have hi : i < 1 := hi
        obtain rfl : i = 0 := by omega
        exact block_cell h1 0⟩, txts1 h2, h.tp.below hb, (show 1 ≤ 12 by decide), fun x hx => by
        have hx : x = ((k : Nat) : Int) := by simpa using hx
        subst hx
        unfold U64
        omega, (show 1 ≤ 1000000 by decide), hn, hpc, fun i hi => by
        have hi : i < 1 := hi
        obtain rfl : i = 0 := by omega
        show y.size ≤ 1000000
        omega⟩ (by omega) (by omega)
    rw [hm] at h9
    refine h9.mono ?_
    rintro e w' ⟨rfl, hb2⟩
    exact ⟨by rw [hS, hE], hb2⟩)
  have HCE : Hid (checkE root (K : Nat) [((k : Nat) : Int)] [y] ps = if E = 0 ∧ S ≠ root then 20 else E) := Lib.hid (by unfold checkE; rw [hE, hS])
  have c0 : w.cell? ⟨b0, 4, none⟩ = some (.int .u64 (K : Nat)) := block_cell h.p 4
  have c1 : w.cell? ⟨b0 + 4, 0, none⟩ = some (.int .u64 (k : Nat)) := block_cell hk 0
  have c2 : w.cell? ⟨b0 + 5, 0, none⟩ = some (.string pv) := block_cell hu 0
  have c3 : w.cell? ⟨b0 + 3, 2, none⟩ = some (.slice pa m pc) := by rw [block_cell h.s 2, hm]; rfl
  have k1 : IntKind.i64.wrap ((K : Nat) : Int) = (K : Int) := IntWalk.i64_in _ (by omega)
  obtain ⟨C, hC⟩ : ∃ C, checkE root (K : Nat) [((k : Nat) : Int)] [y] ps = C := ⟨_, rfl⟩
  rw [hC] at HCE ⊢
  obtain ⟨z, hz⟩ : ∃ z : Bool, decide (C = 0) = z := ⟨_, rfl⟩
  obtain ⟨R, hR⟩ : ∃ R : Int, (if C = 0 then (0 : Int) else 10) = R := ⟨_, rfl⟩
  rw [hR]
  have FIN : Hid (∀ wv, Calls Tryz.prog 69 #[.bool z, .int .i64 10] wv fun e w' => e = .returned (.int .i64 R) ∧ Below wv.heap.size wv w') := Lib.hid (fun wv => by
    have h9 := unless_any z 10 wv
    have e9 : (if z = true then (0 : Int) else 10) = R := by
      rw [← hR, ← hz]
      by_cases h0 : C = 0
      · rw [if_pos h0, decide_eq_true h0]; rfl
      · rw [if_neg h0, decide_eq_false h0]; rfl
    rw [e9] at h9
    exact h9)
  have HZ := Lib.hid hz
  clear h hk hu hlt hK hus hn hpc hys hy hS hE hm hC hR hz
  go_enter Tryz.func75, Tryz.ntmps75
  go_upto_region 1 with fail
  refine wp_region_all 1000 (none) (phis [fun u _ => u = (.pointer (some ⟨b0, 4, none⟩)), fun u _ => u = (.int .u64 (K : Nat)), fun u _ => u = (.int .i64 (K : Nat)), fun u _ => u = (.int .u64 (k : Nat)), fun u w' => ∃ b, u = .slice (some ⟨b, 0, none⟩) 1 1 ∧ w'.heap[b]? = some (.cells #[.int .u64 (k : Nat)] 37 (0, 0)), fun u _ => u = (.int .u64 (k : Nat)), fun u _ => u = (.string pv), fun u _ => u = (.string y), fun u w' => ∃ b, u = .slice (some ⟨b, 0, none⟩) 1 1 ∧ w'.heap[b]? = some (.cells #[.string y] 9 (0, 0)), fun u _ => u = (.pointer (some ⟨b0 + 3, 2, none⟩)), fun u _ => u = (.slice pa m pc), fun u _ => u = (.tuple #[.string S, .int .i64 E]), fun u _ => u = (.tuple #[.string S, .int .i64 E]), fun u _ => u = (.string S), fun u _ => u = (.int .i64 E), fun u _ => u = (.string S), fun u _ => u = (.int .i64 E)]) rfl (by kernel_rfl) (mono_of ⟨mono_eq, mono_eq, mono_eq, mono_eq, ?m4, mono_eq, mono_eq, mono_eq, ?m8, mono_eq, mono_eq, mono_eq, mono_eq, mono_eq, mono_eq, mono_eq, mono_eq, trivial⟩) (steps_of 17 ⟨?s0, ?s1, ?s2, ?s3, ?s4, ?s5, ?s6, ?s7, ?s8, ?s9, ?s10, ?s11, ?s12, ?s13, ?s14, ?s15, ?s16, trivial⟩) ?_
  case m4 =>
    exact ⟨fun u w1 w' h ⟨b, h1, hb⟩ => ⟨b, h1, ext_block h hb⟩, fun _ u w1 w' h ⟨b, h1, hb⟩ => ⟨b, h1, extB_block h (by simp) hb⟩⟩
  case m8 =>
    exact ⟨fun u w1 w' h ⟨b, h1, hb⟩ => ⟨b, h1, ext_block h hb⟩, fun _ u w1 w' h ⟨b, h1, hb⟩ => ⟨b, h1, extB_block h (by simp) hb⟩⟩
  case s0 =>
    refine qV (fun _ => rfl) rfl fun av wv hE hO hD => ?_
    simp [go_sem, qF av 0 (.pointer (some ⟨b0, 0, none⟩)) (hO.2.2 0 rfl), k1]
  case s1 =>
    refine qV (fun _ => rfl) rfl fun av wv hE hO hD => ?_
    simp [go_sem, qE (hD.1 rfl _ rfl), extB_cell hE (by simp) c0, extB_cell hE (by simp) c1, extB_cell hE (by simp) c2, extB_cell hE (by simp) c3, k1]
  case s2 =>
    refine qV (fun _ => rfl) rfl fun av wv hE hO hD => ?_
    simp [go_sem, qE (hD.1 rfl _ rfl), k1]
  case s3 =>
    refine qV (fun _ => rfl) rfl fun av wv hE hO hD => ?_
    simp [go_sem, qF av 1 (.pointer (some ⟨b0 + 4, 0, none⟩)) (hO.2.2 1 rfl), extB_cell hE (by simp) c0, extB_cell hE (by simp) c1, extB_cell hE (by simp) c2, extB_cell hE (by simp) c3, k1]
  case s4 =>
    refine step_wp (fun av wv hE hS hO hD => ⟨rfl, ?_⟩)
    have f11 := qE (hD.1 rfl _ rfl)
    exact wp_of_run (v := .slice (some ⟨wv.heap.size, 0, none⟩) 1 1) (w' := wv.alloc (.cells #[.int .u64 (k : Nat)] 37)) (by simp [go_sem, f11]) ⟨_, rfl, es_of_ext (balloc (Ext_refl _) _), wv.heap.size, rfl, heap_alloc_new _ _⟩
  case s5 =>
    refine qV (fun _ => rfl) rfl fun av wv hE hO hD => ?_
    simp [go_sem, qF av 1 (.pointer (some ⟨b0 + 4, 0, none⟩)) (hO.2.2 1 rfl), extB_cell hE (by simp) c0, extB_cell hE (by simp) c1, extB_cell hE (by simp) c2, extB_cell hE (by simp) c3, k1]
  case s6 =>
    refine qV (fun _ => rfl) rfl fun av wv hE hO hD => ?_
    simp [go_sem, qF av 2 (.pointer (some ⟨b0 + 5, 0, none⟩)) (hO.2.2 2 rfl), extB_cell hE (by simp) c0, extB_cell hE (by simp) c1, extB_cell hE (by simp) c2, extB_cell hE (by simp) c3, k1]
  case s7 =>
    refine step_wp (fun av wv hE hS hO hD => ⟨rfl, ?_⟩)
    have f13 := qE (hD.1 rfl _ rfl)
    have f14 := qE (hD.2.1 rfl _ rfl)
    refine wp_of_call (v := .string y) (by simp [go_sem, f13, f14]) (HRG.out wv) (fun w2 hb => ⟨_, rfl, es_of_ext hb, rfl⟩)
  case s8 =>
    refine step_wp (fun av wv hE hS hO hD => ⟨rfl, ?_⟩)
    have f15 := qE (hD.1 rfl _ rfl)
    exact wp_of_run (v := .slice (some ⟨wv.heap.size, 0, none⟩) 1 1) (w' := wv.alloc (.cells #[.string y] 9)) (by simp [go_sem, f15]) ⟨_, rfl, es_of_ext (balloc (Ext_refl _) _), wv.heap.size, rfl, heap_alloc_new _ _⟩
  case s9 =>
    refine qV (fun _ => rfl) rfl fun av wv hE hO hD => ?_
    simp [go_sem, qF av 3 (.pointer (some ⟨b0 + 3, 0, none⟩)) (hO.2.2 3 rfl), k1]
  case s10 =>
    refine qV (fun _ => rfl) rfl fun av wv hE hO hD => ?_
    simp [go_sem, qE (hD.1 rfl _ rfl), extB_cell hE (by simp) c0, extB_cell hE (by simp) c1, extB_cell hE (by simp) c2, extB_cell hE (by simp) c3, k1]
  case s11 =>
    refine step_wp (fun av wv hE hS hO hD => ⟨rfl, ?_⟩)
    have f10 := qE (hD.1 rfl _ rfl)
    have d12 : (fun u w' => ∃ b, u = .slice (some ⟨b, 0, none⟩) 1 1 ∧ w'.heap[b]? = some (.cells #[.int .u64 (k : Nat)] 37 (0, 0))) (av.eval (.tmp 12)) wv := hD.2.1 rfl _ rfl
    have d16 : (fun u w' => ∃ b, u = .slice (some ⟨b, 0, none⟩) 1 1 ∧ w'.heap[b]? = some (.cells #[.string y] 9 (0, 0))) (av.eval (.tmp 16)) wv := hD.2.2.1 rfl _ rfl
    have f18 := qE (hD.2.2.2.1 rfl _ rfl)
    obtain ⟨b1, g1, hc1⟩ := d12
    obtain ⟨b2, g2, hc2⟩ := d16
    have j1 := (ev_form av 12).symm.trans g1
    have j2 := (ev_form av 16).symm.trans g2
    refine wp_of_call (v := .tuple #[.string S, .int .i64 E]) (by simp [go_sem, f10, f18, j1, j2]) (HRT.out wv b1 b2 (of_drew hE) hc1 hc2) (fun w2 hb => ⟨_, rfl, es_of_ext hb, rfl⟩)
  case s12 =>
    refine qV (fun _ => rfl) rfl fun av wv hE hO hD => ?_
    simp [go_sem, qE (hD.1 rfl _ rfl), k1]
  case s13 =>
    refine qV (fun _ => rfl) rfl fun av wv hE hO hD => ?_
    simp [go_sem, qE (hD.1 rfl _ rfl), k1]
  case s14 =>
    refine qV (fun _ => rfl) rfl fun av wv hE hO hD => ?_
    simp [go_sem, qE (hD.1 rfl _ rfl), k1]
  case s15 =>
    refine qV (fun _ => rfl) rfl fun av wv hE hO hD => ?_
    simp [go_sem, qE (hD.1 rfl _ rfl), k1]
  case s16 =>
    refine qV (fun _ => rfl) rfl fun av wv hE hO hD => ?_
    simp [go_sem, qE (hD.1 rfl _ rfl), k1]
  intro a' w' hE hO hall
  have hA := act_of_outer (ds := [8, 9, 10, 11, 12, 13, 14, 15, 16, 17, 18, 19, 7, 20, 21, 5, 6]) rfl hO (by kernel_rfl)
  obtain ⟨j0, j1, j2, j3, j4, j5, j6, j7, j8, j9, j10, j11, j12, j13, j14, j15, j16, -⟩ := hall
  have e12 : (fun u w' => ∃ b, u = .slice (some ⟨b, 0, none⟩) 1 1 ∧ w'.heap[b]? = some (.cells #[.int .u64 (k : Nat)] 37 (0, 0))) (a'.eval (.tmp 12)) w' := j4 _ rfl
  have e16 : (fun u w' => ∃ b, u = .slice (some ⟨b, 0, none⟩) 1 1 ∧ w'.heap[b]? = some (.cells #[.string y] 9 (0, 0))) (a'.eval (.tmp 16)) w' := j8 _ rfl
  obtain ⟨v12, hv12⟩ : ∃ v, a'.eval (.tmp 12) = v := ⟨_, rfl⟩
  rw [hv12] at e12
  obtain ⟨v16, hv16⟩ : ∃ v, a'.eval (.tmp 16) = v := ⟨_, rfl⟩
  rw [hv16] at e16
  simp only [List.foldl_cons, List.foldl_nil, Act.put, List.setIfInBounds_toArray, List.set_cons_succ, List.set_cons_zero, qJ 8 (j0 _ rfl), qJ 9 (j1 _ rfl), qJ 10 (j2 _ rfl), qJ 11 (j3 _ rfl), hv12, qJ 13 (j5 _ rfl), qJ 14 (j6 _ rfl), qJ 15 (j7 _ rfl), hv16, qJ 17 (j9 _ rfl), qJ 18 (j10 _ rfl), qJ 19 (j11 _ rfl), qJ 7 (j12 _ rfl), qJ 20 (j13 _ rfl), qJ 21 (j14 _ rfl), qJ 5 (j15 _ rfl), qJ 6 (j16 _ rfl)] at hA
  clear hO j4 j8 j0 j1 j2 j3 hv12 j5 j6 j7 hv16 j9 j10 j11 j12 j13 j14 j15 j16
  subst hA
  have HB := Lib.hid (of_drew hE)
  have H1 := H.out.below HB.out
  have cr : w'.cell? ⟨b0, 0, none⟩ = some (.string root) := block_cell H1.p 0
  clear hE c0 c1 c2 c3 k1 H1
  have hce := HCE.out
  by_cases hE0 : E = 0
  · by_cases hSr : S = root
    · have hz2 : z = true := by rw [← HZ.out, hce, if_neg (fun h9 => h9.2 hSr)]; exact decide_eq_true hE0
      have e1 : (S.toList == root.toList) = true := by rw [str_beq]; exact decide_eq_true hSr
      subst hz2 hE0
      clear hce hSr
      go_wp2_with fail
      refine (FIN.out _).mono ?_
      rintro e w2 ⟨rfl, hb⟩
      have HB2 := Lib.hid (bnext HB.out hb)
      clear hb cr
      go_wp2
      go_ret
      exact ⟨rfl, HB2.out⟩
    · have hz2 : z = false := by rw [← HZ.out, hce, if_pos ⟨hE0, hSr⟩]; rfl
      have e1 : (S.toList == root.toList) = false := by rw [str_beq]; exact decide_eq_false hSr
      subst hz2 hE0
      clear hce hSr
      go_wp2_with fail
      refine (FIN.out _).mono ?_
      rintro e w2 ⟨rfl, hb⟩
      have HB2 := Lib.hid (bnext HB.out hb)
      clear hb cr
      go_wp2
      go_ret
      exact ⟨rfl, HB2.out⟩
  · have hz2 : z = false := by rw [← HZ.out, hce, if_neg (fun h9 => hE0 h9.1)]; exact decide_eq_false hE0
    have e1 : (E == 0) = false := by simpa using hE0
    subst hz2
    clear hce
    go_wp2_with fail
    refine (FIN.out _).mono ?_
    rintro e w2 ⟨rfl, hb⟩
    have HB2 := Lib.hid (bnext HB.out hb)
    clear hb cr
    go_wp2
    go_ret
    exact ⟨rfl, HB2.out⟩
end Go.Proofs.YtoafjbillcooiaaGreat
namespace Go.Proofs.YtoafjbillcooiaaGreat
open Go.RowKit
set_option linter.unusedSimpArgs false
set_option linter.unusedVariables false
theorem mayV_iff {d root : ByteArray} {L K : Nat} : mayV d root L K = true ↔ d.size = 32 ∧ root.size = 32 ∧ 0 < L ∧ 1 ≤ K ∧ K ≤ 64 := by
  unfold mayV all32
  simp
  omega
theorem recE_zero {ws : List ByteArray} {d : ByteArray} (h : recE ws d = 0) : d.size = 32 ∧ wotsB ws = true := by
  unfold recE at h
  split at h
  · next h1 =>
    split at h
    · next h2 => exact ⟨h1, h2⟩
    · cases h
  · cases h
theorem recE_some {ws : List ByteArray} {d : ByteArray} (h1 : d.size = 32) (h2 : wotsB ws = true) : recE ws d = 0 := by
  unfold recE
  rw [if_pos h1, if_pos h2]
theorem verE_may {root d : ByteArray} {f L K r : Nat} {s : SigD} (h : mayV d root L K = false) : verE root f L K r d s = 2 := by
  unfold verE
  rw [if_neg (fun h9 => by rw [mayV_iff.2 h9] at h; cases h)]
theorem verE_none {root d : ByteArray} {f L K r : Nat} {s : SigD} (h : mayV d root L K = true) (hk : keyO f L K r = none) : verE root f L K r d s = 16 := by
  unfold verE
  rw [if_pos (mayV_iff.1 h), hk]
theorem verE_key {root d : ByteArray} {f L K r k : Nat} {ix : Int} {ws ps : List ByteArray} (h : mayV d root L K = true) (hk : keyO f L K r = some k) : verE root f L K r d ⟨ix, ws, ps⟩ = if ix = (k : Nat) ∧ recE ws d = 0 then (if checkE root (K : Nat) [((k : Nat) : Int)] [num8S k ++ recovP ws d] ps = 0 then 0 else 10) else 10 := by
  unfold verE
  rw [if_pos (mayV_iff.1 h), hk]
  show (if ix = (k : Nat) ∧ wotsB ws = true then _ else (10 : Int)) = _
  by_cases h9 : ix = (k : Nat) ∧ wotsB ws = true
  · rw [if_pos h9, if_pos (show ix = (k : Nat) ∧ recE ws d = 0 from ⟨h9.1, recE_some (mayV_iff.1 h).1 h9.2⟩)]
    rfl
  · rw [if_neg h9, if_neg (show ¬ (ix = (k : Nat) ∧ recE ws d = 0) from fun h8 => h9 ⟨h8.1, (recE_zero h8.2).2⟩)]
theorem recS_ok {ws : List ByteArray} {d : ByteArray} (h : recE ws d = 0) : recS ws d = recovP ws d := by
  unfold recS
  rw [if_pos (recE_zero h)]
def vrF (j : Nat) : FuncId := if j = 0 then 68 else if j = 1 then 71 else if j = 2 then 73 else 75
def vrC (b0 j : Nat) : Array Value := if j = 0 then #[.pointer (some ⟨b0 + 2, 0, none⟩), .pointer (some ⟨b0, 0, none⟩)] else if j = 1 then #[.pointer (some ⟨b0, 0, none⟩), .pointer (some ⟨b0 + 1, 0, none⟩), .pointer (some ⟨b0 + 4, 0, none⟩)] else if j = 2 then #[.pointer (some ⟨b0 + 3, 0, none⟩), .pointer (some ⟨b0 + 2, 0, none⟩), .pointer (some ⟨b0 + 5, 0, none⟩), .pointer (some ⟨b0 + 4, 0, none⟩)] else #[.pointer (some ⟨b0, 0, none⟩), .pointer (some ⟨b0 + 4, 0, none⟩), .pointer (some ⟨b0 + 5, 0, none⟩), .pointer (some ⟨b0 + 3, 0, none⟩)]
structure VrQ (root d : ByteArray) (wt f L K r : Nat) (ix : Int) (ws ps : List ByteArray) (wa pa : Option Addr) (wc pc b0 : Nat) (w0 : World) (j : Nat) (w : World) : Prop where
  b : VrB root d wt f L K r ix ws ps wa pa wc pc b0 w
  fr : w.heap[b0 + 6]? = some (.cells #[.func (.func (vrF 0)) #[] (vrC b0 0), .func (.func (vrF 1)) #[] (vrC b0 1), .func (.func (vrF 2)) #[] (vrC b0 2), .func (.func (vrF 3)) #[] (vrC b0 3)] 120 (0, 0))
  kx : ∃ x : Int, w.heap[b0 + 4]? = some (.cells #[.int .u64 x] 37 (0, 0)) ∧ (2 ≤ j → ∃ k : Nat, keyO f L K r = some k ∧ x = (k : Nat))
  ux : ∃ u : ByteArray, w.heap[b0 + 5]? = some (.cells #[.string u] 9 (0, 0)) ∧ (3 ≤ j → u = recovP ws d ∧ recE ws d = 0 ∧ ∃ k : Nat, keyO f L K r = some k ∧ ix = (k : Nat))
  m : 1 ≤ j → mayV d root L K = true
  e : 4 ≤ j → verE root f L K r d ⟨ix, ws, ps⟩ = 0
  w : Below w0.heap.size w0 w
theorem VrQ.below {root d : ByteArray} {wt f L K r : Nat} {ix : Int} {ws ps : List ByteArray} {wa pa : Option Addr} {wc pc b0 : Nat} {w0 : World} {j : Nat} {w w' : World} (h : VrQ root d wt f L K r ix ws ps wa pa wc pc b0 w0 j w) (hb : Below w.heap.size w w') : VrQ root d wt f L K r ix ws ps wa pa wc pc b0 w0 j w' := by
  obtain ⟨x, h1, h2⟩ := h.kx
  obtain ⟨u, h3, h4⟩ := h.ux
  exact ⟨h.b.below hb, (hb.block _ (lt_of_block h.fr)).trans h.fr, ⟨x, (hb.block _ (lt_of_block h1)).trans h1, h2⟩, ⟨u, (hb.block _ (lt_of_block h3)).trans h3, h4⟩, h.m, h.e, bnext h.w hb⟩
def VrA (root d : ByteArray) (f L K r : Nat) (s : SigD) (w0 : World) (x : Int) (w' : World) : Prop := x = verE root f L K r d s ∧ Below w0.heap.size w0 w'
theorem vrfirst_any (root d : ByteArray) (wt f L K r : Nat) (ix : Int) (ws ps : List ByteArray) (wa pa : Option Addr) (wc pc b0 : Nat) (w0 w : World) (h : VrQ root d wt f L K r ix ws ps wa pa wc pc b0 w0 0 w) (hb0 : w0.heap.size ≤ b0) (htw : Txts w0 wa ws) (htp : Txts w0 pa ps) (hf : f < 18446744073709551616) (hr : r < 18446744073709551616) (hnw : len ws ≤ 1000000) (hnp : len ps ≤ 1000000) (hpc : len ps ≤ pc) :
    Calls Tryz.prog 78 #[.slice (some ⟨b0 + 6, 0, none⟩) 4 4] w fun e w' => ∃ x, e = .returned (.int .i64 x) ∧ VrA root d f L K r ⟨ix, ws, ps⟩ w0 x w' := by
  have keep : ∀ (o : Nat) (w1 w2 : World), 4 ≤ o → o ≤ 5 → ExtB (some (b0 + o)) w1 w2 → VrB root d wt f L K r ix ws ps wa pa wc pc b0 w1 → Below w0.heap.size w0 w1 → VrB root d wt f L K r ix ws ps wa pa wc pc b0 w2 ∧ Below w0.heap.size w0 w2 := fun o w1 w2 h1 h2 hx hv hb => by
    have hb2 : Below w0.heap.size w0 w2 := grownBy_below hb hx (fun q hq => by cases hq; omega)
    have ne : ∀ i : Nat, i ≤ 3 → some (b0 + i) ≠ some (b0 + o) := fun i hi e => by have := Option.some.inj e; omega
    exact ⟨⟨extB_block hx (ne 0 (by decide)) hv.p, extB_block hx (ne 1 (by decide)) hv.r, extB_block hx (ne 2 (by decide)) hv.d, extB_block hx (ne 3 (by decide)) hv.s, htw.below hb2, htp.below hb2⟩, hb2⟩
  refine lfirst_any 4 (b0 + 6) vrF (vrC b0) (VrQ root d wt f L K r ix ws ps wa pa wc pc b0 w0) (VrA root d f L K r ⟨ix, ws, ps⟩ w0) w (by decide)
    (fun k => by
      unfold vrF
      split
      · exact enters_of Tryz.func68 (by kernel_rfl) rfl
      · split
        · exact enters_of Tryz.func71 (by kernel_rfl) rfl
        · split
          · exact enters_of Tryz.func73 (by kernel_rfl) rfl
          · exact enters_of Tryz.func75 (by kernel_rfl) rfl)
    (fun j w1 w2 h hb => h.below hb)
    (fun j hj w1 h => by
      rcases (by omega : j = 0 ∨ j = 1 ∨ j = 2 ∨ j = 3) with rfl | rfl | rfl | rfl
      · exact block_cell h.fr 0
      · exact block_cell h.fr 1
      · exact block_cell h.fr 2
      · exact block_cell h.fr 3)
    h
    (fun j hj w1 hw h => ?_)
    (fun w1 h => ⟨(h.e (Nat.le_refl _)).symm, h.w⟩)
  rcases (by omega : j = 0 ∨ j = 1 ∨ j = 2 ∨ j = 3) with rfl | rfl | rfl | rfl
  · refine (ver1_any root d wt f L K r ix ws ps wa pa wc pc b0 w1 h.b).mono ?_
    rintro e w2 ⟨rfl, hb⟩
    have h2 := h.below hb
    cases hm : mayV d root L K with
    | true => exact ⟨0, rfl, fun _ => ⟨h2.b, h2.fr, (by obtain ⟨x, h3, -⟩ := h2.kx; exact ⟨x, h3, fun h9 => by omega⟩), (by obtain ⟨x, h3, -⟩ := h2.ux; exact ⟨x, h3, fun h9 => by omega⟩), fun _ => hm, fun h9 => by omega, h2.w⟩, fun h0 => absurd rfl h0, Nat.le_trans hw hb.size⟩
    | false => exact ⟨2, rfl, fun h0 => (by cases h0), fun _ => ⟨(verE_may hm).symm, h2.w⟩, Nat.le_trans hw hb.size⟩
  · have hm := h.m (Nat.le_refl _)
    obtain ⟨x, hx, -⟩ := h.kx
    refine (ver2_any root d wt f L K r ix ws ps wa pa wc pc b0 x w1 h.b hx hf hr (mayV_iff.1 hm).2.2.1).mono ?_
    rintro e w2 ⟨rfl, hx2, he⟩
    obtain ⟨k1, k2⟩ := keep 4 w1 w2 (by decide) (by decide) he h.b h.w
    have hr2 : w2.heap[b0 + 6]? = _ := extB_block he (fun e => by have := Option.some.inj e; omega) h.fr
    obtain ⟨u, hu, -⟩ := h.ux
    have hu2 := extB_block he (fun e => by have := Option.some.inj e; omega) hu
    cases hk : keyO f L K r with
    | none => exact ⟨16, rfl, fun h0 => (by cases h0), fun _ => ⟨(verE_none hm hk).symm, k2⟩, Nat.le_trans hw he.size⟩
    | some k =>
      rw [hk] at hx2
      exact ⟨0, rfl, fun _ => ⟨k1, hr2, ⟨_, hx2, fun _ => ⟨k, hk, rfl⟩⟩, ⟨u, hu2, fun h9 => by omega⟩, fun _ => hm, fun h9 => by omega, k2⟩, fun h0 => absurd rfl h0, Nat.le_trans hw he.size⟩
  · have hm := h.m (by decide)
    obtain ⟨x, hx, hxk⟩ := h.kx
    obtain ⟨k, hk, rfl⟩ := hxk (by decide)
    obtain ⟨u, hu, -⟩ := h.ux
    refine (ver3_any root d wt f L K r ix ws ps wa pa wc pc b0 _ u w1 h.b hx hu hnw).mono ?_
    rintro e w2 ⟨rfl, hu2, he⟩
    obtain ⟨k1, k2⟩ := keep 5 w1 w2 (by decide) (by decide) he h.b h.w
    have hr2 : w2.heap[b0 + 6]? = _ := extB_block he (fun e => by have := Option.some.inj e; omega) h.fr
    have hx2 := extB_block he (fun e => by have := Option.some.inj e; omega) hx
    by_cases hc : ix = ((k : Nat) : Int) ∧ recE ws d = 0
    · rw [if_pos hc]
      exact ⟨0, rfl, fun _ => ⟨k1, hr2, ⟨_, hx2, fun _ => ⟨k, hk, rfl⟩⟩, ⟨_, hu2, fun _ => ⟨recS_ok hc.2, hc.2, k, hk, hc.1⟩⟩, fun _ => hm, fun h9 => by omega, k2⟩, fun h0 => absurd rfl h0, Nat.le_trans hw he.size⟩
    · rw [if_neg hc]
      exact ⟨10, rfl, fun h0 => (by cases h0), fun _ => ⟨by rw [verE_key hm hk, if_neg hc], k2⟩, Nat.le_trans hw he.size⟩
  · have hm := h.m (by decide)
    obtain ⟨x, hx, hxk⟩ := h.kx
    obtain ⟨k, hk, rfl⟩ := hxk (by decide)
    obtain ⟨u, hu, hur⟩ := h.ux
    obtain ⟨rfl, hr0, k9, hk9, hix⟩ := hur (by decide)
    rw [hk] at hk9
    cases hk9
    refine (ver4_any root d wt f L K r ix ws ps wa pa wc pc b0 k _ w1 h.b hx hu (keyO_some hk).2.2 (mayV_iff.1 hm).2.2.2.2 (by rw [recovP_size]; decide) hnp hpc).mono ?_
    rintro e w2 ⟨rfl, hb⟩
    have h2 := h.below hb
    have hv := verE_key (root := root) (d := d) (ix := ix) (ws := ws) (ps := ps) hm hk
    rw [if_pos ⟨hix, hr0⟩] at hv
    refine ⟨_, rfl, fun h0 => ⟨h2.b, h2.fr, ?_, ?_, h2.m ∘ fun _ => by decide, fun _ => hv.trans h0, h2.w⟩, fun _ => ⟨hv.symm, h2.w⟩, Nat.le_trans hw hb.size⟩
    · obtain ⟨x, h3, h4⟩ := h2.kx
      exact ⟨x, h3, fun _ => h4 (by decide)⟩
    · obtain ⟨x, h3, h4⟩ := h2.ux
      exact ⟨x, h3, fun _ => h4 (by decide)⟩
set_option maxRecDepth 100000 in
set_option maxHeartbeats 4000000 in
theorem verify_any (root d : ByteArray) (wt f L K r : Nat) (ix : Int) (ws ps : List ByteArray) (wa pa : Option Addr) (wc pc : Nat) (w : World) (htw : Txts w wa ws) (htp : Txts w pa ps) (hf : f < 18446744073709551616) (hr : r < 18446744073709551616) (hnw : len ws ≤ 1000000) (hnp : len ps ≤ 1000000) (hpc : len ps ≤ pc) :
    Calls Tryz.prog 27 #[.agg #[.string root, .int .u64 (wt : Nat), .int .u64 (f : Nat), .int .u64 (L : Nat), .int .u64 (K : Nat)], .int .u64 (r : Nat), .string d, .agg #[.int .u64 ix, .slice wa (len ws) wc, .slice pa (len ps) pc]] w fun e w' => e = .returned (.int .i64 (verE root f L K r d ⟨ix, ws, ps⟩)) ∧ Below w.heap.size w w' := by
  have HFI : Hid (∀ w1, VrQ root d wt f L K r ix ws ps wa pa wc pc w.heap.size w 0 w1 → Calls Tryz.prog 78 #[.slice (some ⟨w.heap.size + 6, 0, none⟩) 4 4] w1 fun e w' => ∃ x, e = .returned (.int .i64 x) ∧ VrA root d f L K r ⟨ix, ws, ps⟩ w x w') := Lib.hid (fun w1 h => vrfirst_any root d wt f L K r ix ws ps wa pa wc pc _ w w1 h (Nat.le_refl _) htw htp hf hr hnw hnp hpc)
  have HTW := Lib.hid htw
  have HTP := Lib.hid htp
  clear htw htp hf hr hnw hnp hpc
  go_enter Tryz.func27, Tryz.ntmps27
  go_wp2_with fail
  refine (HFI.out _ ⟨⟨?p, ?r, ?d, ?s, HTW.out.below ?bb, HTP.out.below ?bb⟩, ?fr, ⟨0, ?kx, fun h => by omega⟩, ⟨⟨#[]⟩, ?ux, fun h => by omega⟩, fun h => by omega, fun h => by omega, ?bb⟩).mono ?_
  case bb => exact balloc (balloc (balloc (balloc (balloc (balloc (balloc (Below.refl _ _) _) _) _) _) _) _) _
  case p => exact block_alloc (block_alloc (block_alloc (block_alloc (block_alloc (block_alloc (alloc_new_at _ rfl) _) _) _) _) _) _
  case r => exact block_alloc (block_alloc (block_alloc (block_alloc (block_alloc (alloc_new_at _ (by simp)) _) _) _) _) _
  case d => exact block_alloc (block_alloc (block_alloc (block_alloc (alloc_new_at _ (by simp)) _) _) _) _
  case s => exact block_alloc (block_alloc (block_alloc (alloc_new_at _ (by simp)) _) _) _
  case kx => exact block_alloc (block_alloc (alloc_new_at _ (by simp)) _) _
  case ux => exact block_alloc (alloc_new_at _ (by simp)) _
  case fr => exact alloc_new_at _ (by simp)
  rintro e w1 ⟨x, rfl, hx, hb⟩
  have HX := Lib.hid hx
  have HB := Lib.hid hb
  clear hx hb
  go_wp2
  go_ret
  exact ⟨by rw [← HX.out]; rfl, HB.out⟩
end Go.Proofs.YtoafjbillcooiaaGreat
namespace Go.Proofs.YtoafjbillcooiaaGreat
open Go.RowKit
set_option linter.unusedSimpArgs false
set_option linter.unusedVariables false
set_option maxRecDepth 100000 in
set_option maxHeartbeats 4000000 in
theorem rpart14_any (seed : ByteArray) (f L K b wt : Nat) (la : Option Addr) (lc : Nat) (w : World) (h : RLadAt seed f L K b la lc w) (hK : K ≤ 64) : Calls Tryz.prog 26 #[.pointer (some ⟨b, 0, none⟩), .int .u64 (wt : Nat)] w fun e w' => e = .returned (.agg #[.string (ladR seed K), .int .u64 (wt : Nat), .int .u64 (f : Nat), .int .u64 (L : Nat), .int .u64 (K : Nat)]) ∧ Below w.heap.size w w' := by
  have H := Lib.hid h
  have HK := Lib.hid hK
  have k2 : IntKind.u64.wrap ((K : Nat) : Int) = (K : Int) := IntWalk.u64_in _ (by omega)
  obtain ⟨rt, hrt⟩ : ∃ rt, ladR seed K = rt := ⟨_, rfl⟩
  have HRT := Lib.hid hrt
  rw [hrt]
  clear h hK hrt
  go_enter Tryz.func26, Tryz.ntmps26
  go_upto_region 1 with fail
  obtain ⟨V, hV⟩ : ∃ V, w.alloc (.cells #[.string ⟨#[]⟩, .int .u64 0, .int .u64 0, .int .u64 0, .int .u64 0] 62) = V := ⟨_, rfl⟩
  obtain ⟨rb, hrb⟩ : ∃ rb, w.heap.size = rb := ⟨_, rfl⟩
  have HV : Hid (Below w.heap.size w V) := Lib.hid (by rw [← hV]; exact balloc (Below.refl _ _) _)
  have HVB : Hid (V.heap[rb]? = some (.cells #[.string ⟨#[]⟩, .int .u64 0, .int .u64 0, .int .u64 0, .int .u64 0] 62 (0, 0))) := Lib.hid (by rw [← hV, ← hrb]; exact heap_alloc_new _ _)
  have HRB : Hid (w.heap.size ≤ rb) := Lib.hid (Nat.le_of_eq hrb)
  rw [hV, hrb]
  clear hV hrb
  have H1 := H.out.below HV.out
  have c1 : V.cell? ⟨b, 1, none⟩ = some (.int .u64 (f : Nat)) := block_cell H1.c 1
  have c2 : V.cell? ⟨b, 2, none⟩ = some (.int .u64 (L : Nat)) := block_cell H1.c 2
  have c3 : V.cell? ⟨b, 3, none⟩ = some (.slice la K lc) := block_cell H1.c 3
  have HR9 : Hid (∀ wv : World, Below V.heap.size V wv → Calls Tryz.prog 36 #[.pointer (some ⟨b, 0, none⟩)] wv fun e w' => e = .returned (.string rt) ∧ Below wv.heap.size wv w') := Lib.hid (fun wv hb => by
    rw [← HRT.out]; exact rroot14_any seed f L K b la lc wv ((H.out.below HV.out).below hb) HK.out)
  clear H1
  refine wp_region_tail 18 1000 (none) (phis (List.map qv [.pointer (some ⟨b, 0, none⟩), .string rt, .int .u64 (wt : Nat), .pointer (some ⟨b, 0, none⟩), .pointer (some ⟨b, 0, none⟩), .pointer (some ⟨b, 1, none⟩), .int .u64 (f : Nat), .pointer (some ⟨b, 0, none⟩), .pointer (some ⟨b, 0, none⟩), .pointer (some ⟨b, 2, none⟩), .int .u64 (L : Nat), .pointer (some ⟨b, 0, none⟩), .pointer (some ⟨b, 0, none⟩), .pointer (some ⟨b, 3, none⟩), .slice la K lc, .int .i64 (K : Nat), .int .u64 (K : Nat), .agg #[.string rt, .int .u64 (wt : Nat), .int .u64 (f : Nat), .int .u64 (L : Nat), .int .u64 (K : Nat)]])) rfl (by kernel_rfl) (by kernel_rfl) (mono_of mono_qv) (steps_of 18 ⟨?s0, ?s1, ?s2, ?s3, ?s4, ?s5, ?s6, ?s7, ?s8, ?s9, ?s10, ?s11, ?s12, ?s13, ?s14, ?s15, ?s16, ?s17, trivial⟩) ?_
  case s0 =>
    refine qV (fun _ => rfl) rfl fun av wv hE hO hD => ?_
    simp [go_sem, qF av 0 (.pointer (some ⟨b, 0, none⟩)) (hO.2.2 0 rfl), k2]
  case s1 =>
    refine step_wp (fun av wv hE hS hO hD => ⟨rfl, ?_⟩)
    have f5 := qE (hD.1 rfl _ rfl)
    refine wp_of_call (v := .string rt) (by simp [go_sem, f5]) (HR9.out wv (of_drew hE)) (fun w2 hb => ⟨_, rfl, es_of_ext hb, rfl⟩)
  case s2 =>
    refine qV (fun _ => rfl) rfl fun av wv hE hO hD => ?_
    simp [go_sem, qF av 1 (.int .u64 (wt : Nat)) (hO.2.2 1 rfl), k2]
  case s3 =>
    refine qV (fun _ => rfl) rfl fun av wv hE hO hD => ?_
    simp [go_sem, qF av 0 (.pointer (some ⟨b, 0, none⟩)) (hO.2.2 0 rfl), k2]
  case s4 =>
    refine qV (fun _ => rfl) rfl fun av wv hE hO hD => ?_
    simp [go_sem, qE (hD.1 rfl _ rfl), k2]
  case s5 =>
    refine qV (fun _ => rfl) rfl fun av wv hE hO hD => ?_
    simp [go_sem, qE (hD.1 rfl _ rfl), k2]
  case s6 =>
    refine qV (fun _ => rfl) rfl fun av wv hE hO hD => ?_
    simp [go_sem, qE (hD.1 rfl _ rfl), extB_cell hE (by simp) c1, extB_cell hE (by simp) c2, extB_cell hE (by simp) c3, k2]
  case s7 =>
    refine qV (fun _ => rfl) rfl fun av wv hE hO hD => ?_
    simp [go_sem, qF av 0 (.pointer (some ⟨b, 0, none⟩)) (hO.2.2 0 rfl), k2]
  case s8 =>
    refine qV (fun _ => rfl) rfl fun av wv hE hO hD => ?_
    simp [go_sem, qE (hD.1 rfl _ rfl), k2]
  case s9 =>
    refine qV (fun _ => rfl) rfl fun av wv hE hO hD => ?_
    simp [go_sem, qE (hD.1 rfl _ rfl), k2]
  case s10 =>
    refine qV (fun _ => rfl) rfl fun av wv hE hO hD => ?_
    simp [go_sem, qE (hD.1 rfl _ rfl), extB_cell hE (by simp) c1, extB_cell hE (by simp) c2, extB_cell hE (by simp) c3, k2]
  case s11 =>
    refine qV (fun _ => rfl) rfl fun av wv hE hO hD => ?_
    simp [go_sem, qF av 0 (.pointer (some ⟨b, 0, none⟩)) (hO.2.2 0 rfl), k2]
  case s12 =>
    refine qV (fun _ => rfl) rfl fun av wv hE hO hD => ?_
    simp [go_sem, qE (hD.1 rfl _ rfl), k2]
  case s13 =>
    refine qV (fun _ => rfl) rfl fun av wv hE hO hD => ?_
    simp [go_sem, qE (hD.1 rfl _ rfl), k2]
  case s14 =>
    refine qV (fun _ => rfl) rfl fun av wv hE hO hD => ?_
    simp [go_sem, qE (hD.1 rfl _ rfl), extB_cell hE (by simp) c1, extB_cell hE (by simp) c2, extB_cell hE (by simp) c3, k2]
  case s15 =>
    refine qV (fun _ => rfl) rfl fun av wv hE hO hD => ?_
    simp [go_sem, qE (hD.1 rfl _ rfl), k2]
  case s16 =>
    refine qV (fun _ => rfl) rfl fun av wv hE hO hD => ?_
    simp [go_sem, qE (hD.1 rfl _ rfl), k2]
  case s17 =>
    refine qV (fun _ => rfl) rfl fun av wv hE hO hD => ?_
    simp [go_sem, qE (hD.1 rfl _ rfl), qE (hD.2.1 rfl _ rfl), qE (hD.2.2.1 rfl _ rfl), qE (hD.2.2.2.1 rfl _ rfl), qE (hD.2.2.2.2.1 rfl _ rfl), k2]
  intro a' w' hE hO hall
  have hA := act_of_outer (ds := [5, 6, 7, 8, 9, 10, 11, 12, 13, 14, 15, 16, 17, 18, 19, 20, 21, 22]) rfl hO (by kernel_rfl)
  obtain ⟨j0, j1, j2, j3, j4, j5, j6, j7, j8, j9, j10, j11, j12, j13, j14, j15, j16, j17, -⟩ := hall
  simp only [List.foldl_cons, List.foldl_nil, Act.put, List.setIfInBounds_toArray, List.set_cons_succ, List.set_cons_zero, qJ 5 (j0 _ rfl), qJ 6 (j1 _ rfl), qJ 7 (j2 _ rfl), qJ 8 (j3 _ rfl), qJ 9 (j4 _ rfl), qJ 10 (j5 _ rfl), qJ 11 (j6 _ rfl), qJ 12 (j7 _ rfl), qJ 13 (j8 _ rfl), qJ 14 (j9 _ rfl), qJ 15 (j10 _ rfl), qJ 16 (j11 _ rfl), qJ 17 (j12 _ rfl), qJ 18 (j13 _ rfl), qJ 19 (j14 _ rfl), qJ 20 (j15 _ rfl), qJ 21 (j16 _ rfl), qJ 22 (j17 _ rfl)] at hA
  clear hO j0 j1 j2 j3 j4 j5 j6 j7 j8 j9 j10 j11 j12 j13 j14 j15 j16 j17
  subst hA
  have HB2 := Lib.hid (of_drew hE)
  have HB3 := Lib.hid ((HB2.out.block _ (lt_of_block HVB.out)).trans HVB.out)
  clear hE c1 c2 c3
  simp only [List.drop_succ_cons, List.drop_zero]
  have z0 := fun o => block_cell HB3.out o
  have z1 : ∀ o, w'.frozen? ⟨rb, o, none⟩ = false := block_free HB3.out
  have z2 : rb < w'.heap.size := lt_of_block HB3.out
  go_wp2
  have hk := block_setCell (block_setCell (block_setCell (block_setCell (block_setCell HB3.out (o := 0) (.string rt)) (o := 1) (.int .u64 (wt : Nat))) (o := 2) (.int .u64 (f : Nat))) (o := 3) (.int .u64 (L : Nat))) (o := 4) (.int .u64 (K : Nat))
  have e0 := block_cell hk 0
  have e1 := block_cell hk 1
  have e2 := block_cell hk 2
  have e3 := block_cell hk 3
  have e4 := block_cell hk 4
  refine bodyPost_ret (v := .agg #[.string rt, .int .u64 (wt : Nat), .int .u64 (f : Nat), .int .u64 (L : Nat), .int .u64 (K : Nat)]) ?_ rfl ⟨rfl, bset (bset (bset (bset (bset (bnext HV.out HB2.out) HRB.out _) HRB.out _) HRB.out _) HRB.out _) HRB.out _⟩
  simp [results, Tryz.results26, go_sem, e0, e1, e2, e3, e4]
set_option maxRecDepth 100000 in
set_option maxHeartbeats 4000000 in
theorem lpart_any (seed : ByteArray) (f L K b tb wt : Nat) (w : World) (h : LadAt seed f L K b tb w) : Calls Tryz.prog 32 #[.pointer (some ⟨b, 0, none⟩), .int .u64 (wt : Nat)] w fun e w' => e = .returned (.agg #[.string (ladR seed K), .int .u64 (wt : Nat), .int .u64 (f : Nat), .int .u64 (L : Nat), .int .u64 (K : Nat)]) ∧ Below w.heap.size w w' := by
  have H := Lib.hid h
  obtain ⟨rt, hrt⟩ : ∃ rt, ladR seed K = rt := ⟨_, rfl⟩
  have HRT := Lib.hid hrt
  rw [hrt]
  clear h hrt
  go_enter Tryz.func32, Tryz.ntmps32
  go_upto_region 3 with fail
  obtain ⟨V, hV⟩ : ∃ V, w.alloc (.cells #[.string ⟨#[]⟩, .int .u64 0, .int .u64 0, .int .u64 0, .int .u64 0] 62) = V := ⟨_, rfl⟩
  obtain ⟨rb, hrb⟩ : ∃ rb, w.heap.size = rb := ⟨_, rfl⟩
  have HV : Hid (Below w.heap.size w V) := Lib.hid (by rw [← hV]; exact balloc (Below.refl _ _) _)
  have HVB : Hid (V.heap[rb]? = some (.cells #[.string ⟨#[]⟩, .int .u64 0, .int .u64 0, .int .u64 0, .int .u64 0] 62 (0, 0))) := Lib.hid (by rw [← hV, ← hrb]; exact heap_alloc_new _ _)
  have HRB : Hid (w.heap.size ≤ rb) := Lib.hid (Nat.le_of_eq hrb)
  rw [hV, hrb]
  clear hV hrb
  have H1 := H.out.below HV.out
  have c1 : V.cell? ⟨b, 0, none⟩ = some (.int .u64 (f : Nat)) := block_cell H1.c 0
  have c2 : V.cell? ⟨b, 1, none⟩ = some (.int .u64 (L : Nat)) := block_cell H1.c 1
  have c3 : V.cell? ⟨b, 2, none⟩ = some (.int .u64 (K : Nat)) := block_cell H1.c 2
  have HR9 : Hid (∀ wv : World, Below V.heap.size V wv → Calls Tryz.prog 35 #[.pointer (some ⟨b, 0, none⟩)] wv fun e w' => e = .returned (.string rt) ∧ Below wv.heap.size wv w') := Lib.hid (fun wv hb => by
    rw [← HRT.out]; exact lroot14_any seed f L K b tb wv ((H.out.below HV.out).below hb))
  clear H1
  refine wp_region_tail 19 1000 (none) (phis (List.map qv [.pointer (some ⟨b, 0, none⟩), .string rt, .int .u64 (wt : Nat), .pointer (some ⟨b, 0, none⟩), .pointer (some ⟨b, 0, none⟩), .pointer (some ⟨b, 0, none⟩), .pointer (some ⟨b, 0, none⟩), .int .u64 (f : Nat), .pointer (some ⟨b, 0, none⟩), .pointer (some ⟨b, 0, none⟩), .pointer (some ⟨b, 0, none⟩), .pointer (some ⟨b, 1, none⟩), .int .u64 (L : Nat), .pointer (some ⟨b, 0, none⟩), .pointer (some ⟨b, 0, none⟩), .pointer (some ⟨b, 0, none⟩), .pointer (some ⟨b, 2, none⟩), .int .u64 (K : Nat), .agg #[.string rt, .int .u64 (wt : Nat), .int .u64 (f : Nat), .int .u64 (L : Nat), .int .u64 (K : Nat)]])) rfl (by kernel_rfl) (by kernel_rfl) (mono_of mono_qv) (steps_of 19 ⟨?s0, ?s1, ?s2, ?s3, ?s4, ?s5, ?s6, ?s7, ?s8, ?s9, ?s10, ?s11, ?s12, ?s13, ?s14, ?s15, ?s16, ?s17, ?s18, trivial⟩) ?_
  case s0 =>
    refine qV (fun _ => rfl) rfl fun av wv hE hO hD => ?_
    simp [go_sem, qF av 0 (.pointer (some ⟨b, 0, none⟩)) (hO.2.2 0 rfl)]
  case s1 =>
    refine step_wp (fun av wv hE hS hO hD => ⟨rfl, ?_⟩)
    have f8 := qE (hD.1 rfl _ rfl)
    refine wp_of_call (v := .string rt) (by simp [go_sem, f8]) (HR9.out wv (of_drew hE)) (fun w2 hb => ⟨_, rfl, es_of_ext hb, rfl⟩)
  case s2 =>
    refine qV (fun _ => rfl) rfl fun av wv hE hO hD => ?_
    simp [go_sem, qF av 1 (.int .u64 (wt : Nat)) (hO.2.2 1 rfl)]
  case s3 =>
    refine qV (fun _ => rfl) rfl fun av wv hE hO hD => ?_
    simp [go_sem, qF av 0 (.pointer (some ⟨b, 0, none⟩)) (hO.2.2 0 rfl)]
  case s4 =>
    refine qV (fun _ => rfl) rfl fun av wv hE hO hD => ?_
    simp [go_sem, qE (hD.1 rfl _ rfl)]
  case s5 =>
    refine qV (fun _ => rfl) rfl fun av wv hE hO hD => ?_
    simp [go_sem, qE (hD.1 rfl _ rfl)]
  case s6 =>
    refine qV (fun _ => rfl) rfl fun av wv hE hO hD => ?_
    simp [go_sem, qE (hD.1 rfl _ rfl)]
  case s7 =>
    refine qV (fun _ => rfl) rfl fun av wv hE hO hD => ?_
    simp [go_sem, qE (hD.1 rfl _ rfl), extB_cell hE (by simp) c1, extB_cell hE (by simp) c2, extB_cell hE (by simp) c3]
  case s8 =>
    refine qV (fun _ => rfl) rfl fun av wv hE hO hD => ?_
    simp [go_sem, qF av 0 (.pointer (some ⟨b, 0, none⟩)) (hO.2.2 0 rfl)]
  case s9 =>
    refine qV (fun _ => rfl) rfl fun av wv hE hO hD => ?_
    simp [go_sem, qE (hD.1 rfl _ rfl)]
  case s10 =>
    refine qV (fun _ => rfl) rfl fun av wv hE hO hD => ?_
    simp [go_sem, qE (hD.1 rfl _ rfl)]
  case s11 =>
    refine qV (fun _ => rfl) rfl fun av wv hE hO hD => ?_
    simp [go_sem, qE (hD.1 rfl _ rfl)]
  case s12 =>
    refine qV (fun _ => rfl) rfl fun av wv hE hO hD => ?_
    simp [go_sem, qE (hD.1 rfl _ rfl), extB_cell hE (by simp) c1, extB_cell hE (by simp) c2, extB_cell hE (by simp) c3]
  case s13 =>
    refine qV (fun _ => rfl) rfl fun av wv hE hO hD => ?_
    simp [go_sem, qF av 0 (.pointer (some ⟨b, 0, none⟩)) (hO.2.2 0 rfl)]
  case s14 =>
    refine qV (fun _ => rfl) rfl fun av wv hE hO hD => ?_
    simp [go_sem, qE (hD.1 rfl _ rfl)]
  case s15 =>
    refine qV (fun _ => rfl) rfl fun av wv hE hO hD => ?_
    simp [go_sem, qE (hD.1 rfl _ rfl)]
  case s16 =>
    refine qV (fun _ => rfl) rfl fun av wv hE hO hD => ?_
    simp [go_sem, qE (hD.1 rfl _ rfl)]
  case s17 =>
    refine qV (fun _ => rfl) rfl fun av wv hE hO hD => ?_
    simp [go_sem, qE (hD.1 rfl _ rfl), extB_cell hE (by simp) c1, extB_cell hE (by simp) c2, extB_cell hE (by simp) c3]
  case s18 =>
    refine qV (fun _ => rfl) rfl fun av wv hE hO hD => ?_
    simp [go_sem, qE (hD.1 rfl _ rfl), qE (hD.2.1 rfl _ rfl), qE (hD.2.2.1 rfl _ rfl), qE (hD.2.2.2.1 rfl _ rfl), qE (hD.2.2.2.2.1 rfl _ rfl)]
  intro a' w' hE hO hall
  have hA := act_of_outer (ds := [8, 9, 10, 11, 12, 13, 14, 15, 16, 17, 18, 19, 20, 21, 22, 23, 24, 25, 26]) rfl hO (by kernel_rfl)
  obtain ⟨j0, j1, j2, j3, j4, j5, j6, j7, j8, j9, j10, j11, j12, j13, j14, j15, j16, j17, j18, -⟩ := hall
  simp only [List.foldl_cons, List.foldl_nil, Act.put, List.setIfInBounds_toArray, List.set_cons_succ, List.set_cons_zero, qJ 8 (j0 _ rfl), qJ 9 (j1 _ rfl), qJ 10 (j2 _ rfl), qJ 11 (j3 _ rfl), qJ 12 (j4 _ rfl), qJ 13 (j5 _ rfl), qJ 14 (j6 _ rfl), qJ 15 (j7 _ rfl), qJ 16 (j8 _ rfl), qJ 17 (j9 _ rfl), qJ 18 (j10 _ rfl), qJ 19 (j11 _ rfl), qJ 20 (j12 _ rfl), qJ 21 (j13 _ rfl), qJ 22 (j14 _ rfl), qJ 23 (j15 _ rfl), qJ 24 (j16 _ rfl), qJ 25 (j17 _ rfl), qJ 26 (j18 _ rfl)] at hA
  clear hO j0 j1 j2 j3 j4 j5 j6 j7 j8 j9 j10 j11 j12 j13 j14 j15 j16 j17 j18
  subst hA
  have HB2 := Lib.hid (of_drew hE)
  have HB3 := Lib.hid ((HB2.out.block _ (lt_of_block HVB.out)).trans HVB.out)
  clear hE c1 c2 c3
  simp only [List.drop_succ_cons, List.drop_zero]
  have z0 := fun o => block_cell HB3.out o
  have z1 : ∀ o, w'.frozen? ⟨rb, o, none⟩ = false := block_free HB3.out
  have z2 : rb < w'.heap.size := lt_of_block HB3.out
  go_wp2
  have hk := block_setCell (block_setCell (block_setCell (block_setCell (block_setCell HB3.out (o := 0) (.string rt)) (o := 1) (.int .u64 (wt : Nat))) (o := 2) (.int .u64 (f : Nat))) (o := 3) (.int .u64 (L : Nat))) (o := 4) (.int .u64 (K : Nat))
  have e0 := block_cell hk 0
  have e1 := block_cell hk 1
  have e2 := block_cell hk 2
  have e3 := block_cell hk 3
  have e4 := block_cell hk 4
  refine bodyPost_ret (v := .agg #[.string rt, .int .u64 (wt : Nat), .int .u64 (f : Nat), .int .u64 (L : Nat), .int .u64 (K : Nat)]) ?_ rfl ⟨rfl, bset (bset (bset (bset (bset (bnext HV.out HB2.out) HRB.out _) HRB.out _) HRB.out _) HRB.out _) HRB.out _⟩
  simp [results, Tryz.results32, go_sem, e0, e1, e2, e3, e4]
end Go.Proofs.YtoafjbillcooiaaGreat
namespace Go.Proofs.YtoafjbillcooiaaGreat
open Go.RowKit
set_option linter.unusedSimpArgs false
set_option linter.unusedVariables false
theorem info_u8l : (Tryz.prog.info? 5).map (fun i => (i.zero, i.size, i.bytes)) = some (some (.int .u8 0), 1, 1) := by kernel_rfl
def text5 (c n : Nat) : List UInt8 := (List.range n).map fun i => UInt8.ofNat ((c + i % 5) % 256)
theorem text5_len (c n : Nat) : (text5 c n).length = n := by unfold text5; rw [List.length_map, List.length_range]
theorem text5_at (c n m : Nat) (h : m < n) : Value.int .u8 (((c + m % 5) % 256 : Nat) : Int) = byV ((text5 c n).getD m 0) := by
  unfold text5 byV
  rw [List.getD_eq_getElem?_getD, List.getElem?_map, List.getElem?_range h]
  simp
def textN (c n : Nat) : ByteArray := ⟨(text5 c n).toArray⟩
theorem textN_size (c n : Nat) : (textN c n).size = n := by
  show (text5 c n).toArray.size = n
  rw [List.size_toArray, text5_len]
set_option maxRecDepth 100000 in
theorem make_bn (K : List UInt8) (n : Nat) (hn : n ≤ 1000) (W : World) : (Instr.makeSlice 114 (.int .i64 (n : Nat)) (.int .i64 (n : Nat))).run Tryz.prog W = .ok (.slice (some ⟨W.heap.size, 0, none⟩) n n) (W.alloc (.cells (filC K n 0) 5)) := by
  obtain ⟨i0, hi, hz0, hz1, hz2⟩ := info_parts info_u8l
  have hr := run_make (P := Tryz.prog) W 114 5 i0 (.int .u8 0) Tryz.underlying114 hi hz0 .i64 .i64 (n : Nat) (n : Nat) (by omega) (Int.le_refl _) (by rw [hz2]; omega) (by omega)
  have e : madeCells (Value.int .u8 0).cells (n * 1) = filC K n 0 := by
    apply Array.toList_inj.1
    show (madeCells #[.int .u8 0] (n * 1)).toList = _
    rw [toList_madeCells_one]
    unfold filC filB
    simp
    exact Or.inr rfl
  rw [hr, hz1]
  show Result.ok _ (W.alloc (.cells (madeCells (Value.int .u8 0).cells (n * 1)) 5)) = _
  rw [e]
  rfl
set_option maxRecDepth 100000 in
set_option maxHeartbeats 4000000 in
theorem text14_any (c n : Nat) (w : World) (hc : c ≤ 255) (hn : n ≤ 1000) : Calls Tryz.prog 23 #[.int .u8 (c : Nat), .int .i64 (n : Nat)] w fun e w' => e = .returned (.string (textN c n)) ∧ Below w.heap.size w w' := by
  have HC := Lib.hid hc
  have mk := make_bn (text5 c n) n hn
  have HN := Lib.hid hn
  clear hc hn
  go_enter Tryz.func23, Tryz.ntmps23
  go_upto_region 2 with fail
  obtain ⟨lb, hlb⟩ : ∃ lb, w.heap.size = lb := ⟨_, rfl⟩
  obtain ⟨U, hU⟩ : ∃ U, w.alloc (.cells (filC (text5 c n) n 0) 5) = U := ⟨_, rfl⟩
  have HUB : Hid (U.heap[lb]? = some (.cells (filC (text5 c n) n 0) 5 (0, 0))) := Lib.hid (by rw [← hU]; exact alloc_new_at _ hlb)
  have HUW : Hid (Below w.heap.size w U) := Lib.hid (by rw [← hU]; exact balloc (Below.refl _ _) _)
  have HLB : Hid (w.heap.size ≤ lb) := Lib.hid (Nat.le_of_eq hlb)
  rw [hlb]
  rw [hU]
  clear hU hlb mk
  go_wp2
  go_loopg [6] n (fun g i wr => ∃ m : Nat, g + m = n ∧ i = .int .i64 m ∧ Hid (wr.heap[lb]? = some (.cells (filC (text5 c n) n m) 5 (0, 0))) ∧ Hid (Below w.heap.size w wr))
  case atStart => exact ⟨0, by simp, rfl, HUB, HUW⟩
  case round =>
    clear HUB HUW
    obtain ⟨m, hm, rfl, HUB, HUW⟩ := hrel
    by_cases hlt : m < n
    · have i1 : (m : Int) < n := by omega
      obtain ⟨W, hW⟩ : ∃ W, wr = W := ⟨_, rfl⟩
      rw [hW] at HUB HUW ⊢
      have c0 : W.cell? ⟨lb, m, none⟩ = some (byV 0) := by rw [block_cell HUB.out, filC_at _ _ _ hlt (text5_len c n)]
      have c1 : W.frozen? ⟨lb, m, none⟩ = false := block_free HUB.out m
      have c2 : lb < W.heap.size := lt_of_block HUB.out
      clear hW
      have HM := Lib.hid hm
      clear hm
      have ev : Value.int .u8 (((c : Int) + (m : Int) % 5) % 256) = byV ((text5 c n).getD m 0) := by rw [← text5_at c n m hlt]; congr 1
      have HEV := Lib.hid ev
      have HLT := Lib.hid hlt
      clear ev hlt
      go_upto_region 4 with fail
      rw [HEV.out]
      clear c0 c1 c2
      have HU2 : Hid ((W.setCell ⟨lb, m, none⟩ (byV ((text5 c n).getD m 0))).heap[lb]? = some (.cells (filC (text5 c n) n (m + 1)) 5 (0, 0))) := Lib.hid (by
        have := block_setCell HUB.out (o := m) (byV ((text5 c n).getD m 0))
        rw [filC_set _ _ _ HLT.out (text5_len c n)] at this
        exact this)
      have HU4 : Hid (Below w.heap.size w (W.setCell ⟨lb, m, none⟩ (byV ((text5 c n).getD m 0)))) := Lib.hid (bset HUW.out HLB.out _)
      go_wp2
      go_roundg (gk - 1)
      case rel => exact ⟨m + 1, by have := HM.out; have := HLT.out; omega, by
        have h8 := HLT.out
        have h9 := HN.out
        have ez : wrap64 ((m : Int) + 1) = ((m + 1 : Nat) : Int) := by rw [IntWalk.wrap64_in _ (by omega)]; omega
        exact congrArg (Value.int .i64) ez, HU2, HU4⟩
      case measure => have := HM.out; have := HLT.out; omega
    · obtain rfl : n = m := by omega
      have i1 : ¬ ((n : Nat) : Int) < (n : Nat) := by omega
      have HUB := Lib.hid (by have h := HUB.out; rw [filC_all _ _ (text5_len c n)] at h; exact h)
      have cv : (convert 114 9 (.slice (some ⟨lb, 0, none⟩) n n)).run Tryz.prog wr = .ok (.string (textN c n)) wr := conv_block wr lb 0 n n (text5 c n) (text5_len c n) (fun i hi => byV_block HUB.out i (by rw [text5_len]; exact hi))
      go_wp2
      go_ret
      exact ⟨rfl, HUW.out⟩
end Go.Proofs.YtoafjbillcooiaaGreat
namespace Go.Proofs.YtoafjbillcooiaaGreat
open Go.RowKit
set_option linter.unusedSimpArgs false
set_option linter.unusedVariables false
def byte14 (s : ByteArray) (i : Nat) : Int := (s.data.toList.getD i 0).toNat
theorem conv14_some (w : World) (B n cap : Nat) (h : ∀ j, j < n → ∃ v, w.cell? ⟨B, j, none⟩ = some (.int .u8 v)) : ∃ t : ByteArray, t.size = n ∧ (convert 114 9 (.slice (some ⟨B, 0, none⟩) n cap)).run Tryz.prog w = .ok (.string t) w := by
  have h' : ∀ j, ∃ v, j < n → w.cell? ⟨B, j, none⟩ = some (.int .u8 v) := fun j => by
    by_cases hj : j < n
    · obtain ⟨v, hv⟩ := h j hj; exact ⟨v, fun _ => hv⟩
    · exact ⟨0, fun h => absurd h hj⟩
  let f : Nat → Int := fun j => Classical.choose (h' j)
  have hf : ∀ j, j < n → w.cell? ⟨B, j, none⟩ = some (.int .u8 (f j)) := fun j => Classical.choose_spec (h' j)
  refine ⟨strOfNums ((List.range n).map f), by rw [strOfNums_size]; simp, ?_⟩
  exact run_convert_bytes_arg (P := Tryz.prog) w 114 5 Tryz.underlying114 Tryz.underlying5 B 0 n cap ((List.range n).map f) (by simp) (fun i hi => by
    rw [Nat.zero_add, hf i hi]
    simp [hi]) 9 Tryz.underlying9
theorem bworld14_below (w : World) (e : TypeId) (s : ByteArray) : Below w.heap.size w (Lib.bytesWorld w e s) := by
  have h : Below w.heap.size w (w.drew.alloc (.cells (Lib.bytesCells w e s) e)) := ((Below.refl _ _).drew).alloc (by simp) _
  exact ⟨h.os, h.tape, h.output, by rw [Lib.bytesWorld_size]; omega, fun i hi => Lib.bytesWorld_at_old _ _ _ _ hi⟩
set_option maxRecDepth 100000 in
set_option maxHeartbeats 4000000 in
theorem turned14_any (s : ByteArray) (a y : Int) (w : World) (ha : 0 ≤ a ∧ a ≤ 255) (hs : s.size ≤ 140737488355328) : Calls Tryz.prog 67 #[.string s, .int .u8 a, .int .u8 y] w fun e w' => (∃ t : ByteArray, e = .returned (.string t) ∧ t.size = s.size) ∧ Below w.heap.size w w' := by
  obtain ⟨n, hn⟩ : ∃ n, s.size = n := ⟨_, rfl⟩
  have hc := Lib.run_convert_string_bytes (P := Tryz.prog) w 9 114 5 s Tryz.underlying9 Tryz.underlying114 Tryz.underlying5
  go_enter Tryz.func67, Tryz.ntmps67
  go_upto_region 2 with fail
  obtain ⟨cap, hcap⟩ : ∃ cap, grownCap w n 0 5 = cap := ⟨_, rfl⟩
  obtain ⟨W, hW⟩ : ∃ W, Lib.bytesWorld w 5 s = W := ⟨_, rfl⟩
  obtain ⟨B, hB⟩ : ∃ B, w.heap.size = B := ⟨_, rfl⟩
  obtain ⟨cs, hcs⟩ : ∃ cs, Lib.bytesCells w 5 s = cs := ⟨_, rfl⟩
  have HBK0 := Lib.bytesWorld_at_new w 5 s
  have HCE0 := fun j (hj : j < s.size) => Lib.bytesWorld_cell w 5 s j hj
  have WB : Hid (Below w.heap.size w W) := Lib.hid (by rw [← hW]; exact bworld14_below w 5 s)
  have CAP : Hid (n ≤ cap) := Lib.hid (by rw [← hcap]; exact grownCap_ge _ _ _ _)
  have HWB : Hid (w.heap.size ≤ B) := Lib.hid (Nat.le_of_eq hB)
  simp only [hn, hcap, hW, hB]
  rw [hW, hB] at HBK0
  rw [hcs] at HBK0
  have HCE : Hid (∀ j, j < s.size → cs[j]? = some (.int .u8 (byte14 s j))) := Lib.hid (fun j hj => by have := HCE0 j hj; rw [hW, hB] at this; exact (block_cell HBK0 j).symm.trans this)
  obtain ⟨fr, hfr⟩ : ∃ fr, (cs.size, cs.size + 1) = fr := ⟨_, rfl⟩
  rw [hfr] at HBK0
  have HFR : Hid (fr = (cs.size, cs.size + 1)) := Lib.hid hfr.symm
  have HBK := Lib.hid HBK0
  clear HBK0 HCE0 hc hW hcs hcap hfr hB
  rw [hn] at HCE
  have HN := Lib.hid hn
  have HSN : Hid (n ≤ 140737488355328) := Lib.hid (by omega)
  clear hn hs
  by_cases h0 : n = 0
  · have hpos : decide (0 < n) = false := by simp; omega
    have H0 := Lib.hid h0
    clear h0
    have HC : Hid (∀ j, j < n → ∃ v, W.cell? ⟨B, j, none⟩ = some (.int .u8 v)) := Lib.hid (fun j hj => absurd hj (by have := H0.out; omega))
    obtain ⟨t, hts, cv⟩ := conv14_some W B n cap HC.out
    have HTS := Lib.hid hts
    clear hts
    go_wp2
    go_ret
    exact ⟨⟨t, rfl, by rw [HTS.out, HN.out]⟩, WB.out⟩
  · have hpos : decide (0 < n) = true := by simp; omega
    obtain ⟨k, hk⟩ : ∃ k : Nat, a.toNat % n = k := ⟨_, rfl⟩
    have hkn : k < n := by rw [← hk]; exact Nat.mod_lt _ (by omega)
    have KK : Hid (a.tmod (n : Int) = (k : Int)) := Lib.hid (by rw [← hk]; exact (congrArg (fun z => Int.tmod z (n : Int)) (Int.toNat_of_nonneg ha.1).symm).trans (Int.ofNat_tmod _ _).symm)
    obtain ⟨x, hx⟩ : ∃ x, byte14 s k = x := ⟨_, rfl⟩
    have QK : Hid (cs[k]? = some (.int .u8 x)) := Lib.hid (by rw [← hx]; exact HCE.out k hkn)
    have FZ : W.frozen? ⟨B, k, none⟩ = false := by unfold World.frozen?; rw [HBK.out]; have := (Array.getElem?_eq_some_iff.1 QK.out).1; rw [HFR.out]; simp; omega
    have hBl : B < W.heap.size := lt_of_block HBK.out
    obtain ⟨z, r4⟩ : ∃ z : Int, bits BinOp.xor IntKind.u8 x y = z := ⟨_, rfl⟩
    have q0 : W.cell? ⟨B, k, none⟩ = some (.int .u8 x) := (block_cell HBK.out k).trans QK.out
    have r0 : IntKind.i64.wrap a = a := wrap_small a ha.1 (by omega)
    have r1 : (n = 0) = False := by simp [h0]
    have r2 : a.tmod (n : Int) = (k : Int) := KK.out
    have r3 : (n ≤ k) = False := by simp; omega
    clear hk hx ha
    go_upto_region 4 with fail
    obtain ⟨W2, hW2⟩ : ∃ W2, W.setCell ⟨B, k, none⟩ (.int .u8 z) = W2 := ⟨_, rfl⟩
    rw [hW2]
    have W2B : Hid (Below w.heap.size w W2) := Lib.hid (by rw [← hW2]; exact bset WB.out HWB.out _)
    have HC : Hid (∀ j, j < n → ∃ v, W2.cell? ⟨B, j, none⟩ = some (.int .u8 v)) := Lib.hid (fun j hj => by
      have e := block_cell (show W2.heap[B]? = _ by rw [← hW2]; exact block_setCell HBK.out _) j
      rw [e, Array.getElem?_setIfInBounds]
      by_cases h : k = j
      · subst h
        have := (Array.getElem?_eq_some_iff.1 QK.out).1
        simp [this]
      · rw [if_neg h]; exact ⟨_, HCE.out j hj⟩)
    clear hW2 q0 FZ hBl r0 r1 r2 r3 r4
    obtain ⟨t, hts, cv⟩ := conv14_some W2 B n cap HC.out
    have HTS := Lib.hid hts
    clear hts
    go_wp2
    go_ret
    exact ⟨⟨t, rfl, by rw [HTS.out, HN.out]⟩, W2B.out⟩
end Go.Proofs.YtoafjbillcooiaaGreat
namespace Go.Proofs.YtoafjbillcooiaaGreat
open Go.RowKit
set_option linter.unusedSimpArgs false
set_option linter.unusedVariables false
theorem txts_news {w : World} {ad : Addr} {l : List ByteArray} (h : Txts w (some ad) l) : ∀ j u, (l.map Value.string)[j]? = some u → w.cell? (ad.add j) = some u := by
  intro j u hu
  have hj : j < l.length := by have := (List.getElem?_eq_some_iff.1 hu).1; simpa using this
  rw [List.getElem?_map, List.getElem?_eq_getElem hj] at hu
  cases hu
  obtain ⟨b, off, e, hc⟩ := h j hj
  cases e
  rw [tth_eq l j hj] at hc
  by_cases hj0 : j = 0
  · subst hj0; simpa [Addr.add] using hc
  · simpa [Addr.add, hj0] using hc
theorem one_txts (l : List ByteArray) : ∀ u ∈ l.map Value.string, u.oneCell' = true := by
  intro u hu
  obtain ⟨x, _, rfl⟩ := List.mem_map.1 hu
  rfl
theorem len_appT {α : Type} (a b : List α) : len (a ++ b) = len a + len b := by rw [len_eq, List.length_append]; rfl
theorem txts_take {w : World} {a : Option Addr} {l : List ByteArray} (h : Txts w a l) (m : Nat) : Txts w a (l.take m) := fun i hi => by
  have h2 : i < (l.take m).length := hi
  have h3 : i < m ∧ i < l.length := by rw [List.length_take] at h2; omega
  obtain ⟨b, off, e1, e2⟩ := h i h3.2
  refine ⟨b, off, e1, ?_⟩
  rw [e2, tth_eq l i h3.2, tth_eq _ i h2, List.getElem_take]
theorem own_form {base n c : Nat} {w : World} {a : Option Addr} {e : TypeId} {xs : List Value} (h : w.ownsRow base e 1 (.slice a n c) n xs) (h0 : 0 < n) : ∃ g, a = some ⟨g, 0, none⟩ ∧ base ≤ g := by
  rcases h.2 with ⟨hz, h9⟩ | ⟨g, cap, cur, hv, hg, _⟩
  · omega
  · injection hv with e1 e2 e3
    exact ⟨g, e1, hg⟩
def Apart (u v : Value) : Prop := ∀ k, u.ownBlock = some k → v.ownBlock ≠ some k
theorem Apart.symm {u v : Value} (h : Apart u v) : Apart v u := fun k h1 h2 => h k h2 h1
theorem Apart.keep {w w1 : World} {u v : Value} {base e size n : Nat} {xs : List Value} (h : Apart u v) (ho : w.ownsRow base e size u n xs) (hg : w.grownBy w1 v.ownBlock) : w1.ownsRow base e size u n xs :=
  ho.kept hg (by
    cases hp : Value.ownBlock u with
    | none => exact .inl rfl
    | some k => exact .inr (fun e => h k hp e.symm))
set_option maxRecDepth 100000 in
theorem slice_toT {n c k : Nat} (b0 : Option Addr) (hk : k ≤ c) (W : World) : (Instr.slice 22 (.slice b0 n c) none (some (.int .i64 (k : Int))) none).run Tryz.prog W = .ok (.slice b0 k c) W := by
  have hsz : (sizeOf (Tryz.prog.elem 22)).run Tryz.prog W = .ok 1 W := by kernel_rfl
  rw [run_slice_h (P := Tryz.prog) W 22 b0 n c Tryz.underlying22 .i64 (k : Int) (by omega) (by omega), hsz]
  simp only [Result.andThen, sliced, Int.toNat_natCast, Nat.sub_zero, Nat.zero_mul]
  have e : (b0.map (·.add 0)) = b0 := by cases b0 <;> simp [Addr.add]
  rw [e]
  split <;> rfl
theorem own_empty {w : World} {b base : Nat} (hb : w.heap[b]? = some (.cells #[] 9 (0, 0))) (hB : base ≤ b) : w.ownsRow base 9 1 (.slice (some ⟨b, 0, none⟩) 0 0) 0 [] :=
  ⟨rfl, .inr ⟨b, 0, #[], rfl, hB, hb, Nat.le_refl _, Nat.zero_le _, rfl, rfl⟩⟩
theorem wp_append_fresh {w : World} {o : Oper} {a : Act} {K : Act → World → Prop} {Q : Exit → Act → World → Prop} (s x : Operand)
    (ho : o.op = .call { callee := .builtin .append, args := #[s, x], argTypes := #[22, 22] })
    (base b : Nat) (l : List ByteArray) (ad : Option Addr) (c : Nat) (hb : w.heap[b]? = some (.cells #[] 9 (0, 0))) (hB : base ≤ b) (hs : a.eval s = .slice (some ⟨b, 0, none⟩) 0 0)
    (hx : a.eval x = .slice ad (len l) c) (hl : Txts w ad l) (hc : ad = none → c = 0) (hlen : len l ≤ 100000)
    (h : ∀ v' w', w'.ownsRow base 9 1 v' (len l) (l.map Value.string) → Below w.heap.size w w' → K (a.put o.dst v') w') : o.wp Tryz.prog a w K Q := by
  obtain ⟨i0, hi, hz0, hz1, hz2⟩ := info_parts info_str
  have hown := own_empty hb hB
  have hbl := lt_of_block hb
  cases ad with
  | none =>
    obtain rfl : l = [] := by
      cases l with
      | nil => rfl
      | cons y l => obtain ⟨b, off, e, _⟩ := hl 0 (by simp [len]); cases e
    have hx' : a.eval x = .slice none 0 0 := by rw [hx, hc rfl]; rfl
    have hrun := run_append_owned_none (P := Tryz.prog) (w := w) base 22 o.type 9 i0 1 Tryz.underlying22 hi _ _ _ hown
    unfold Oper.wp
    simp [execOp, ho, resolve, invoke, builtin, hs, hx', hrun, Result.andThen]
    exact h _ w hown (Below.refl _ _)
  | some ad =>
    by_cases h0 : len l = 0
    · obtain rfl : l = [] := List.eq_nil_of_length_eq_zero (by rw [← len_eq]; exact h0)
      have hx' : a.eval x = .slice (some ad) 0 c := hx
      have hrun := run_append_room_cells (P := Tryz.prog) w 22 o.type 9 i0 Tryz.underlying22 hi b 0 0 0 ad 0 c [] (by simp) (by intro j u hj; cases hj) (by intro u hu; cases hu) (Nat.le_refl _) (by intro j hj; cases hj) (by intro j hj; cases hj)
      unfold Oper.wp
      simp [execOp, ho, resolve, invoke, builtin, hs, hx', hrun, Result.andThen]
      exact h _ _ hown (Below.refl _ _)
    · obtain ⟨v', w', hrun, r1, r2⟩ := run_append_arg_grows (P := Tryz.prog) w 22 o.type 9 i0 (.string ⟨#[]⟩) 1 16 Tryz.underlying22 hi hz0 hz1 hz2 rfl (by decide) ⟨b, 0, none⟩ 0 0 [] rfl (by intro j u hj; cases hj) ad (len l) c (l.map Value.string) (by simp [len]) (txts_news hl) (by omega) (by unfold maxLen; omega) (by omega)
      unfold Oper.wp
      simp [execOp, ho, resolve, invoke, builtin, hs, hx, hrun, Result.andThen]
      refine h _ _ ?_ (grownBy_below (Below.refl _ _) r2 (fun k hk => by cases hk))
      have e : 0 + len l = len l := Nat.zero_add _
      rw [e, List.nil_append] at r1
      obtain ⟨q1, q2⟩ := r1
      refine ⟨q1, q2.imp id ?_⟩
      rintro ⟨g, cap, cur, e1, e2, e3⟩
      exact ⟨g, cap, cur, e1, by omega, e3⟩
end Go.Proofs.YtoafjbillcooiaaGreat
namespace Go.Proofs.YtoafjbillcooiaaGreat
open Go.RowKit
set_option linter.unusedSimpArgs false
set_option linter.unusedVariables false
def TxN (n : Nat) (v : Value) (w : World) : Prop := ∃ a c, v = .slice a n c ∧ n ≤ c ∧ (a = none → c = 0) ∧ ∀ i, i < n → ∃ b off s cs fr, a = some ⟨b, off, none⟩ ∧ w.heap[b]? = some (.cells cs 9 fr) ∧ cs[off + i]? = some (.string s)
theorem TxN.own {L : List ByteArray} {v : Value} {w : World} {base n m : Nat} (h : w.ownsRow base 9 1 v m (L.map Value.string)) (hn : len L = n) : TxN n v w := by
  have hm : m = n := by
    have := h.1
    rw [List.length_map, ← len_eq, hn] at this
    omega
  subst hm
  rcases h.2 with ⟨rfl, rfl⟩ | ⟨g, cap, cur, rfl, hg, hh, h3, h4, h5, h6⟩
  · exact ⟨none, 0, rfl, Nat.le_refl _, fun _ => rfl, fun i hi => absurd hi (by omega)⟩
  · refine ⟨_, cap, rfl, h3, (fun e => by cases e), fun i hi => ⟨g, 0, tth L i, cur, _, rfl, hh, ?_⟩⟩
    rw [Nat.zero_add, ← Array.getElem?_toList]
    have e : (cur.toList.take (m * 1))[i]? = cur.toList[i]? := List.getElem?_take_of_lt (by omega)
    rw [← e, h6, List.getElem?_map, List.getElem?_eq_getElem (by rw [← len_eq, hn]; exact hi), tth_eq]
    rfl
theorem TxN.texts {n : Nat} {v : Value} {w : World} (h : TxN n v w) : ∃ L, len L = n ∧ TextsAre L v w := by
  obtain ⟨a, c, h1, h2, h3, h4⟩ := h
  have h' : ∀ i, ∃ s, i < n → ∃ b off, a = some ⟨b, off, none⟩ ∧ w.cell? ⟨b, off + i, none⟩ = some (.string s) := fun i => by
    by_cases hi : i < n
    · obtain ⟨b, off, s, cs, fr, e1, e2, e3⟩ := h4 i hi; exact ⟨s, fun _ => ⟨b, off, e1, (block_cell e2 _).trans e3⟩⟩
    · exact ⟨⟨#[]⟩, fun h => absurd h hi⟩
  let f : Nat → ByteArray := fun i => Classical.choose (h' i)
  have hf : ∀ i, i < n → ∃ b off, a = some ⟨b, off, none⟩ ∧ w.cell? ⟨b, off + i, none⟩ = some (.string (f i)) := fun i => Classical.choose_spec (h' i)
  refine ⟨chL f n, chL_len f n, a, c, by rw [chL_len]; exact h1, fun i hi => ?_, by rw [chL_len]; exact h2, h3⟩
  rw [chL_len] at hi
  rw [chL_at f n i hi]
  exact hf i hi
theorem TxN.rows {n : Nat} {v : Value} {w w' : World} (h : TxN n v w) (hb : ∀ (b : Nat) (cs : Array Value) (fr : Nat × Nat), w.heap[b]? = some (Obj.cells cs 9 fr) → w'.heap[b]? = some (Obj.cells cs 9 fr)) : TxN n v w' := by
  obtain ⟨a, c, h1, h2, h3, h4⟩ := h
  refine ⟨a, c, h1, h2, h3, fun i hi => ?_⟩
  obtain ⟨b, off, s, cs, fr, e1, e2, e3⟩ := h4 i hi
  exact ⟨b, off, s, cs, fr, e1, hb b cs fr e2, e3⟩
theorem TxN.below {n : Nat} {v : Value} {w w' : World} (h : TxN n v w) (hb : Below w.heap.size w w') : TxN n v w' := h.rows fun b cs fr e => (hb.block b (lt_of_block e)).trans e
theorem TxN.set {n g k : Nat} {v : Value} {w : World} {cs : Array Value} {ty : TypeId} {fr : Nat × Nat} (h : TxN n v w) (hg : w.heap[g]? = some (.cells cs ty fr)) (t : ByteArray) : TxN n v (w.setCell ⟨g, k, none⟩ (.string t)) := by
  obtain ⟨a, c, h1, h2, h3, h4⟩ := h
  refine ⟨a, c, h1, h2, h3, fun i hi => ?_⟩
  obtain ⟨b, off, s, cs1, fr1, e1, e2, e3⟩ := h4 i hi
  by_cases hb : b = g
  · subst hb
    by_cases hk : k = off + i
    · refine ⟨b, off, t, _, _, e1, block_setCell e2 _, ?_⟩
      rw [Array.getElem?_setIfInBounds, if_pos hk, if_pos (by rw [hk]; exact (Array.getElem?_eq_some_iff.1 e3).1)]
    · refine ⟨b, off, s, _, _, e1, block_setCell e2 _, ?_⟩
      rw [Array.getElem?_setIfInBounds, if_neg hk]
      exact e3
  · exact ⟨b, off, s, cs1, fr1, e1, block_setCell_ne e2 hb _, e3⟩
theorem TxN.setI {n g k : Nat} {v : Value} {w : World} {cs : Array Value} {ty : TypeId} {fr : Nat × Nat} (h : TxN n v w) (hg : w.heap[g]? = some (.cells cs ty fr)) (hk : ∀ s : ByteArray, cs[k]? ≠ some (.string s)) (u : Value) : TxN n v (w.setCell ⟨g, k, none⟩ u) := by
  obtain ⟨a, c, h1, h2, h3, h4⟩ := h
  refine ⟨a, c, h1, h2, h3, fun i hi => ?_⟩
  obtain ⟨b, off, s, cs1, fr1, e1, e2, e3⟩ := h4 i hi
  by_cases hb : b = g
  · subst hb
    have hne : ¬ k = off + i := fun e => by
      have h9 := block_cell hg (off + i)
      rw [block_cell e2 (off + i), e3, ← e] at h9
      exact hk s h9.symm
    refine ⟨b, off, s, _, _, e1, block_setCell e2 _, ?_⟩
    rw [Array.getElem?_setIfInBounds, if_neg hne]
    exact e3
  · exact ⟨b, off, s, cs1, fr1, e1, block_setCell_ne e2 hb _, e3⟩
theorem TxN.to {n m c : Nat} {a : Option Addr} {w : World} (h : TxN n (.slice a n c) w) (hm : m ≤ n) : TxN m (.slice a m c) w := by
  obtain ⟨a', c', h1, h2, h3, h4⟩ := h
  injection h1 with e1 e2 e3
  subst e1
  subst e3
  exact ⟨a, c, rfl, Nat.le_trans hm h2, h3, fun i hi => h4 i (Nat.lt_of_lt_of_le hi hm)⟩
theorem own_heap {w : World} {base e g n c m : Nat} {xs : List Value} (h : w.ownsRow base e 1 (.slice (some ⟨g, 0, none⟩) n c) m xs) : ∃ cur, w.heap[g]? = some (.cells cur e (0, 0)) ∧ base ≤ g ∧ n ≤ cur.size ∧ c ≤ cur.size ∧ n ≤ c := by
  rcases h.2 with ⟨hz, _⟩ | ⟨g', cap, cur, hv, hg, hh, h3, h4, h5, h6⟩
  · injection hz with e1 e2 e3
    cases e1
  · injection hv with e1 e2 e3
    injection e1 with e1
    injection e1 with e1 _ _
    subst e1
    exact ⟨cur, hh, hg, by omega, by omega, by omega⟩
theorem u64_form (z : Int) : ∃ n : Nat, n < 18446744073709551616 ∧ IntKind.u64.wrap z = (n : Int) := by
  refine ⟨(z % 18446744073709551616).toNat, by omega, ?_⟩
  rw [show IntKind.u64.wrap z = z % 18446744073709551616 by simp [IntKind.wrap, IntKind.bits, IntKind.signed]]
  omega
theorem wpList_append_run {w w' : World} {ops : Array Oper} {rest : List Oper} {o : Oper} {a : Act} {Q : Exit → Act → World → Prop} (hgd : o.guard = none) (s x : Operand)
    (ho : o.op = .call { callee := .builtin .append, args := #[s, x], argTypes := #[22, 22] })
    (v u v' : Value) (hs : a.eval s = v) (hx : a.eval x = u) (hrun : (Builtin.append_ #[22, 22] o.type #[v, u]).run Tryz.prog w = .ok v' w')
    (h : wpList Tryz.prog ops Q rest (a.put o.dst v') w') : wpList Tryz.prog ops Q (o :: rest) a w := by
  refine wpList_plain hgd fun K hK => ?_
  unfold Oper.wp
  simp [execOp, ho, resolve, invoke, builtin, hs, hx, hrun, Result.andThen]
  exact hK _ _ h
theorem TxN.keepB {n rb : Nat} {v : Value} {w w' : World} {cs : Array Value} {ty : TypeId} {fr : Nat × Nat} (h : TxN n v w) (hr : w.heap[rb]? = some (.cells cs ty fr)) (hk : ∀ (k : Nat) (s : ByteArray), cs[k]? ≠ some (.string s)) (hE : ExtB (some rb) w w') : TxN n v w' := by
  obtain ⟨a, c, h1, h2, h3, h4⟩ := h
  refine ⟨a, c, h1, h2, h3, fun i hi => ?_⟩
  obtain ⟨b, off, s, cs1, fr1, e1, e2, e3⟩ := h4 i hi
  refine ⟨b, off, s, cs1, fr1, e1, extB_block hE (fun e => ?_) e2, e3⟩
  have e : b = rb := by injection e
  subst e
  have h9 := block_cell hr (off + i)
  rw [block_cell e2 (off + i), e3] at h9
  exact hk _ _ h9.symm
theorem sigz (k : Nat) (s : ByteArray) : (#[Value.int .u64 0, .slice none 0 0, .slice none 0 0] : Array Value)[k]? ≠ some (.string s) := by
  match k with
  | 0 => simp
  | 1 => simp
  | 2 => simp
  | k + 3 => simp
structure SpR (ix : Int) (n1 n2 : Nat) (wa pa : Option Addr) (wc pc wt sb pb rb qb : Nat) (w : World) (u8 u9 : Value) (wx : World) : Prop where
  ws : ∃ n, n ≤ 1000000 ∧ TxN n u8 wx
  ps : ∃ n, n ≤ 1000000 ∧ TxN n u9 wx
  s : ∃ jx : Int, wx.heap[sb]? = some (.cells #[.int .u64 jx, .slice wa n1 wc, .slice pa n2 pc] 54 (0, 0))
  p : ∃ (rt : ByteArray) (f L K : Nat), f < 18446744073709551616 ∧ wx.heap[pb]? = some (.cells #[.string rt, .int .u64 (wt : Nat), .int .u64 (f : Nat), .int .u64 (L : Nat), .int .u64 (K : Nat)] 62 (0, 0))
  r : wx.heap[rb]? = some (.cells #[.int .u64 0, .slice none 0 0, .slice none 0 0] 54 (0, 0))
  q : wx.heap[qb]? = some (.cells #[.string ⟨#[]⟩, .int .u64 0, .int .u64 0, .int .u64 0, .int .u64 0] 62 (0, 0))
  b : Below w.heap.size w wx
theorem SpR.below {ix : Int} {n1 n2 : Nat} {wa pa : Option Addr} {wc pc wt sb pb rb qb : Nat} {w : World} {u8 u9 : Value} {wx : World} (h : SpR ix n1 n2 wa pa wc pc wt sb pb rb qb w u8 u9 wx) {wy : World} (hl : w.heap.size ≤ wx.heap.size) (hb9 : Below wx.heap.size wx wy) : SpR ix n1 n2 wa pa wc pc wt sb pb rb qb w u8 u9 wy := by
  obtain ⟨⟨n, a1, a2⟩, ⟨m, b1, b2⟩, ⟨jx, hs⟩, ⟨rt, f, L, K, hf, hp⟩, hr, hq, hb⟩ := h
  exact ⟨⟨n, a1, a2.below hb9⟩, ⟨m, b1, b2.below hb9⟩, ⟨jx, (hb9.block _ (lt_of_block hs)).trans hs⟩, ⟨rt, f, L, K, hf, (hb9.block _ (lt_of_block hp)).trans hp⟩, (hb9.block _ (lt_of_block hr)).trans hr, (hb9.block _ (lt_of_block hq)).trans hq, bnext hb hb9⟩
theorem SpR.setS {ix : Int} {n1 n2 : Nat} {wa pa : Option Addr} {wc pc wt sb pb rb qb : Nat} {w : World} {u8 u9 : Value} {wx : World} (h : SpR ix n1 n2 wa pa wc pc wt sb pb rb qb w u8 u9 wx) (hl : w.heap.size ≤ sb ∧ sb < pb ∧ pb < rb ∧ rb < qb) {g k : Nat} {cs : Array Value} {ty : TypeId} {fr : Nat × Nat} (hg : wx.heap[g]? = some (.cells cs ty fr)) (hgq : qb < g) (t : ByteArray) : SpR ix n1 n2 wa pa wc pc wt sb pb rb qb w u8 u9 (wx.setCell ⟨g, k, none⟩ (.string t)) := by
  obtain ⟨⟨n, a1, a2⟩, ⟨m, b1, b2⟩, ⟨jx, hs⟩, ⟨rt, f, L, K, hf, hp⟩, hr, hq, hb⟩ := h
  exact ⟨⟨n, a1, a2.set hg t⟩, ⟨m, b1, b2.set hg t⟩, ⟨jx, block_setCell_ne hs (by show ¬ (sb = g); omega) _⟩, ⟨rt, f, L, K, hf, block_setCell_ne hp (by show ¬ (pb = g); omega) _⟩, block_setCell_ne hr (by show ¬ (rb = g); omega) _, block_setCell_ne hq (by show ¬ (qb = g); omega) _, bset hb (by show w.heap.size ≤ g; omega) _⟩
theorem SpR.set0 {ix : Int} {n1 n2 : Nat} {wa pa : Option Addr} {wc pc wt sb pb rb qb : Nat} {w : World} {u8 u9 : Value} {wx : World} (h : SpR ix n1 n2 wa pa wc pc wt sb pb rb qb w u8 u9 wx) (hl : w.heap.size ≤ sb ∧ sb < pb ∧ pb < rb ∧ rb < qb) (z : Int) : SpR ix n1 n2 wa pa wc pc wt sb pb rb qb w u8 u9 (wx.setCell ⟨sb, 0, none⟩ (.int .u64 z)) := by
  obtain ⟨⟨n, a1, a2⟩, ⟨m, b1, b2⟩, ⟨jx, hs⟩, ⟨rt, f, L, K, hf, hp⟩, hr, hq, hb⟩ := h
  exact ⟨⟨n, a1, a2.setI hs (by simp) _⟩, ⟨m, b1, b2.setI hs (by simp) _⟩, ⟨z, block_setCell hs _⟩, ⟨rt, f, L, K, hf, block_setCell_ne hp (by show ¬ (pb = sb); omega) _⟩, block_setCell_ne hr (by show ¬ (rb = sb); omega) _, block_setCell_ne hq (by show ¬ (qb = sb); omega) _, bset hb hl.1 _⟩
theorem SpR.setR {ix : Int} {n1 n2 : Nat} {wa pa : Option Addr} {wc pc wt sb pb rb qb : Nat} {w : World} {u8 u9 : Value} {wx : World} (h : SpR ix n1 n2 wa pa wc pc wt sb pb rb qb w u8 u9 wx) (hl : w.heap.size ≤ sb ∧ sb < pb ∧ pb < rb ∧ rb < qb) (t : ByteArray) : SpR ix n1 n2 wa pa wc pc wt sb pb rb qb w u8 u9 (wx.setCell ⟨pb, 0, none⟩ (.string t)) := by
  obtain ⟨⟨n, a1, a2⟩, ⟨m, b1, b2⟩, ⟨jx, hs⟩, ⟨rt, f, L, K, hf, hp⟩, hr, hq, hb⟩ := h
  exact ⟨⟨n, a1, a2.set hp t⟩, ⟨m, b1, b2.set hp t⟩, ⟨jx, block_setCell_ne hs (by show ¬ (sb = pb); omega) _⟩, ⟨t, f, L, K, hf, block_setCell hp _⟩, block_setCell_ne hr (by show ¬ (rb = pb); omega) _, block_setCell_ne hq (by show ¬ (qb = pb); omega) _, bset hb (by show w.heap.size ≤ pb; omega) _⟩
theorem SpR.setF {ix : Int} {n1 n2 : Nat} {wa pa : Option Addr} {wc pc wt sb pb rb qb : Nat} {w : World} {u8 u9 : Value} {wx : World} (h : SpR ix n1 n2 wa pa wc pc wt sb pb rb qb w u8 u9 wx) (hl : w.heap.size ≤ sb ∧ sb < pb ∧ pb < rb ∧ rb < qb) (z : Nat) (hz : z < 18446744073709551616) : SpR ix n1 n2 wa pa wc pc wt sb pb rb qb w u8 u9 (wx.setCell ⟨pb, 2, none⟩ (.int .u64 (z : Nat))) := by
  obtain ⟨⟨n, a1, a2⟩, ⟨m, b1, b2⟩, ⟨jx, hs⟩, ⟨rt, f, L, K, hf, hp⟩, hr, hq, hb⟩ := h
  exact ⟨⟨n, a1, a2.setI hp (by simp) _⟩, ⟨m, b1, b2.setI hp (by simp) _⟩, ⟨jx, block_setCell_ne hs (by show ¬ (sb = pb); omega) _⟩, ⟨rt, z, L, K, hz, block_setCell hp _⟩, block_setCell_ne hr (by show ¬ (rb = pb); omega) _, block_setCell_ne hq (by show ¬ (qb = pb); omega) _, bset hb (by show w.heap.size ≤ pb; omega) _⟩
theorem SpR.setL {ix : Int} {n1 n2 : Nat} {wa pa : Option Addr} {wc pc wt sb pb rb qb : Nat} {w : World} {u8 u9 : Value} {wx : World} (h : SpR ix n1 n2 wa pa wc pc wt sb pb rb qb w u8 u9 wx) (hl : w.heap.size ≤ sb ∧ sb < pb ∧ pb < rb ∧ rb < qb) (z : Nat)  : SpR ix n1 n2 wa pa wc pc wt sb pb rb qb w u8 u9 (wx.setCell ⟨pb, 3, none⟩ (.int .u64 (z : Nat))) := by
  obtain ⟨⟨n, a1, a2⟩, ⟨m, b1, b2⟩, ⟨jx, hs⟩, ⟨rt, f, L, K, hf, hp⟩, hr, hq, hb⟩ := h
  exact ⟨⟨n, a1, a2.setI hp (by simp) _⟩, ⟨m, b1, b2.setI hp (by simp) _⟩, ⟨jx, block_setCell_ne hs (by show ¬ (sb = pb); omega) _⟩, ⟨rt, f, z, K, hf, block_setCell hp _⟩, block_setCell_ne hr (by show ¬ (rb = pb); omega) _, block_setCell_ne hq (by show ¬ (qb = pb); omega) _, bset hb (by show w.heap.size ≤ pb; omega) _⟩
theorem SpR.setK {ix : Int} {n1 n2 : Nat} {wa pa : Option Addr} {wc pc wt sb pb rb qb : Nat} {w : World} {u8 u9 : Value} {wx : World} (h : SpR ix n1 n2 wa pa wc pc wt sb pb rb qb w u8 u9 wx) (hl : w.heap.size ≤ sb ∧ sb < pb ∧ pb < rb ∧ rb < qb) (z : Nat)  : SpR ix n1 n2 wa pa wc pc wt sb pb rb qb w u8 u9 (wx.setCell ⟨pb, 4, none⟩ (.int .u64 (z : Nat))) := by
  obtain ⟨⟨n, a1, a2⟩, ⟨m, b1, b2⟩, ⟨jx, hs⟩, ⟨rt, f, L, K, hf, hp⟩, hr, hq, hb⟩ := h
  exact ⟨⟨n, a1, a2.setI hp (by simp) _⟩, ⟨m, b1, b2.setI hp (by simp) _⟩, ⟨jx, block_setCell_ne hs (by show ¬ (sb = pb); omega) _⟩, ⟨rt, f, L, z, hf, block_setCell hp _⟩, block_setCell_ne hr (by show ¬ (rb = pb); omega) _, block_setCell_ne hq (by show ¬ (qb = pb); omega) _, bset hb (by show w.heap.size ≤ pb; omega) _⟩
theorem SpR.w8 {ix : Int} {n1 n2 : Nat} {wa pa : Option Addr} {wc pc wt sb pb rb qb : Nat} {w : World} {u8 u9 : Value} {wx : World} (h : SpR ix n1 n2 wa pa wc pc wt sb pb rb qb w u8 u9 wx) {v : Value} {k : Nat} (hk : k ≤ 1000000) (hv : TxN k v wx) : SpR ix n1 n2 wa pa wc pc wt sb pb rb qb w v u9 wx := ⟨⟨k, hk, hv⟩, h.ps, h.s, h.p, h.r, h.q, h.b⟩
theorem SpR.w9 {ix : Int} {n1 n2 : Nat} {wa pa : Option Addr} {wc pc wt sb pb rb qb : Nat} {w : World} {u8 u9 : Value} {wx : World} (h : SpR ix n1 n2 wa pa wc pc wt sb pb rb qb w u8 u9 wx) {v : Value} {k : Nat} (hk : k ≤ 1000000) (hv : TxN k v wx) : SpR ix n1 n2 wa pa wc pc wt sb pb rb qb w u8 v wx := ⟨h.ws, ⟨k, hk, hv⟩, h.s, h.p, h.r, h.q, h.b⟩
def SpIs (wt : Nat) (w : World) (e : Ending) (w' : World) : Prop := ∃ (ix : Int) (rt : ByteArray) (f L K n m : Nat) (v p : Value), e = .returned (.tuple #[.agg #[.int .u64 ix, v, p], .agg #[.string rt, .int .u64 (wt : Nat), .int .u64 (f : Nat), .int .u64 (L : Nat), .int .u64 (K : Nat)]]) ∧ TxN n v w' ∧ TxN m p w' ∧ n ≤ 1000000 ∧ m ≤ 1000000 ∧ f < 18446744073709551616 ∧ Below w.heap.size w w'
set_option maxRecDepth 100000 in
set_option maxHeartbeats 8000000 in
theorem spoilt14_any (ix : Int) (ws ps : List ByteArray) (wa pa : Option Addr) (wc pc n1 n2 : Nat) (root : ByteArray) (wt f L K x a y : Nat) (w : World) (htw : Txts w wa ws) (htp : Txts w pa ps) (hwc : wa = none → wc = 0) (hpc : pa = none → pc = 0) (h1 : len ws = n1) (h2 : len ps = n2) (hn : 0 < n1 ∧ n1 ≤ 1000 ∧ n2 ≤ 1000) (h32 : ∀ i, i < n1 → (tth ws i).size = 32) (hps : ∀ i, i < n2 → (tth ps i).size ≤ 1000) (hroot : root.size = 32) (hf : f < 18446744073709551616) (hx : x ≤ 255) (ha : a ≤ 255) (hy : y ≤ 255) :
    Calls Tryz.prog 25 #[.agg #[.int .u64 ix, .slice wa n1 wc, .slice pa n2 pc], .agg #[.string root, .int .u64 (wt : Nat), .int .u64 (f : Nat), .int .u64 (L : Nat), .int .u64 (K : Nat)], .agg #[.int .u8 (x : Nat), .int .u8 (a : Nat), .int .u8 (y : Nat)]] w (SpIs wt w) := by
  have HTX := Lib.hid (show Txts w wa ws ∧ Txts w pa ps ∧ (wa = none → wc = 0) ∧ (pa = none → pc = 0) from ⟨htw, htp, hwc, hpc⟩)
  have HN := Lib.hid (show len ws = n1 ∧ len ps = n2 ∧ 0 < n1 ∧ n1 ≤ 1000 ∧ n2 ≤ 1000 from ⟨h1, h2, hn⟩)
  have H32 := Lib.hid h32
  have HPS := Lib.hid hps
  have HRT := Lib.hid hroot
  have HXX := Lib.hid (show f < 18446744073709551616 ∧ x ≤ 255 ∧ a ≤ 255 ∧ y ≤ 255 from ⟨hf, hx, ha, hy⟩)
  clear htw htp hwc hpc h1 h2 hn h32 hps hroot hf hx ha hy
  go_enter Tryz.func25, Tryz.ntmps25
  obtain ⟨sb, hsb⟩ : ∃ sb, w.heap.size = sb := ⟨_, rfl⟩
  go_upto_region 1 with fail
  obtain ⟨BW, hBW0⟩ : ∃ BW, sb + 5 = BW := ⟨_, rfl⟩
  obtain ⟨V, hV⟩ : ∃ V, ((((w.alloc (.cells #[.int .u64 ix, .slice wa n1 wc, .slice pa n2 pc] 54)).alloc (.cells #[.string root, .int .u64 (wt : Nat), .int .u64 (f : Nat), .int .u64 (L : Nat), .int .u64 (K : Nat)] 62)).alloc (.cells #[.int .u8 (x : Nat), .int .u8 (a : Nat), .int .u8 (y : Nat)] 52)).alloc (.cells #[.int .u64 0, .slice none 0 0, .slice none 0 0] 54)).alloc (.cells #[.string ⟨#[]⟩, .int .u64 0, .int .u64 0, .int .u64 0, .int .u64 0] 62) = V := ⟨_, rfl⟩
  have HSB : Hid (V.heap[sb]? = some (.cells #[.int .u64 ix, .slice wa n1 wc, .slice pa n2 pc] 54 (0, 0))) := Lib.hid (by rw [← hV]; exact block_alloc (block_alloc (block_alloc (block_alloc (alloc_new_at _ hsb) _) _) _) _)
  have HPB : Hid (V.heap[sb + 1]? = some (.cells #[.string root, .int .u64 (wt : Nat), .int .u64 (f : Nat), .int .u64 (L : Nat), .int .u64 (K : Nat)] 62 (0, 0))) := Lib.hid (by rw [← hV]; exact block_alloc (block_alloc (block_alloc (alloc_new_at _ (by simp [hsb])) _) _) _)
  have HXB : Hid (V.heap[sb + 2]? = some (.cells #[.int .u8 (x : Nat), .int .u8 (a : Nat), .int .u8 (y : Nat)] 52 (0, 0))) := Lib.hid (by rw [← hV]; exact block_alloc (block_alloc (alloc_new_at _ (by simp [hsb])) _) _)
  have HR : Hid (V.heap[sb + 3]? = some (.cells #[.int .u64 0, .slice none 0 0, .slice none 0 0] 54 (0, 0))) := Lib.hid (by rw [← hV]; exact block_alloc (alloc_new_at _ (by simp [hsb])) _)
  have HQ : Hid (V.heap[sb + 4]? = some (.cells #[.string ⟨#[]⟩, .int .u64 0, .int .u64 0, .int .u64 0, .int .u64 0] 62 (0, 0))) := Lib.hid (by rw [← hV]; exact alloc_new_at _ (by simp [hsb]))
  have HBV : Hid (Below w.heap.size w V) := Lib.hid (by rw [← hV]; exact balloc (balloc (balloc (balloc (balloc (Below.refl _ _) _) _) _) _) _)
  have HVS : Hid (BW ≤ V.heap.size) := Lib.hid (by rw [← hV, ← hBW0, ← hsb]; simp)
  have HSBW : Hid (w.heap.size = sb ∧ sb + 5 = BW) := Lib.hid ⟨hsb, hBW0⟩
  have HBW : Hid (∀ wv, Below V.heap.size V wv → BW ≤ wv.heap.size) := Lib.hid (fun wv h => Nat.le_trans HVS.out h.size)
  rw [hV]
  clear hV hsb hBW0
  have c1 : V.cell? ⟨sb, 1, none⟩ = some (.slice wa n1 wc) := block_cell HSB.out 1
  have c2 : V.cell? ⟨sb, 2, none⟩ = some (.slice pa n2 pc) := block_cell HSB.out 2
  refine wp_region_tail 8 1000 (none) (phis [fun u w' => ∃ b, u = .slice (some ⟨b, 0, none⟩) 0 0 ∧ w'.heap[b]? = some (.cells #[] 9 (0, 0)) ∧ BW ≤ b, fun u _ => u = (.pointer (some ⟨sb, 1, none⟩)), fun u _ => u = (.slice wa n1 wc), fun u w' => w'.ownsRow BW 9 1 u (len ws) (ws.map Value.string), fun u w' => ∃ b, u = .slice (some ⟨b, 0, none⟩) 0 0 ∧ w'.heap[b]? = some (.cells #[] 9 (0, 0)) ∧ BW ≤ b, fun u _ => u = (.pointer (some ⟨sb, 2, none⟩)), fun u _ => u = (.slice pa n2 pc), fun u w' => w'.ownsRow BW 9 1 u (len ps) (ps.map Value.string)]) rfl (by kernel_rfl) (by kernel_rfl) (mono_of ⟨?m0, mono_eq, mono_eq, ?m3, ?m4, mono_eq, mono_eq, ?m7, trivial⟩) (steps_of 8 ⟨?s0, ?s1, ?s2, ?s3, ?s4, ?s5, ?s6, ?s7, trivial⟩) ?_
  case m0 =>
    exact ⟨fun u w1 w' h ⟨b, h1, hb, h9⟩ => ⟨b, h1, ext_block h hb, h9⟩, fun _ u w1 w' h ⟨b, h1, hb, h9⟩ => ⟨b, h1, extB_block h (by simp) hb, h9⟩⟩
  case m3 =>
    exact ⟨fun u w1 w' h hu => own_below hu h, fun hn => fun u w1 w' h hu => own_below hu (extB_none h)⟩
  case m4 =>
    exact ⟨fun u w1 w' h ⟨b, h1, hb, h9⟩ => ⟨b, h1, ext_block h hb, h9⟩, fun _ u w1 w' h ⟨b, h1, hb, h9⟩ => ⟨b, h1, extB_block h (by simp) hb, h9⟩⟩
  case m7 =>
    exact ⟨fun u w1 w' h hu => own_below hu h, fun hn => fun u w1 w' h hu => own_below hu (extB_none h)⟩
  case s0 =>
    refine step_wp (fun av wv hE hS hO hD => ⟨rfl, ?_⟩)
    exact wp_of_run (v := .slice (some ⟨wv.heap.size, 0, none⟩) 0 0) (w' := wv.alloc (.cells #[] 9)) (by simp [go_sem]) ⟨_, rfl, es_of_ext (balloc (Ext_refl _) _), wv.heap.size, rfl, heap_alloc_new _ _, HBW.out wv (of_drew hE)⟩
  case s1 =>
    refine qV (fun _ => rfl) rfl fun av wv hE hO hD => ?_
    simp [go_sem, qF av 3 (.pointer (some ⟨sb, 0, none⟩)) (hO.2.2 3 rfl)]
  case s2 =>
    refine qV (fun _ => rfl) rfl fun av wv hE hO hD => ?_
    simp [go_sem, qE (hD.1 rfl _ rfl), extB_cell hE (by simp) c1, extB_cell hE (by simp) c2]
  case s3 =>
    refine step_wp (fun av wv hE hS hO hD => ⟨rfl, ?_⟩)
    have d10 : (fun u w' => ∃ b, u = .slice (some ⟨b, 0, none⟩) 0 0 ∧ w'.heap[b]? = some (.cells #[] 9 (0, 0)) ∧ BW ≤ b) (av.eval (.tmp 10)) wv := hD.1 rfl _ rfl
    have d12 : av.eval (.tmp 12) = (.slice wa n1 wc) := hD.2.1 rfl _ rfl
    obtain ⟨b0, h0, hb0, hB0⟩ := d10
    refine wp_append_fresh _ _ rfl BW b0 ws wa wc hb0 hB0 h0 (by rw [HN.out.1]; exact d12) (HTX.out.1.below (bnext HBV.out (of_drew hE))) HTX.out.2.2.1 (by have := HN.out; omega) ?_
    intro v' w2 h1 h2
    exact ⟨_, rfl, es_of_ext h2, h1⟩
  case s4 =>
    refine step_wp (fun av wv hE hS hO hD => ⟨rfl, ?_⟩)
    exact wp_of_run (v := .slice (some ⟨wv.heap.size, 0, none⟩) 0 0) (w' := wv.alloc (.cells #[] 9)) (by simp [go_sem]) ⟨_, rfl, es_of_ext (balloc (Ext_refl _) _), wv.heap.size, rfl, heap_alloc_new _ _, HBW.out wv (of_drew hE)⟩
  case s5 =>
    refine qV (fun _ => rfl) rfl fun av wv hE hO hD => ?_
    simp [go_sem, qF av 3 (.pointer (some ⟨sb, 0, none⟩)) (hO.2.2 3 rfl)]
  case s6 =>
    refine qV (fun _ => rfl) rfl fun av wv hE hO hD => ?_
    simp [go_sem, qE (hD.1 rfl _ rfl), extB_cell hE (by simp) c1, extB_cell hE (by simp) c2]
  case s7 =>
    refine step_wp (fun av wv hE hS hO hD => ⟨rfl, ?_⟩)
    have d14 : (fun u w' => ∃ b, u = .slice (some ⟨b, 0, none⟩) 0 0 ∧ w'.heap[b]? = some (.cells #[] 9 (0, 0)) ∧ BW ≤ b) (av.eval (.tmp 14)) wv := hD.1 rfl _ rfl
    have d16 : av.eval (.tmp 16) = (.slice pa n2 pc) := hD.2.1 rfl _ rfl
    obtain ⟨b0, h0, hb0, hB0⟩ := d14
    refine wp_append_fresh _ _ rfl BW b0 ps pa pc hb0 hB0 h0 (by rw [HN.out.2.1]; exact d16) (HTX.out.2.1.below (bnext HBV.out (of_drew hE))) HTX.out.2.2.2 (by have := HN.out; omega) ?_
    intro v' w2 h1 h2
    exact ⟨_, rfl, es_of_ext h2, h1⟩
  intro a' w' hE hO hall
  have hA := act_of_outer (ds := [10, 11, 12, 13, 14, 15, 16, 17]) rfl hO (by kernel_rfl)
  obtain ⟨j0, j1, j2, j3, j4, j5, j6, j7, -⟩ := hall
  have e10 : (fun u w' => ∃ b, u = .slice (some ⟨b, 0, none⟩) 0 0 ∧ w'.heap[b]? = some (.cells #[] 9 (0, 0)) ∧ BW ≤ b) (a'.eval (.tmp 10)) w' := j0 _ rfl
  have e13 : (fun u w' => w'.ownsRow BW 9 1 u (len ws) (ws.map Value.string)) (a'.eval (.tmp 13)) w' := j3 _ rfl
  have e14 : (fun u w' => ∃ b, u = .slice (some ⟨b, 0, none⟩) 0 0 ∧ w'.heap[b]? = some (.cells #[] 9 (0, 0)) ∧ BW ≤ b) (a'.eval (.tmp 14)) w' := j4 _ rfl
  have e17 : (fun u w' => w'.ownsRow BW 9 1 u (len ps) (ps.map Value.string)) (a'.eval (.tmp 17)) w' := j7 _ rfl
  obtain ⟨v10, hv10⟩ : ∃ v, a'.eval (.tmp 10) = v := ⟨_, rfl⟩
  rw [hv10] at e10
  obtain ⟨v13, hv13⟩ : ∃ v, a'.eval (.tmp 13) = v := ⟨_, rfl⟩
  rw [hv13] at e13
  obtain ⟨v14, hv14⟩ : ∃ v, a'.eval (.tmp 14) = v := ⟨_, rfl⟩
  rw [hv14] at e14
  obtain ⟨v17, hv17⟩ : ∃ v, a'.eval (.tmp 17) = v := ⟨_, rfl⟩
  rw [hv17] at e17
  simp only [List.foldl_cons, List.foldl_nil, Act.put, List.setIfInBounds_toArray, List.set_cons_succ, List.set_cons_zero, hv10, qJ 11 (j1 _ rfl), qJ 12 (j2 _ rfl), hv13, hv14, qJ 15 (j5 _ rfl), qJ 16 (j6 _ rfl), hv17] at hA
  clear hO j0 j3 j4 j7 hv10 j1 j2 hv13 hv14 j5 j6 hv17
  subst hA
  have HB1 : Hid (Below V.heap.size V w') := Lib.hid (of_drew hE)
  have HO8 := Lib.hid e13
  have HO9 := Lib.hid e17
  clear hE e13 e17 c1 c2 e10 e14
  simp only [List.drop_succ_cons, List.drop_zero]
  obtain ⟨pb, hpb⟩ : ∃ pb, sb + 1 = pb := ⟨_, rfl⟩
  obtain ⟨xb, hxb⟩ : ∃ xb, pb + 1 = xb := ⟨_, rfl⟩
  obtain ⟨rb, hrb⟩ : ∃ rb, xb + 1 = rb := ⟨_, rfl⟩
  obtain ⟨qb, hqb⟩ : ∃ qb, rb + 1 = qb := ⟨_, rfl⟩
  obtain ⟨W, hW⟩ : ∃ W, w' = W := ⟨_, rfl⟩
  have o8 := HO8.out
  have o9 := HO9.out
  have HBW9 : Hid (Below w.heap.size w W) := Lib.hid (by rw [← hW]; exact bnext HBV.out HB1.out)
  have HSB9 : Hid (W.heap[sb]? = some (.cells #[.int .u64 ix, .slice wa n1 wc, .slice pa n2 pc] 54 (0, 0))) := Lib.hid (by rw [← hW]; exact (HB1.out.block _ (lt_of_block HSB.out)).trans HSB.out)
  have HPB9 : Hid (W.heap[pb]? = some (.cells #[.string root, .int .u64 (wt : Nat), .int .u64 (f : Nat), .int .u64 (L : Nat), .int .u64 (K : Nat)] 62 (0, 0))) := Lib.hid (by rw [← hW, ← hpb]; exact (HB1.out.block _ (lt_of_block HPB.out)).trans HPB.out)
  have HXB9 : Hid (W.heap[xb]? = some (.cells #[.int .u8 (x : Nat), .int .u8 (a : Nat), .int .u8 (y : Nat)] 52 (0, 0))) := Lib.hid (by rw [← hW, ← hxb, ← hpb]; exact (HB1.out.block _ (lt_of_block HXB.out)).trans HXB.out)
  have HR9 : Hid (W.heap[rb]? = some (.cells #[.int .u64 0, .slice none 0 0, .slice none 0 0] 54 (0, 0))) := Lib.hid (by rw [← hW, ← hrb, ← hxb, ← hpb]; exact (HB1.out.block _ (lt_of_block HR.out)).trans HR.out)
  have HQ9 : Hid (W.heap[qb]? = some (.cells #[.string ⟨#[]⟩, .int .u64 0, .int .u64 0, .int .u64 0, .int .u64 0] 62 (0, 0))) := Lib.hid (by rw [← hW, ← hqb, ← hrb, ← hxb, ← hpb]; exact (HB1.out.block _ (lt_of_block HQ.out)).trans HQ.out)
  have HLT : Hid (w.heap.size ≤ sb ∧ sb < pb ∧ pb < xb ∧ xb < rb ∧ rb < qb ∧ qb < BW) := Lib.hid (by have := HSBW.out; omega)
  have HBWW : Hid (BW ≤ W.heap.size) := Lib.hid (by rw [← hW]; exact HBW.out _ HB1.out)
  rw [HN.out.1] at o8
  rw [HN.out.2.1] at o9
  rw [hW] at o8 o9 ⊢
  rw [hpb, hxb, hrb, hqb]
  obtain ⟨a8, c8, rfl, ht8⟩ := own_txts o8
  obtain ⟨a9, c9, rfl, ht9⟩ := own_txts o9
  rw [HN.out.1] at o8 ⊢
  rw [HN.out.2.1] at o9 ⊢
  obtain ⟨g, rfl, hgb⟩ := own_form o8 HN.out.2.2.1
  have HO := Lib.hid o8
  have HP := Lib.hid o9
  have HT8 := Lib.hid ht8
  have HT9 := Lib.hid ht9
  have HTA8 : Hid (TxN n1 (.slice (some ⟨g, 0, none⟩) n1 c8) W) := Lib.hid (TxN.own (L := ws) o8 HN.out.1)
  have HTA9 : Hid (TxN n2 (.slice a9 n2 c9) W) := Lib.hid (TxN.own (L := ps) (o9) HN.out.2.1)
  have HGB := Lib.hid hgb
  clear hpb hxb hrb hqb hW o8 o9 ht8 ht9 hgb HSB HPB HXB HR HQ HO8 HO9 HVS HBW HB1 HBV HTX
  have H0 : Hid (SpR ix n1 n2 wa pa wc pc wt sb pb rb qb w (.slice (some ⟨g, 0, none⟩) n1 c8) (.slice a9 n2 c9) W) := Lib.hid ⟨⟨n1, by have := HN.out; omega, HTA8.out⟩, ⟨n2, by have := HN.out; omega, HTA9.out⟩, ⟨ix, HSB9.out⟩, ⟨root, f, L, K, HXX.out.1, HPB9.out⟩, HR9.out, HQ9.out, HBW9.out⟩
  have HLQ : Hid (w.heap.size ≤ sb ∧ sb < pb ∧ pb < rb ∧ rb < qb) := Lib.hid (by have := HLT.out; omega)
  have HWS : Hid (w.heap.size ≤ W.heap.size) := Lib.hid HBW9.out.size
  obtain ⟨q, hq⟩ : ∃ q, x % 12 = q := ⟨_, rfl⟩
  have k1 : Int.tmod ((x : Nat) : Int) 12 = (q : Int) := by rw [← hq]; exact (Int.ofNat_tmod x 12).symm
  have k2 : ((x : Nat) : Int) % 12 = (q : Int) := by omega
  have k5 : IntKind.u8.wrap ((q : Nat) : Int) = (q : Int) := IntWalk.u8_in _ (by omega)
  have HQ12 : Hid (q < 12) := Lib.hid (by omega)
  have x0 : W.cell? ⟨xb, 0, none⟩ = some (.int .u8 (x : Nat)) := block_cell HXB9.out 0
  clear hq
  go_upto_block 0 with fail
  clear x0 k1 k2 k5
  go_cut [8, 9] (fun u8 u9 wx => Hid (SpR ix n1 n2 wa pa wc pc wt sb pb rb qb w u8 u9 wx))
  case first =>
    have x1 : W.cell? ⟨xb, 1, none⟩ = some (.int .u8 (a : Nat)) := block_cell HXB9.out 1
    have x2 : W.cell? ⟨xb, 2, none⟩ = some (.int .u8 (y : Nat)) := block_cell HXB9.out 2
    have r0 : IntKind.i64.wrap ((a : Nat) : Int) = (a : Int) := IntWalk.i64_in _ (by have := HXX.out; omega)
    have ry : IntKind.u64.wrap ((y : Nat) : Int) = (y : Int) := IntWalk.u64_in _ (by have := HXX.out; omega)
    rcases (by have := HQ12.out; omega : q = 0 ∨ q = 1 ∨ q = 2 ∨ q = 3 ∨ q = 4 ∨ q = 5 ∨ q = 6 ∨ q = 7 ∨ q = 8 ∨ q = 9 ∨ q = 10 ∨ q = 11) with rfl | rfl | rfl | rfl | rfl | rfl | rfl | rfl | rfl | rfl | rfl | rfl
    · go_wp2_with fail
      go_meet
      exact H0
    · obtain ⟨z, hz, hzw⟩ := u64_form (ix + (y : Int))
      have s0 : W.cell? ⟨sb, 0, none⟩ = some (.int .u64 ix) := block_cell HSB9.out 0
      have s1 : W.frozen? ⟨sb, 0, none⟩ = false := block_free HSB9.out 0
      have s2 : sb < W.heap.size := lt_of_block HSB9.out
      go_wp2_with fail
      go_meet
      exact Lib.hid (H0.out.set0 HLQ.out _)
    · -- 2
      obtain ⟨cur, hcur, -, hcs, -⟩ := own_heap HO.out
      obtain ⟨k, hk⟩ : ∃ k, a % n1 = k := ⟨_, rfl⟩
      have hkn : k < n1 := by rw [← hk]; exact Nat.mod_lt _ (by have := HN.out; omega)
      have KK : Hid (Int.tmod ((a : Nat) : Int) (n1 : Int) = (k : Int)) := Lib.hid (by rw [← hk]; exact (Int.ofNat_tmod a n1).symm)
      obtain ⟨tk, htk⟩ : ∃ tk, tth ws k = tk := ⟨_, rfl⟩
      have HTK : Hid (tk.size = 32) := Lib.hid (by rw [← htk]; exact H32.out k hkn)
      have cg : W.cell? ⟨g, k, none⟩ = some (.string tk) := by
        obtain ⟨b, off, e1, e2⟩ := HT8.out k (by rw [HN.out.1]; exact hkn)
        injection e1 with e1
        injection e1 with e1 e3 _
        subst e1
        subst e3
        rw [Nat.zero_add] at e2
        rw [← htk]
        exact e2
      have HCUR := Lib.hid hcur
      have HCG : Hid (cur[k]? = some (.string tk)) := Lib.hid ((block_cell hcur k).symm.trans cg)
      have r1 : (n1 = 0) = False := by simp; omega
      have r2 : Int.tmod ((a : Nat) : Int) (n1 : Int) = (k : Int) := KK.out
      have r3 : (n1 ≤ k) = False := by simp; omega
      have HKC : Hid (k < cur.size) := Lib.hid (by omega)
      have HTU : Hid (∀ wv, Calls Tryz.prog 67 #[.string tk, .int .u8 (y : Nat), .int .u8 (y : Nat)] wv fun e w' => ∃ v, e = .returned v ∧ (∃ t : ByteArray, v = .string t) ∧ Below wv.heap.size wv w') := Lib.hid (fun wv => (turned14_any tk (y : Nat) (y : Nat) wv (by have := HXX.out; omega) (by have := HTK.out; omega)).mono (fun e w' ⟨⟨t, h1, _⟩, h2⟩ => ⟨.string t, h1, ⟨t, rfl⟩, h2⟩))
      clear hk htk hcur hcs
      go_upto_region 6 with fail
      refine wp_region_tail 22 1000 (none) (phis [fun u _ => u = (.slice (some ⟨g, 0, none⟩) n1 c8), fun u _ => u = (.pointer (some ⟨xb, 1, none⟩)), fun u _ => u = (.int .u8 (a : Nat)), fun u _ => u = (.int .i64 (a : Nat)), fun u _ => u = (.slice (some ⟨g, 0, none⟩) n1 c8), fun u _ => u = (.int .i64 (n1 : Nat)), fun u _ => u = (.int .i64 (k : Nat)), fun u _ => u = (.slice (some ⟨g, 0, none⟩) n1 c8), fun u _ => u = (.pointer (some ⟨xb, 1, none⟩)), fun u _ => u = (.int .u8 (a : Nat)), fun u _ => u = (.int .i64 (a : Nat)), fun u _ => u = (.slice (some ⟨g, 0, none⟩) n1 c8), fun u _ => u = (.int .i64 (n1 : Nat)), fun u _ => u = (.int .i64 (k : Nat)), fun u _ => u = (.pointer (some ⟨g, k, none⟩)), fun u _ => u = (.string tk), fun u _ => u = (.pointer (some ⟨xb, 2, none⟩)), fun u _ => u = (.int .u8 (y : Nat)), fun u _ => u = (.pointer (some ⟨xb, 2, none⟩)), fun u _ => u = (.int .u8 (y : Nat)), fun u _ => ∃ t : ByteArray, u = .string t, fun u _ => u = (.pointer (some ⟨g, k, none⟩))]) rfl (by kernel_rfl) (by kernel_rfl) (mono_of ⟨mono_eq, mono_eq, mono_eq, mono_eq, mono_eq, mono_eq, mono_eq, mono_eq, mono_eq, mono_eq, mono_eq, mono_eq, mono_eq, mono_eq, mono_eq, mono_eq, mono_eq, mono_eq, mono_eq, mono_eq, ?m20, mono_eq, trivial⟩) (steps_of 22 ⟨?s0, ?s1, ?s2, ?s3, ?s4, ?s5, ?s6, ?s7, ?s8, ?s9, ?s10, ?s11, ?s12, ?s13, ?s14, ?s15, ?s16, ?s17, ?s18, ?s19, ?s20, ?s21, trivial⟩) ?_
      case m20 =>
        exact ⟨fun u w1 w' h h1 => h1, fun _ u w1 w' h h1 => h1⟩
      case s0 =>
        refine qV (fun _ => rfl) rfl fun av wv hE hO hD => ?_
        simp [go_sem, qF av 8 (.slice (some ⟨g, 0, none⟩) n1 c8) (hO.2.2 8 rfl), r0, r1, r2, r3]
      case s1 =>
        refine qV (fun _ => rfl) rfl fun av wv hE hO hD => ?_
        simp [go_sem, qF av 5 (.pointer (some ⟨xb, 0, none⟩)) (hO.2.2 5 rfl), r0, r1, r2, r3]
      case s2 =>
        refine qV (fun _ => rfl) rfl fun av wv hE hO hD => ?_
        simp [go_sem, qE (hD.1 rfl _ rfl), extB_cell hE (by simp) x1, extB_cell hE (by simp) x2, extB_cell hE (by simp) cg, r0, r1, r2, r3]
      case s3 =>
        refine qV (fun _ => rfl) rfl fun av wv hE hO hD => ?_
        simp [go_sem, qE (hD.1 rfl _ rfl), r0, r1, r2, r3]
      case s4 =>
        refine qV (fun _ => rfl) rfl fun av wv hE hO hD => ?_
        simp [go_sem, qF av 8 (.slice (some ⟨g, 0, none⟩) n1 c8) (hO.2.2 8 rfl), r0, r1, r2, r3]
      case s5 =>
        refine qV (fun _ => rfl) rfl fun av wv hE hO hD => ?_
        simp [go_sem, qE (hD.1 rfl _ rfl), r0, r1, r2, r3]
      case s6 =>
        refine qV (fun _ => rfl) rfl fun av wv hE hO hD => ?_
        simp [go_sem, qE (hD.1 rfl _ rfl), qE (hD.2.1 rfl _ rfl), r0, r1, r2, r3]
      case s7 =>
        refine qV (fun _ => rfl) rfl fun av wv hE hO hD => ?_
        simp [go_sem, qF av 8 (.slice (some ⟨g, 0, none⟩) n1 c8) (hO.2.2 8 rfl), r0, r1, r2, r3]
      case s8 =>
        refine qV (fun _ => rfl) rfl fun av wv hE hO hD => ?_
        simp [go_sem, qF av 5 (.pointer (some ⟨xb, 0, none⟩)) (hO.2.2 5 rfl), r0, r1, r2, r3]
      case s9 =>
        refine qV (fun _ => rfl) rfl fun av wv hE hO hD => ?_
        simp [go_sem, qE (hD.1 rfl _ rfl), extB_cell hE (by simp) x1, extB_cell hE (by simp) x2, extB_cell hE (by simp) cg, r0, r1, r2, r3]
      case s10 =>
        refine qV (fun _ => rfl) rfl fun av wv hE hO hD => ?_
        simp [go_sem, qE (hD.1 rfl _ rfl), r0, r1, r2, r3]
      case s11 =>
        refine qV (fun _ => rfl) rfl fun av wv hE hO hD => ?_
        simp [go_sem, qF av 8 (.slice (some ⟨g, 0, none⟩) n1 c8) (hO.2.2 8 rfl), r0, r1, r2, r3]
      case s12 =>
        refine qV (fun _ => rfl) rfl fun av wv hE hO hD => ?_
        simp [go_sem, qE (hD.1 rfl _ rfl), r0, r1, r2, r3]
      case s13 =>
        refine qV (fun _ => rfl) rfl fun av wv hE hO hD => ?_
        simp [go_sem, qE (hD.1 rfl _ rfl), qE (hD.2.1 rfl _ rfl), r0, r1, r2, r3]
      case s14 =>
        refine qV (fun _ => rfl) rfl fun av wv hE hO hD => ?_
        simp [go_sem, qE (hD.1 rfl _ rfl), qE (hD.2.1 rfl _ rfl), r0, r1, r2, r3]
      case s15 =>
        refine qV (fun _ => rfl) rfl fun av wv hE hO hD => ?_
        simp [go_sem, qE (hD.1 rfl _ rfl), extB_cell hE (by simp) x1, extB_cell hE (by simp) x2, extB_cell hE (by simp) cg, r0, r1, r2, r3]
      case s16 =>
        refine qV (fun _ => rfl) rfl fun av wv hE hO hD => ?_
        simp [go_sem, qF av 5 (.pointer (some ⟨xb, 0, none⟩)) (hO.2.2 5 rfl), r0, r1, r2, r3]
      case s17 =>
        refine qV (fun _ => rfl) rfl fun av wv hE hO hD => ?_
        simp [go_sem, qE (hD.1 rfl _ rfl), extB_cell hE (by simp) x1, extB_cell hE (by simp) x2, extB_cell hE (by simp) cg, r0, r1, r2, r3]
      case s18 =>
        refine qV (fun _ => rfl) rfl fun av wv hE hO hD => ?_
        simp [go_sem, qF av 5 (.pointer (some ⟨xb, 0, none⟩)) (hO.2.2 5 rfl), r0, r1, r2, r3]
      case s19 =>
        refine qV (fun _ => rfl) rfl fun av wv hE hO hD => ?_
        simp [go_sem, qE (hD.1 rfl _ rfl), extB_cell hE (by simp) x1, extB_cell hE (by simp) x2, extB_cell hE (by simp) cg, r0, r1, r2, r3]
      case s20 =>
        refine step_wp (fun av wv hE hS hO hD => ⟨rfl, ?_⟩)
        have f47 := qE (hD.1 rfl _ rfl)
        have f49 := qE (hD.2.1 rfl _ rfl)
        have f51 := qE (hD.2.2.1 rfl _ rfl)
        refine wp_of_callV (R := fun u w2 => (∃ t : ByteArray, u = .string t) ∧ Below wv.heap.size wv w2) (f := 67) (args := #[.string tk, .int .u8 (y : Nat), .int .u8 (y : Nat)]) (by simp [go_sem, f47, f49, f51]) (HTU.out wv) (fun v w2 h => ⟨_, rfl, es_of_ext h.2, h.1⟩)
      case s21 =>
        refine qV (fun _ => rfl) rfl fun av wv hE hO hD => ?_
        simp [go_sem, qE (hD.1 rfl _ rfl), qE (hD.2.1 rfl _ rfl), r0, r1, r2, r3]
      intro a' w' hE hO hall
      have hA := act_of_outer (ds := [32, 33, 34, 35, 36, 37, 38, 39, 40, 41, 42, 43, 44, 45, 46, 47, 48, 49, 50, 51, 52, 53]) rfl hO (by kernel_rfl)
      obtain ⟨j0, j1, j2, j3, j4, j5, j6, j7, j8, j9, j10, j11, j12, j13, j14, j15, j16, j17, j18, j19, j20, j21, -⟩ := hall
      have e52 : (fun u _ => ∃ t : ByteArray, u = .string t) (a'.eval (.tmp 52)) w' := j20 _ rfl
      obtain ⟨v52, hv52⟩ : ∃ v, a'.eval (.tmp 52) = v := ⟨_, rfl⟩
      rw [hv52] at e52
      simp only [List.foldl_cons, List.foldl_nil, Act.put, List.setIfInBounds_toArray, List.set_cons_succ, List.set_cons_zero, qJ 32 (j0 _ rfl), qJ 33 (j1 _ rfl), qJ 34 (j2 _ rfl), qJ 35 (j3 _ rfl), qJ 36 (j4 _ rfl), qJ 37 (j5 _ rfl), qJ 38 (j6 _ rfl), qJ 39 (j7 _ rfl), qJ 40 (j8 _ rfl), qJ 41 (j9 _ rfl), qJ 42 (j10 _ rfl), qJ 43 (j11 _ rfl), qJ 44 (j12 _ rfl), qJ 45 (j13 _ rfl), qJ 46 (j14 _ rfl), qJ 47 (j15 _ rfl), qJ 48 (j16 _ rfl), qJ 49 (j17 _ rfl), qJ 50 (j18 _ rfl), qJ 51 (j19 _ rfl), hv52, qJ 53 (j21 _ rfl)] at hA
      clear hO j20 j0 j1 j2 j3 j4 j5 j6 j7 j8 j9 j10 j11 j12 j13 j14 j15 j16 j17 j18 j19 hv52 j21
      subst hA
      obtain ⟨t, rfl⟩ := e52
      have hb := of_drew hE
      have hg9 := (hb.block _ (lt_of_block HCUR.out)).trans HCUR.out
      have HG9 := Lib.hid hg9
      have HS1 := Lib.hid (H0.out.below HWS.out hb)
      clear hE hb hg9 cg x1 x2 r1 r2 r3 hkn
      have s1 : w'.frozen? ⟨g, k, none⟩ = false := block_free HG9.out _
      have s2 : g < w'.heap.size := lt_of_block HG9.out
      have s3 : w'.cell? ⟨g, k, none⟩ = some (.string tk) := (block_cell HG9.out k).trans (HCG.out)
      simp only [List.drop_succ_cons, List.drop_zero]
      go_wp2_with fail
      go_meet
      exact Lib.hid (HS1.out.setS HLQ.out HG9.out (by have := HLT.out; have := HGB.out; omega) t)
    · -- 3
      obtain ⟨m, hm⟩ : ∃ m, n1 - 1 = m := ⟨_, rfl⟩
      have k3 : IntKind.i64.wrap (((n1 : Nat) : Int) - 1) = (m : Int) := by rw [show ((n1 : Nat) : Int) - 1 = (m : Int) by have := HN.out; omega]; exact IntWalk.i64_in _ (by have := HN.out; omega)
      have HM : Hid (m ≤ n1) := Lib.hid (by omega)
      have hc8 : n1 ≤ c8 := by
        obtain ⟨a', c', e1, e2, _⟩ := HTA8.out
        injection e1 with _ _ e3
        omega
      have sl := slice_toT (n := n1) (c := c8) (k := m) (some ⟨g, 0, none⟩) (by omega)
      clear hm hc8 x1 x2
      go_wp2_with fail
      go_meet
      exact Lib.hid (H0.out.w8 (k := m) (by have := HM.out; have := HN.out; omega) (HTA8.out.to HM.out))
    · -- 4
      obtain ⟨cur, hcur, -, hcs, -⟩ := own_heap HO.out
      obtain ⟨k, hk⟩ : ∃ k, a % n1 = k := ⟨_, rfl⟩
      have hkn : k < n1 := by rw [← hk]; exact Nat.mod_lt _ (by have := HN.out; omega)
      have KK : Hid (Int.tmod ((a : Nat) : Int) (n1 : Int) = (k : Int)) := Lib.hid (by rw [← hk]; exact (Int.ofNat_tmod a n1).symm)
      obtain ⟨tk, htk⟩ : ∃ tk, tth ws k = tk := ⟨_, rfl⟩
      have HTK : Hid (tk.size = 32) := Lib.hid (by rw [← htk]; exact H32.out k hkn)
      have cg : W.cell? ⟨g, k, none⟩ = some (.string tk) := by
        obtain ⟨b, off, e1, e2⟩ := HT8.out k (by rw [HN.out.1]; exact hkn)
        injection e1 with e1
        injection e1 with e1 e3 _
        subst e1
        subst e3
        rw [Nat.zero_add] at e2
        rw [← htk]
        exact e2
      have HCUR := Lib.hid hcur
      have HCG : Hid (cur[k]? = some (.string tk)) := Lib.hid ((block_cell hcur k).symm.trans cg)
      have r1 : (n1 = 0) = False := by simp; omega
      have r2 : Int.tmod ((a : Nat) : Int) (n1 : Int) = (k : Int) := KK.out
      have r3 : (n1 ≤ k) = False := by simp; omega
      have HKC : Hid (k < cur.size) := Lib.hid (by omega)
      have r5 : (((tk.size : Nat) : Int) < 31) = False := eq_false (by have := HTK.out; omega)
      clear hk htk hcur hcs x2
      go_upto_region 10 with fail
      refine wp_region_tail 18 1000 (none) (phis (List.map qv [.slice (some ⟨g, 0, none⟩) n1 c8, .pointer (some ⟨xb, 1, none⟩), .int .u8 (a : Nat), .int .i64 (a : Nat), .slice (some ⟨g, 0, none⟩) n1 c8, .int .i64 (n1 : Nat), .int .i64 (k : Nat), .slice (some ⟨g, 0, none⟩) n1 c8, .pointer (some ⟨xb, 1, none⟩), .int .u8 (a : Nat), .int .i64 (a : Nat), .slice (some ⟨g, 0, none⟩) n1 c8, .int .i64 (n1 : Nat), .int .i64 (k : Nat), .pointer (some ⟨g, k, none⟩), .string tk, .string (tk.extract 0 31), .pointer (some ⟨g, k, none⟩)])) rfl (by kernel_rfl) (by kernel_rfl) (mono_of mono_qv) (steps_of 18 ⟨?s0, ?s1, ?s2, ?s3, ?s4, ?s5, ?s6, ?s7, ?s8, ?s9, ?s10, ?s11, ?s12, ?s13, ?s14, ?s15, ?s16, ?s17, trivial⟩) ?_
      case s0 =>
        refine qV (fun _ => rfl) rfl fun av wv hE hO hD => ?_
        simp [go_sem, qF av 8 (.slice (some ⟨g, 0, none⟩) n1 c8) (hO.2.2 8 rfl), r0, r1, r2, r3, r5]
      case s1 =>
        refine qV (fun _ => rfl) rfl fun av wv hE hO hD => ?_
        simp [go_sem, qF av 5 (.pointer (some ⟨xb, 0, none⟩)) (hO.2.2 5 rfl), r0, r1, r2, r3, r5]
      case s2 =>
        refine qV (fun _ => rfl) rfl fun av wv hE hO hD => ?_
        simp [go_sem, qE (hD.1 rfl _ rfl), extB_cell hE (by simp) x1, extB_cell hE (by simp) cg, r0, r1, r2, r3, r5]
      case s3 =>
        refine qV (fun _ => rfl) rfl fun av wv hE hO hD => ?_
        simp [go_sem, qE (hD.1 rfl _ rfl), r0, r1, r2, r3, r5]
      case s4 =>
        refine qV (fun _ => rfl) rfl fun av wv hE hO hD => ?_
        simp [go_sem, qF av 8 (.slice (some ⟨g, 0, none⟩) n1 c8) (hO.2.2 8 rfl), r0, r1, r2, r3, r5]
      case s5 =>
        refine qV (fun _ => rfl) rfl fun av wv hE hO hD => ?_
        simp [go_sem, qE (hD.1 rfl _ rfl), r0, r1, r2, r3, r5]
      case s6 =>
        refine qV (fun _ => rfl) rfl fun av wv hE hO hD => ?_
        simp [go_sem, qE (hD.1 rfl _ rfl), qE (hD.2.1 rfl _ rfl), r0, r1, r2, r3, r5]
      case s7 =>
        refine qV (fun _ => rfl) rfl fun av wv hE hO hD => ?_
        simp [go_sem, qF av 8 (.slice (some ⟨g, 0, none⟩) n1 c8) (hO.2.2 8 rfl), r0, r1, r2, r3, r5]
      case s8 =>
        refine qV (fun _ => rfl) rfl fun av wv hE hO hD => ?_
        simp [go_sem, qF av 5 (.pointer (some ⟨xb, 0, none⟩)) (hO.2.2 5 rfl), r0, r1, r2, r3, r5]
      case s9 =>
        refine qV (fun _ => rfl) rfl fun av wv hE hO hD => ?_
        simp [go_sem, qE (hD.1 rfl _ rfl), extB_cell hE (by simp) x1, extB_cell hE (by simp) cg, r0, r1, r2, r3, r5]
      case s10 =>
        refine qV (fun _ => rfl) rfl fun av wv hE hO hD => ?_
        simp [go_sem, qE (hD.1 rfl _ rfl), r0, r1, r2, r3, r5]
      case s11 =>
        refine qV (fun _ => rfl) rfl fun av wv hE hO hD => ?_
        simp [go_sem, qF av 8 (.slice (some ⟨g, 0, none⟩) n1 c8) (hO.2.2 8 rfl), r0, r1, r2, r3, r5]
      case s12 =>
        refine qV (fun _ => rfl) rfl fun av wv hE hO hD => ?_
        simp [go_sem, qE (hD.1 rfl _ rfl), r0, r1, r2, r3, r5]
      case s13 =>
        refine qV (fun _ => rfl) rfl fun av wv hE hO hD => ?_
        simp [go_sem, qE (hD.1 rfl _ rfl), qE (hD.2.1 rfl _ rfl), r0, r1, r2, r3, r5]
      case s14 =>
        refine qV (fun _ => rfl) rfl fun av wv hE hO hD => ?_
        simp [go_sem, qE (hD.1 rfl _ rfl), qE (hD.2.1 rfl _ rfl), r0, r1, r2, r3, r5]
      case s15 =>
        refine qV (fun _ => rfl) rfl fun av wv hE hO hD => ?_
        simp [go_sem, qE (hD.1 rfl _ rfl), extB_cell hE (by simp) x1, extB_cell hE (by simp) cg, r0, r1, r2, r3, r5]
      case s16 =>
        refine qV (fun _ => rfl) rfl fun av wv hE hO hD => ?_
        simp [go_sem, qE (hD.1 rfl _ rfl), r0, r1, r2, r3, r5]
      case s17 =>
        refine qV (fun _ => rfl) rfl fun av wv hE hO hD => ?_
        simp [go_sem, qE (hD.1 rfl _ rfl), qE (hD.2.1 rfl _ rfl), r0, r1, r2, r3, r5]
      intro a' w' hE hO hall
      have hA := act_of_outer (ds := [63, 64, 65, 66, 67, 68, 69, 70, 71, 72, 73, 74, 75, 76, 77, 78, 79, 80]) rfl hO (by kernel_rfl)
      obtain ⟨j0, j1, j2, j3, j4, j5, j6, j7, j8, j9, j10, j11, j12, j13, j14, j15, j16, j17, -⟩ := hall
      simp only [List.foldl_cons, List.foldl_nil, Act.put, List.setIfInBounds_toArray, List.set_cons_succ, List.set_cons_zero, qJ 63 (j0 _ rfl), qJ 64 (j1 _ rfl), qJ 65 (j2 _ rfl), qJ 66 (j3 _ rfl), qJ 67 (j4 _ rfl), qJ 68 (j5 _ rfl), qJ 69 (j6 _ rfl), qJ 70 (j7 _ rfl), qJ 71 (j8 _ rfl), qJ 72 (j9 _ rfl), qJ 73 (j10 _ rfl), qJ 74 (j11 _ rfl), qJ 75 (j12 _ rfl), qJ 76 (j13 _ rfl), qJ 77 (j14 _ rfl), qJ 78 (j15 _ rfl), qJ 79 (j16 _ rfl), qJ 80 (j17 _ rfl)] at hA
      clear hO j0 j1 j2 j3 j4 j5 j6 j7 j8 j9 j10 j11 j12 j13 j14 j15 j16 j17
      subst hA
      have hb := of_drew hE
      have hg9 := (hb.block _ (lt_of_block HCUR.out)).trans HCUR.out
      have HG9 := Lib.hid hg9
      have HS1 := Lib.hid (H0.out.below HWS.out hb)
      clear hE hb hg9 cg x1 r1 r2 r3 r5 hkn
      have s1 : w'.frozen? ⟨g, k, none⟩ = false := block_free HG9.out _
      have s2 : g < w'.heap.size := lt_of_block HG9.out
      have s3 : w'.cell? ⟨g, k, none⟩ = some (.string tk) := (block_cell HG9.out k).trans (HCG.out)
      simp only [List.drop_succ_cons, List.drop_zero]
      go_wp2_with fail
      go_meet
      exact Lib.hid (HS1.out.setS HLQ.out HG9.out (by have := HLT.out; have := HGB.out; omega) _)
    · -- 5
      go_wp2_with fail
      refine (text14_any y 32 W (by have := HXX.out; omega) (by decide)).mono ?_
      rintro e w1 ⟨rfl, hb⟩
      obtain ⟨tx, htx⟩ : ∃ tx, textN y 32 = tx := ⟨_, rfl⟩
      rw [htx]
      have HS1 := Lib.hid (H0.out.below HWS.out hb)
      have HP1 : Hid (w1.ownsRow BW 9 1 (.slice a9 n2 c9) n2 (ps.map Value.string)) := Lib.hid (own_below HP.out hb)
      have HW1 : Hid (w.heap.size ≤ w1.heap.size) := Lib.hid (Nat.le_trans HWS.out hb.size)
      have HSV : Hid (SpR ix n1 n2 wa pa wc pc wt sb pb rb qb w (.slice (some ⟨g, 0, none⟩) n1 c8) (.slice a9 n2 c9) (w1.alloc (.cells #[.string tx] 9))) := Lib.hid (HS1.out.below HW1.out (balloc (Below.refl _ _) _))
      have HPV : Hid ((w1.alloc (.cells #[.string tx] 9)).ownsRow BW 9 1 (.slice a9 n2 c9) n2 (ps.map Value.string)) := Lib.hid (own_below HP1.out (balloc (Below.refl _ _) _))
      have HTV : Hid (Txts (w1.alloc (.cells #[.string tx] 9)) (some ⟨w1.heap.size, 0, none⟩) [tx]) := Lib.hid (fun i hi => ⟨w1.heap.size, 0, rfl, by
        obtain rfl : i = 0 := by simp [len] at hi; omega
        exact block_cell (heap_alloc_new _ _) 0⟩)
      have HVZ : Hid (w.heap.size ≤ (w1.alloc (.cells #[.string tx] 9)).heap.size) := Lib.hid (Nat.le_trans HW1.out (by simp))
      have HRUN : Hid (∃ v9 w2, (Builtin.append_ #[22, 22] 22 #[.slice a9 n2 c9, .slice (some ⟨w1.heap.size, 0, none⟩) 1 1]).run Tryz.prog (w1.alloc (.cells #[.string tx] 9)) = .ok v9 w2 ∧ SpR ix n1 n2 wa pa wc pc wt sb pb rb qb w (.slice (some ⟨g, 0, none⟩) n1 c8) v9 w2) := Lib.hid (by
        have hn2 := HN.out.2.2.2.2
        have hlp := HN.out.2.1
        obtain ⟨i0, hi, hz0, hz1, hz2⟩ := info_parts info_str
        cases a9 with
        | none =>
          obtain ⟨v9, w2, hrun, r1, r2, -⟩ := run_append_own (P := Tryz.prog) (w1.alloc (.cells #[.string tx] 9)) (w1.alloc (.cells #[.string tx] 9)).heap.size 22 22 9 i0 (.string ⟨#[]⟩) 1 16 Tryz.underlying22 hi hz0 hz1 hz2 rfl (by decide) (.slice none n2 c9) n2 (ps.map Value.string) ⟨HPV.out.1, by
            rcases HPV.out.2 with h | ⟨g', cap, cur, hv, _⟩
            · exact .inl h
            · injection hv with e1; cases e1⟩ ⟨w1.heap.size, 0, none⟩ 1 1 [.string tx] rfl (txts_news HTV.out) (one_txts [tx]) (by unfold maxLen; omega) (by omega) (Nat.le_refl _)
          exact ⟨v9, w2, hrun, (HSV.out.below HVZ.out (grownBy_below (Below.refl _ _) r2 (fun k hk => by cases hk))).w9 (k := n2 + 1) (by omega) (TxN.own (L := ps ++ [tx]) ((by rw [List.map_append]; exact r1)) (by rw [len_appT, hlp]; rfl))⟩
        | some ad9 =>
          obtain ⟨h9, rfl⟩ : ∃ h9, ad9 = ⟨h9, 0, none⟩ := by
            rcases HPV.out.2 with ⟨e, e2⟩ | ⟨g', cap, cur, hv, _⟩
            · injection e with e1; cases e1
            · injection hv with e1; injection e1 with e1; exact ⟨g', e1⟩
          obtain ⟨cur, hcur, hh9, hcn, hcs, hnc⟩ := own_heap HPV.out
          have htx9 := own_txts HPV.out
          obtain ⟨a', c', e1, ht9⟩ := htx9
          injection e1 with e1 _ _
          subst e1
          by_cases hr : n2 + 1 ≤ c9
          · have hrun := run_append_room_cells (P := Tryz.prog) (w1.alloc (.cells #[.string tx] 9)) 22 22 9 i0 Tryz.underlying22 hi h9 0 n2 c9 ⟨w1.heap.size, 0, none⟩ 1 1 [.string tx] (by rw [hz1]; rfl) (txts_news HTV.out) (one_txts [tx]) hr (fun j hj => by
              obtain rfl : j = 0 := by simp at hj; exact hj
              rw [hz1, block_cell hcur, Array.getElem?_eq_getElem (by omega)]
              rfl) (fun j hj => block_free hcur _)
            rw [hz1, Nat.zero_add, Nat.mul_one] at hrun
            have h3 := HSV.out.setS HLQ.out hcur (k := n2) (by have := HLT.out; omega) tx
            obtain ⟨a2, c2, e2, -, -, h4⟩ := (TxN.own (L := ps) HPV.out hlp).set hcur (k := n2) tx
            injection e2 with e2 _ _
            subst e2
            refine ⟨_, _, hrun, SpR.w9 h3 (k := n2 + 1) (by omega) ⟨_, _, rfl, hr, (fun h => by cases h), fun i hi => ?_⟩⟩
            by_cases hi2 : i = n2
            · subst hi2
              refine ⟨h9, 0, tx, _, _, rfl, block_setCell hcur _, ?_⟩
              rw [Nat.zero_add, Array.getElem?_setIfInBounds, if_pos rfl, if_pos (by omega)]
            · exact h4 i (by omega)
          · obtain ⟨v9, w2, hrun, r1, r2⟩ := run_append_arg_grows (P := Tryz.prog) (w1.alloc (.cells #[.string tx] 9)) 22 22 9 i0 (.string ⟨#[]⟩) 1 16 Tryz.underlying22 hi hz0 hz1 hz2 rfl (by decide) ⟨h9, 0, none⟩ n2 c9 (ps.map Value.string) (by rw [List.length_map, ← len_eq, hlp]; omega) (txts_news ht9) ⟨w1.heap.size, 0, none⟩ 1 1 [.string tx] rfl (txts_news HTV.out) (by omega) (by unfold maxLen; omega) (by omega)
            exact ⟨v9, w2, hrun, (HSV.out.below HVZ.out (grownBy_below (Below.refl _ _) r2 (fun k hk => by cases hk))).w9 (k := n2 + 1) (by omega) (TxN.own (L := ps ++ [tx]) ((by rw [List.map_append]; exact r1)) (by rw [len_appT, hlp]; rfl))⟩)
      obtain ⟨v17, hv17⟩ : ∃ v17, Value.slice a9 n2 c9 = v17 := ⟨_, rfl⟩
      rw [hv17] at HRUN ⊢
      clear hb htx x1 x2 hv17 HSV HPV HTV
      obtain ⟨v9, w2, hrun, hsp⟩ := HRUN.out
      have HSP := Lib.hid hsp
      clear hsp
      go_wp2_with (at_builtin; refine wpList_append_run rfl _ _ rfl v17 (.slice (some ⟨w1.heap.size, 0, none⟩) 1 1) v9 rfl rfl hrun ?_)
      go_meet
      exact HSP
    · -- 6
      by_cases h0 : n2 = 0
      · have hpos : decide (0 < n2) = false := by simp; omega
        clear x1 x2
        go_wp2_with fail
        go_meet
        exact H0
      · have hpos : decide (0 < n2) = true := by simp; omega
        obtain ⟨m, hm⟩ : ∃ m, n2 - 1 = m := ⟨_, rfl⟩
        have k3 : IntKind.i64.wrap (((n2 : Nat) : Int) - 1) = (m : Int) := by rw [show ((n2 : Nat) : Int) - 1 = (m : Int) by omega]; exact IntWalk.i64_in _ (by have := HN.out; omega)
        have HM : Hid (m ≤ n2) := Lib.hid (by omega)
        have hc9 : n2 ≤ c9 := by
          obtain ⟨a', c', e1, e2, _⟩ := HTA9.out
          injection e1 with _ _ e3
          omega
        have sl := slice_toT (n := n2) (c := c9) (k := m) a9 (by omega)
        clear hm hc9 x1 x2 h0
        go_wp2_with fail
        go_meet
        exact Lib.hid (H0.out.w9 (k := m) (by have := HM.out; have := HN.out; omega) (HTA9.out.to HM.out))
    · -- 7
      by_cases h0 : n2 = 0
      · have hpos : decide (0 < n2) = false := by simp; omega
        clear x1 x2
        go_wp2_with fail
        go_meet
        exact H0
      · have hpos : decide (0 < n2) = true := by simp; omega
        obtain ⟨g9, rfl, hg9b⟩ := own_form HP.out (by omega)
        have HG9B := Lib.hid hg9b
        clear hg9b
        obtain ⟨cur, hcur, -, hcs, -⟩ := own_heap HP.out
        obtain ⟨k, hk⟩ : ∃ k, a % n2 = k := ⟨_, rfl⟩
        have hkn : k < n2 := by rw [← hk]; exact Nat.mod_lt _ (by have := HN.out; omega)
        have KK : Hid (Int.tmod ((a : Nat) : Int) (n2 : Int) = (k : Int)) := Lib.hid (by rw [← hk]; exact (Int.ofNat_tmod a n2).symm)
        obtain ⟨tk, htk⟩ : ∃ tk, tth ps k = tk := ⟨_, rfl⟩
        have HTK : Hid (tk.size ≤ 1000) := Lib.hid (by rw [← htk]; exact HPS.out k hkn)
        have cg : W.cell? ⟨g9, k, none⟩ = some (.string tk) := by
          obtain ⟨b, off, e1, e2⟩ := HT9.out k (by rw [HN.out.2.1]; exact hkn)
          injection e1 with e1
          injection e1 with e1 e3 _
          subst e1
          subst e3
          rw [Nat.zero_add] at e2
          rw [← htk]
          exact e2
        have HCUR := Lib.hid hcur
        have HCG : Hid (cur[k]? = some (.string tk)) := Lib.hid ((block_cell hcur k).symm.trans cg)
        have r1 : (n2 = 0) = False := by simp; omega
        have r2 : Int.tmod ((a : Nat) : Int) (n2 : Int) = (k : Int) := KK.out
        have r3 : (n2 ≤ k) = False := by simp; omega
        have HKC : Hid (k < cur.size) := Lib.hid (by omega)
        have HTU : Hid (∀ wv, Calls Tryz.prog 67 #[.string tk, .int .u8 (y : Nat), .int .u8 (y : Nat)] wv fun e w' => ∃ v, e = .returned v ∧ (∃ t : ByteArray, v = .string t) ∧ Below wv.heap.size wv w') := Lib.hid (fun wv => (turned14_any tk (y : Nat) (y : Nat) wv (by have := HXX.out; omega) (by have := HTK.out; omega)).mono (fun e w' ⟨⟨t, h1, _⟩, h2⟩ => ⟨.string t, h1, ⟨t, rfl⟩, h2⟩))
        clear hk htk hcur hcs
        go_upto_region 18 with fail
        refine wp_region_tail 22 1000 (none) (phis [fun u _ => u = (.slice (some ⟨g9, 0, none⟩) n2 c9), fun u _ => u = (.pointer (some ⟨xb, 1, none⟩)), fun u _ => u = (.int .u8 (a : Nat)), fun u _ => u = (.int .i64 (a : Nat)), fun u _ => u = (.slice (some ⟨g9, 0, none⟩) n2 c9), fun u _ => u = (.int .i64 (n2 : Nat)), fun u _ => u = (.int .i64 (k : Nat)), fun u _ => u = (.slice (some ⟨g9, 0, none⟩) n2 c9), fun u _ => u = (.pointer (some ⟨xb, 1, none⟩)), fun u _ => u = (.int .u8 (a : Nat)), fun u _ => u = (.int .i64 (a : Nat)), fun u _ => u = (.slice (some ⟨g9, 0, none⟩) n2 c9), fun u _ => u = (.int .i64 (n2 : Nat)), fun u _ => u = (.int .i64 (k : Nat)), fun u _ => u = (.pointer (some ⟨g9, k, none⟩)), fun u _ => u = (.string tk), fun u _ => u = (.pointer (some ⟨xb, 2, none⟩)), fun u _ => u = (.int .u8 (y : Nat)), fun u _ => u = (.pointer (some ⟨xb, 2, none⟩)), fun u _ => u = (.int .u8 (y : Nat)), fun u _ => ∃ t : ByteArray, u = .string t, fun u _ => u = (.pointer (some ⟨g9, k, none⟩))]) rfl (by kernel_rfl) (by kernel_rfl) (mono_of ⟨mono_eq, mono_eq, mono_eq, mono_eq, mono_eq, mono_eq, mono_eq, mono_eq, mono_eq, mono_eq, mono_eq, mono_eq, mono_eq, mono_eq, mono_eq, mono_eq, mono_eq, mono_eq, mono_eq, mono_eq, ?m20, mono_eq, trivial⟩) (steps_of 22 ⟨?s0, ?s1, ?s2, ?s3, ?s4, ?s5, ?s6, ?s7, ?s8, ?s9, ?s10, ?s11, ?s12, ?s13, ?s14, ?s15, ?s16, ?s17, ?s18, ?s19, ?s20, ?s21, trivial⟩) ?_
        case m20 =>
          exact ⟨fun u w1 w' h h1 => h1, fun _ u w1 w' h h1 => h1⟩
        case s0 =>
          refine qV (fun _ => rfl) rfl fun av wv hE hO hD => ?_
          simp [go_sem, qF av 9 (.slice (some ⟨g9, 0, none⟩) n2 c9) (hO.2.2 9 rfl), r0, r1, r2, r3]
        case s1 =>
          refine qV (fun _ => rfl) rfl fun av wv hE hO hD => ?_
          simp [go_sem, qF av 5 (.pointer (some ⟨xb, 0, none⟩)) (hO.2.2 5 rfl), r0, r1, r2, r3]
        case s2 =>
          refine qV (fun _ => rfl) rfl fun av wv hE hO hD => ?_
          simp [go_sem, qE (hD.1 rfl _ rfl), extB_cell hE (by simp) x1, extB_cell hE (by simp) x2, extB_cell hE (by simp) cg, r0, r1, r2, r3]
        case s3 =>
          refine qV (fun _ => rfl) rfl fun av wv hE hO hD => ?_
          simp [go_sem, qE (hD.1 rfl _ rfl), r0, r1, r2, r3]
        case s4 =>
          refine qV (fun _ => rfl) rfl fun av wv hE hO hD => ?_
          simp [go_sem, qF av 9 (.slice (some ⟨g9, 0, none⟩) n2 c9) (hO.2.2 9 rfl), r0, r1, r2, r3]
        case s5 =>
          refine qV (fun _ => rfl) rfl fun av wv hE hO hD => ?_
          simp [go_sem, qE (hD.1 rfl _ rfl), r0, r1, r2, r3]
        case s6 =>
          refine qV (fun _ => rfl) rfl fun av wv hE hO hD => ?_
          simp [go_sem, qE (hD.1 rfl _ rfl), qE (hD.2.1 rfl _ rfl), r0, r1, r2, r3]
        case s7 =>
          refine qV (fun _ => rfl) rfl fun av wv hE hO hD => ?_
          simp [go_sem, qF av 9 (.slice (some ⟨g9, 0, none⟩) n2 c9) (hO.2.2 9 rfl), r0, r1, r2, r3]
        case s8 =>
          refine qV (fun _ => rfl) rfl fun av wv hE hO hD => ?_
          simp [go_sem, qF av 5 (.pointer (some ⟨xb, 0, none⟩)) (hO.2.2 5 rfl), r0, r1, r2, r3]
        case s9 =>
          refine qV (fun _ => rfl) rfl fun av wv hE hO hD => ?_
          simp [go_sem, qE (hD.1 rfl _ rfl), extB_cell hE (by simp) x1, extB_cell hE (by simp) x2, extB_cell hE (by simp) cg, r0, r1, r2, r3]
        case s10 =>
          refine qV (fun _ => rfl) rfl fun av wv hE hO hD => ?_
          simp [go_sem, qE (hD.1 rfl _ rfl), r0, r1, r2, r3]
        case s11 =>
          refine qV (fun _ => rfl) rfl fun av wv hE hO hD => ?_
          simp [go_sem, qF av 9 (.slice (some ⟨g9, 0, none⟩) n2 c9) (hO.2.2 9 rfl), r0, r1, r2, r3]
        case s12 =>
          refine qV (fun _ => rfl) rfl fun av wv hE hO hD => ?_
          simp [go_sem, qE (hD.1 rfl _ rfl), r0, r1, r2, r3]
        case s13 =>
          refine qV (fun _ => rfl) rfl fun av wv hE hO hD => ?_
          simp [go_sem, qE (hD.1 rfl _ rfl), qE (hD.2.1 rfl _ rfl), r0, r1, r2, r3]
        case s14 =>
          refine qV (fun _ => rfl) rfl fun av wv hE hO hD => ?_
          simp [go_sem, qE (hD.1 rfl _ rfl), qE (hD.2.1 rfl _ rfl), r0, r1, r2, r3]
        case s15 =>
          refine qV (fun _ => rfl) rfl fun av wv hE hO hD => ?_
          simp [go_sem, qE (hD.1 rfl _ rfl), extB_cell hE (by simp) x1, extB_cell hE (by simp) x2, extB_cell hE (by simp) cg, r0, r1, r2, r3]
        case s16 =>
          refine qV (fun _ => rfl) rfl fun av wv hE hO hD => ?_
          simp [go_sem, qF av 5 (.pointer (some ⟨xb, 0, none⟩)) (hO.2.2 5 rfl), r0, r1, r2, r3]
        case s17 =>
          refine qV (fun _ => rfl) rfl fun av wv hE hO hD => ?_
          simp [go_sem, qE (hD.1 rfl _ rfl), extB_cell hE (by simp) x1, extB_cell hE (by simp) x2, extB_cell hE (by simp) cg, r0, r1, r2, r3]
        case s18 =>
          refine qV (fun _ => rfl) rfl fun av wv hE hO hD => ?_
          simp [go_sem, qF av 5 (.pointer (some ⟨xb, 0, none⟩)) (hO.2.2 5 rfl), r0, r1, r2, r3]
        case s19 =>
          refine qV (fun _ => rfl) rfl fun av wv hE hO hD => ?_
          simp [go_sem, qE (hD.1 rfl _ rfl), extB_cell hE (by simp) x1, extB_cell hE (by simp) x2, extB_cell hE (by simp) cg, r0, r1, r2, r3]
        case s20 =>
          refine step_wp (fun av wv hE hS hO hD => ⟨rfl, ?_⟩)
          have f119 := qE (hD.1 rfl _ rfl)
          have f121 := qE (hD.2.1 rfl _ rfl)
          have f123 := qE (hD.2.2.1 rfl _ rfl)
          refine wp_of_callV (R := fun u w2 => (∃ t : ByteArray, u = .string t) ∧ Below wv.heap.size wv w2) (f := 67) (args := #[.string tk, .int .u8 (y : Nat), .int .u8 (y : Nat)]) (by simp [go_sem, f119, f121, f123]) (HTU.out wv) (fun v w2 h => ⟨_, rfl, es_of_ext h.2, h.1⟩)
        case s21 =>
          refine qV (fun _ => rfl) rfl fun av wv hE hO hD => ?_
          simp [go_sem, qE (hD.1 rfl _ rfl), qE (hD.2.1 rfl _ rfl), r0, r1, r2, r3]
        intro a' w' hE hO hall
        have hA := act_of_outer (ds := [104, 105, 106, 107, 108, 109, 110, 111, 112, 113, 114, 115, 116, 117, 118, 119, 120, 121, 122, 123, 124, 125]) rfl hO (by kernel_rfl)
        obtain ⟨j0, j1, j2, j3, j4, j5, j6, j7, j8, j9, j10, j11, j12, j13, j14, j15, j16, j17, j18, j19, j20, j21, -⟩ := hall
        have e124 : (fun u _ => ∃ t : ByteArray, u = .string t) (a'.eval (.tmp 124)) w' := j20 _ rfl
        obtain ⟨v124, hv124⟩ : ∃ v, a'.eval (.tmp 124) = v := ⟨_, rfl⟩
        rw [hv124] at e124
        simp only [List.foldl_cons, List.foldl_nil, Act.put, List.setIfInBounds_toArray, List.set_cons_succ, List.set_cons_zero, qJ 104 (j0 _ rfl), qJ 105 (j1 _ rfl), qJ 106 (j2 _ rfl), qJ 107 (j3 _ rfl), qJ 108 (j4 _ rfl), qJ 109 (j5 _ rfl), qJ 110 (j6 _ rfl), qJ 111 (j7 _ rfl), qJ 112 (j8 _ rfl), qJ 113 (j9 _ rfl), qJ 114 (j10 _ rfl), qJ 115 (j11 _ rfl), qJ 116 (j12 _ rfl), qJ 117 (j13 _ rfl), qJ 118 (j14 _ rfl), qJ 119 (j15 _ rfl), qJ 120 (j16 _ rfl), qJ 121 (j17 _ rfl), qJ 122 (j18 _ rfl), qJ 123 (j19 _ rfl), hv124, qJ 125 (j21 _ rfl)] at hA
        clear hO j20 j0 j1 j2 j3 j4 j5 j6 j7 j8 j9 j10 j11 j12 j13 j14 j15 j16 j17 j18 j19 hv124 j21
        subst hA
        obtain ⟨t, rfl⟩ := e124
        have hb := of_drew hE
        have hg9 := (hb.block _ (lt_of_block HCUR.out)).trans HCUR.out
        have HG9 := Lib.hid hg9
        have HS1 := Lib.hid (H0.out.below HWS.out hb)
        clear hE hb hg9 cg x1 x2 r1 r2 r3 hkn
        have s1 : w'.frozen? ⟨g9, k, none⟩ = false := block_free HG9.out _
        have s2 : g9 < w'.heap.size := lt_of_block HG9.out
        have s3 : w'.cell? ⟨g9, k, none⟩ = some (.string tk) := (block_cell HG9.out k).trans (HCG.out)
        simp only [List.drop_succ_cons, List.drop_zero]
        go_wp2_with fail
        go_meet
        exact Lib.hid (HS1.out.setS HLQ.out HG9.out (by have := HLT.out; have := HG9B.out; omega) t)
    · -- 8
      have p0 : W.cell? ⟨pb, 0, none⟩ = some (.string root) := block_cell HPB9.out 0
      go_wp2_with fail
      refine (turned14_any root (a : Nat) (y : Nat) W (by have := HXX.out; omega) (by rw [HRT.out]; decide)).mono ?_
      rintro e w1 ⟨⟨t, rfl, -⟩, hb⟩
      have HS1 := Lib.hid (H0.out.below HWS.out hb)
      have HP1 := Lib.hid ((hb.block _ (lt_of_block HPB9.out)).trans HPB9.out)
      have s1 : w1.frozen? ⟨pb, 0, none⟩ = false := block_free HP1.out 0
      have s2 : pb < w1.heap.size := lt_of_block HP1.out
      have s3 : w1.cell? ⟨pb, 0, none⟩ = some (.string root) := block_cell HP1.out 0
      clear hb p0 x1 x2
      go_wp2_with fail
      go_meet
      exact Lib.hid (HS1.out.setR HLQ.out t)
    · -- 9
      obtain ⟨k, hk⟩ : ∃ k, a % 33 = k := ⟨_, rfl⟩
      have q1 : Int.tmod ((a : Nat) : Int) 33 = (k : Int) := by rw [← hk]; exact (Int.ofNat_tmod a 33).symm
      have q2 : ((a : Nat) : Int) % 33 = (k : Int) := by omega
      have q3 : IntKind.i64.wrap ((k : Nat) : Int) = (k : Int) := IntWalk.i64_in _ (by omega)
      have q4 : ((k : Nat) : Int) ≤ ((root.size : Nat) : Int) := by have := HRT.out; omega
      have q5 : k ≤ root.size := by omega
      have p0 : W.cell? ⟨pb, 0, none⟩ = some (.string root) := block_cell HPB9.out 0
      have s1 : W.frozen? ⟨pb, 0, none⟩ = false := block_free HPB9.out 0
      have s2 : pb < W.heap.size := lt_of_block HPB9.out
      clear hk x2
      go_wp2_with fail
      go_meet
      exact Lib.hid (H0.out.setR HLQ.out _)
    · -- 10
      obtain ⟨F1, hF1, f1⟩ := u64_form ((f : Int) + (y : Int))
      obtain ⟨k, hk⟩ : ∃ k, a % 3 = k := ⟨_, rfl⟩
      have q1 : Int.tmod ((a : Nat) : Int) 3 = (k : Int) := by rw [← hk]; exact (Int.ofNat_tmod a 3).symm
      have q2 : ((a : Nat) : Int) % 3 = (k : Int) := by omega
      have q3 : IntKind.u8.wrap ((k : Nat) : Int) = (k : Int) := IntWalk.u8_in _ (by omega)
      have q4 : IntKind.u64.wrap ((k : Nat) : Int) = (k : Int) := IntWalk.u64_in _ (by omega)
      obtain ⟨L1, hL1, l1⟩ := u64_form ((L : Int) * (k : Int))
      have p2 : W.cell? ⟨pb, 2, none⟩ = some (.int .u64 (f : Nat)) := block_cell HPB9.out 2
      have s1 : ∀ o, W.frozen? ⟨pb, o, none⟩ = false := fun o => block_free HPB9.out o
      have s2 : pb < W.heap.size := lt_of_block HPB9.out
      have HF1 := Lib.hid hF1
      clear hk hF1 hL1
      go_upto_region 25 with fail
      have HP1 : Hid ((W.setCell ⟨pb, 2, none⟩ (.int .u64 (F1 : Nat))).heap[pb]? = some (.cells #[.string root, .int .u64 (wt : Nat), .int .u64 (F1 : Nat), .int .u64 (L : Nat), .int .u64 (K : Nat)] 62 (0, 0))) := Lib.hid (block_setCell HPB9.out _)
      have HX1 : Hid ((W.setCell ⟨pb, 2, none⟩ (.int .u64 (F1 : Nat))).heap[xb]? = some (.cells #[.int .u8 (x : Nat), .int .u8 (a : Nat), .int .u8 (y : Nat)] 52 (0, 0))) := Lib.hid (block_setCell_ne HXB9.out (by show ¬ (xb = pb); have := HLT.out; omega) _)
      have HS1 := Lib.hid (H0.out.setF HLQ.out F1 HF1.out)
      obtain ⟨W1, hW1⟩ : ∃ W1, W.setCell ⟨pb, 2, none⟩ (.int .u64 (F1 : Nat)) = W1 := ⟨_, rfl⟩
      rw [hW1] at HP1 HX1 HS1 ⊢
      clear hW1 p2 s1 s2 x1 x2
      have x1 : W1.cell? ⟨xb, 1, none⟩ = some (.int .u8 (a : Nat)) := block_cell HX1.out 1
      have p3 : W1.cell? ⟨pb, 3, none⟩ = some (.int .u64 (L : Nat)) := block_cell HP1.out 3
      have s1 : ∀ o, W1.frozen? ⟨pb, o, none⟩ = false := fun o => block_free HP1.out o
      have s2 : pb < W1.heap.size := lt_of_block HP1.out
      go_wp2_with fail
      go_meet
      exact Lib.hid (HS1.out.setL HLQ.out L1)
    · -- 11
      obtain ⟨k, hk⟩ : ∃ k, a % 70 = k := ⟨_, rfl⟩
      have r9 : IntKind.u64.wrap ((a : Nat) : Int) = (a : Int) := IntWalk.u64_in _ (by have := HXX.out; omega)
      have q1 : Int.tmod ((a : Nat) : Int) 70 = (k : Int) := by rw [← hk]; exact (Int.ofNat_tmod a 70).symm
      have q2 : ((a : Nat) : Int) % 70 = (k : Int) := by omega
      have q4 : IntKind.u64.wrap ((k : Nat) : Int) = (k : Int) := IntWalk.u64_in _ (by omega)
      have s1 : ∀ o, W.frozen? ⟨pb, o, none⟩ = false := fun o => block_free HPB9.out o
      have s2 : pb < W.heap.size := lt_of_block HPB9.out
      have p4 : W.cell? ⟨pb, 4, none⟩ = some (.int .u64 (K : Nat)) := block_cell HPB9.out 4
      clear hk x2
      go_wp2_with fail
      go_meet
      exact Lib.hid (H0.out.setK HLQ.out k)
  case rest =>
    obtain ⟨n8, hn, h8⟩ := hcut.out.ws
    obtain ⟨n9, hm, h9⟩ := hcut.out.ps
    obtain ⟨jx, hs⟩ := hcut.out.s
    obtain ⟨rt, F1, L1, K1, hF1, hp⟩ := hcut.out.p
    have hr := hcut.out.r
    have hq := hcut.out.q
    have hb := hcut.out.b
    have HT8' := Lib.hid h8
    have HT9' := Lib.hid h9
    obtain ⟨b8, d8, rfl, -⟩ := h8
    obtain ⟨b9, d9, rfl, -⟩ := h9
    have HNM : Hid (n8 ≤ 1000000 ∧ n9 ≤ 1000000 ∧ F1 < 18446744073709551616) := Lib.hid ⟨hn, hm, hF1⟩
    have hk1 := block_setCell hs (o := 1) (.slice b8 n8 d8)
    have hk2 := block_setCell hk1 (o := 2) (.slice b9 n9 d9)
    obtain ⟨W2, hW2⟩ : ∃ W2, (wc.setCell ⟨sb, 1, none⟩ (.slice b8 n8 d8)).setCell ⟨sb, 2, none⟩ (.slice b9 n9 d9) = W2 := ⟨_, rfl⟩
    have hl := HLQ.out
    have HS2 : Hid (W2.heap[sb]? = some (.cells #[.int .u64 jx, .slice b8 n8 d8, .slice b9 n9 d9] 54 (0, 0))) := Lib.hid (by rw [← hW2]; exact hk2)
    have HP2 : Hid (W2.heap[pb]? = some (.cells #[.string rt, .int .u64 (wt : Nat), .int .u64 (F1 : Nat), .int .u64 (L1 : Nat), .int .u64 (K1 : Nat)] 62 (0, 0))) := Lib.hid (by rw [← hW2]; exact block_setCell_ne (block_setCell_ne hp (by show ¬ (pb = sb); omega) _) (by show ¬ (pb = sb); omega) _)
    have HR2 : Hid (W2.heap[rb]? = some (.cells #[.int .u64 0, .slice none 0 0, .slice none 0 0] 54 (0, 0))) := Lib.hid (by rw [← hW2]; exact block_setCell_ne (block_setCell_ne hr (by show ¬ (rb = sb); omega) _) (by show ¬ (rb = sb); omega) _)
    have HQ2 : Hid (W2.heap[qb]? = some (.cells #[.string ⟨#[]⟩, .int .u64 0, .int .u64 0, .int .u64 0, .int .u64 0] 62 (0, 0))) := Lib.hid (by rw [← hW2]; exact block_setCell_ne (block_setCell_ne hq (by show ¬ (qb = sb); omega) _) (by show ¬ (qb = sb); omega) _)
    have HB2 : Hid (Below w.heap.size w W2) := Lib.hid (by rw [← hW2]; exact bset (bset hb hl.1 _) hl.1 _)
    have HX8 : Hid (TxN n8 (.slice b8 n8 d8) W2) := Lib.hid (by rw [← hW2]; exact (HT8'.out.setI hs (by simp) _).setI hk1 (by simp) _)
    have HX9 : Hid (TxN n9 (.slice b9 n9 d9) W2) := Lib.hid (by rw [← hW2]; exact (HT9'.out.setI hs (by simp) _).setI hk1 (by simp) _)
    have g0 := fun o => block_cell hs o
    have g1 : ∀ o, wc.frozen? ⟨sb, o, none⟩ = false := block_free hs
    have g2 : sb < wc.heap.size := lt_of_block hs
    clear hn hm hF1 hs hp hr hq hb hk1 hk2 hl hcut HT8' HT9'
    go_upto_region 30 with fail
    clear hW2 g0 g1 g2
    have c0 : W2.cell? ⟨sb, 0, none⟩ = some (.int .u64 jx) := block_cell HS2.out 0
    have c1 : W2.cell? ⟨sb, 1, none⟩ = some (.slice b8 n8 d8) := block_cell HS2.out 1
    have c2 : W2.cell? ⟨sb, 2, none⟩ = some (.slice b9 n9 d9) := block_cell HS2.out 2
    have p0 : W2.cell? ⟨pb, 0, none⟩ = some (.string rt) := block_cell HP2.out 0
    have p1 : W2.cell? ⟨pb, 1, none⟩ = some (.int .u64 (wt : Nat)) := block_cell HP2.out 1
    have p2 : W2.cell? ⟨pb, 2, none⟩ = some (.int .u64 (F1 : Nat)) := block_cell HP2.out 2
    have p3 : W2.cell? ⟨pb, 3, none⟩ = some (.int .u64 (L1 : Nat)) := block_cell HP2.out 3
    have p4 : W2.cell? ⟨pb, 4, none⟩ = some (.int .u64 (K1 : Nat)) := block_cell HP2.out 4
    refine wp_region_tail 3 2 ((some rb)) (phis [fun u _ => u = (.agg #[.int .u64 jx, .slice b8 n8 d8, .slice b9 n9 d9]), fun u _ => u = (.agg #[.string rt, .int .u64 (wt : Nat), .int .u64 (F1 : Nat), .int .u64 (L1 : Nat), .int .u64 (K1 : Nat)]), fun _ w' => w'.heap[rb]? = some (.cells #[.int .u64 jx, .slice b8 n8 d8, .slice b9 n9 d9] 54 (0, 0))]) rfl (by kernel_rfl) (by kernel_rfl) (mono_of ⟨mono_eq, mono_eq, ?m2, trivial⟩) (steps_of 3 ⟨?s0, ?s1, ?s2, trivial⟩) ?_
    case m2 =>
      exact ⟨fun u w1 w' h h1 => ext_block h h1, fun hn => absurd rfl hn⟩
    case s0 =>
      refine qV (fun _ => rfl) rfl fun av wv hE hO hD => ?_
      simp [go_sem, qF av 3 (.pointer (some ⟨sb, 0, none⟩)) (hO.2.2 3 rfl), extB_cell hE (by simp; have := HLQ.out; omega) c0, extB_cell hE (by simp; have := HLQ.out; omega) c1, extB_cell hE (by simp; have := HLQ.out; omega) c2, extB_cell hE (by simp; have := HLQ.out; omega) p0, extB_cell hE (by simp; have := HLQ.out; omega) p1, extB_cell hE (by simp; have := HLQ.out; omega) p2, extB_cell hE (by simp; have := HLQ.out; omega) p3, extB_cell hE (by simp; have := HLQ.out; omega) p4]
    case s1 =>
      refine qV (fun _ => rfl) rfl fun av wv hE hO hD => ?_
      simp [go_sem, qF av 4 (.pointer (some ⟨pb, 0, none⟩)) (hO.2.2 4 rfl), extB_cell hE (by simp; have := HLQ.out; omega) c0, extB_cell hE (by simp; have := HLQ.out; omega) c1, extB_cell hE (by simp; have := HLQ.out; omega) c2, extB_cell hE (by simp; have := HLQ.out; omega) p0, extB_cell hE (by simp; have := HLQ.out; omega) p1, extB_cell hE (by simp; have := HLQ.out; omega) p2, extB_cell hE (by simp; have := HLQ.out; omega) p3, extB_cell hE (by simp; have := HLQ.out; omega) p4]
    case s2 =>
      refine step_wp (fun av wv hE hS hO hD => ⟨rfl, ?_⟩)
      have f6 := qF av 6 (.pointer (some ⟨rb, 0, none⟩)) (hO.2.2 6 rfl)
      have f174 := qE (hD.1 rfl _ rfl)
      have hrb : wv.heap[rb]? = some (.cells #[.int .u64 0, .slice none 0 0, .slice none 0 0] 54 (0, 0)) := ext_block (hS rfl) HR2.out
      have e0 := fun o => block_cell hrb o
      have e1 := block_free hrb
      have e2 := lt_of_block hrb
      unfold Oper.wp
      simp [go_sem, f174, f6, e0, e1, e2]
      exact ⟨⟨rfl, rfl, rfl, by simp [World.setCell], fun k _ hk => (Below.heap_setCell _ _ _ k (fun e => hk (by rw [e]))).trans ((Below.heap_setCell _ _ _ k (fun e => hk (by rw [e]))).trans (Below.heap_setCell _ _ _ k (fun e => hk (by rw [e]))))⟩ |> es_sp, undef, block_setCell (block_setCell (block_setCell hrb _) _) _⟩
    intro a' w' hE hO hall
    have hA := act_of_outer (ds := [174, 175]) rfl hO (by kernel_rfl)
    obtain ⟨j0, j1, j2, -⟩ := hall
    have z2 : (fun _ w' => w'.heap[rb]? = some (.cells #[.int .u64 jx, .slice b8 n8 d8, .slice b9 n9 d9] 54 (0, 0))) undef w' := j2 _ rfl
    simp only [List.foldl_cons, List.foldl_nil, Act.put, List.setIfInBounds_toArray, List.set_cons_succ, List.set_cons_zero, qJ 174 (j0 _ rfl), qJ 175 (j1 _ rfl)] at hA
    clear hO j2 j0 j1
    subst hA
    have hX : ExtB (some rb) W2 w' := ExtB_trans _ _ _ _ (show ExtB (some rb) W2 W2.drew from ⟨rfl, rfl, rfl, Nat.le_refl _, fun _ _ _ => rfl⟩) hE
    have hl := HLQ.out
    have HQ3 : Hid (w'.heap[qb]? = some (.cells #[.string ⟨#[]⟩, .int .u64 0, .int .u64 0, .int .u64 0, .int .u64 0] 62 (0, 0))) := Lib.hid (extB_block hX (by simp; omega) HQ2.out)
    have HR3 : Hid (w'.heap[rb]? = some (.cells #[.int .u64 jx, .slice b8 n8 d8, .slice b9 n9 d9] 54 (0, 0))) := Lib.hid z2
    have HB3 : Hid (Below w.heap.size w w') := Lib.hid (grownBy_below HB2.out hX (fun k hk => by cases hk; omega))
    have HY8 := Lib.hid (HX8.out.keepB HR2.out sigz hX)
    have HY9 := Lib.hid (HX9.out.keepB HR2.out sigz hX)
    clear hX hE hl z2 c0 c1 c2 p0 p1 p2 p3 p4
    simp only [List.drop_succ_cons, List.drop_zero]
    have g0 := fun o => block_cell HQ3.out o
    have g1 : ∀ o, w'.frozen? ⟨qb, o, none⟩ = false := block_free HQ3.out
    have g2 : qb < w'.heap.size := lt_of_block HQ3.out
    go_wp2
    have q1 := block_setCell HQ3.out (o := 0) (.string rt)
    have q2 := block_setCell q1 (o := 1) (.int .u64 (wt : Nat))
    have q3 := block_setCell q2 (o := 2) (.int .u64 (F1 : Nat))
    have q4 := block_setCell q3 (o := 3) (.int .u64 (L1 : Nat))
    have q5 := block_setCell q4 (o := 4) (.int .u64 (K1 : Nat))
    have hl := HLQ.out
    have hrq : ¬ (rb = qb) := by omega
    have r5 := block_setCell_ne (block_setCell_ne (block_setCell_ne (block_setCell_ne (block_setCell_ne HR3.out (p := ⟨qb, 0, none⟩) hrq (.string rt)) (p := ⟨qb, 1, none⟩) hrq (.int .u64 (wt : Nat))) (p := ⟨qb, 2, none⟩) hrq (.int .u64 (F1 : Nat))) (p := ⟨qb, 3, none⟩) hrq (.int .u64 (L1 : Nat))) (p := ⟨qb, 4, none⟩) hrq (.int .u64 (K1 : Nat))
    have e0 := block_cell r5 0
    have e1 := block_cell r5 1
    have e2 := block_cell r5 2
    have f0 := block_cell q5 0
    have f1 := block_cell q5 1
    have f2 := block_cell q5 2
    have f3 := block_cell q5 3
    have f4 := block_cell q5 4
    have t8 := ((((HY8.out.set HQ3.out (k := 0) rt).setI q1 (k := 1) (by simp) (.int .u64 (wt : Nat))).setI q2 (k := 2) (by simp) (.int .u64 (F1 : Nat))).setI q3 (k := 3) (by simp) (.int .u64 (L1 : Nat))).setI q4 (k := 4) (by simp) (.int .u64 (K1 : Nat))
    have t9 := ((((HY9.out.set HQ3.out (k := 0) rt).setI q1 (k := 1) (by simp) (.int .u64 (wt : Nat))).setI q2 (k := 2) (by simp) (.int .u64 (F1 : Nat))).setI q3 (k := 3) (by simp) (.int .u64 (L1 : Nat))).setI q4 (k := 4) (by simp) (.int .u64 (K1 : Nat))
    have hwq : w.heap.size ≤ qb := by omega
    refine bodyPost_ret (v := .tuple #[.agg #[.int .u64 jx, .slice b8 n8 d8, .slice b9 n9 d9], .agg #[.string rt, .int .u64 (wt : Nat), .int .u64 (F1 : Nat), .int .u64 (L1 : Nat), .int .u64 (K1 : Nat)]]) ?_ rfl ⟨jx, rt, F1, L1, K1, n8, n9, _, _, rfl, t8, t9, HNM.out.1, HNM.out.2.1, HNM.out.2.2, bset (bset (bset (bset (bset HB3.out hwq _) hwq _) hwq _) hwq _) hwq _⟩
    simp [results, Tryz.results25, go_sem, e0, e1, e2, f0, f1, f2, f3, f4]
end Go.Proofs.YtoafjbillcooiaaGreat
namespace Go.Proofs.YtoafjbillcooiaaGreat
set_option linter.unusedSimpArgs false
open Go.RowKit
set_option linter.unusedVariables false
theorem extB_setInG {w w1 : World} {b : Nat} (h : ExtB (some b) w w1) (o : Nat) (v : Value) : ExtB (some b) w (w1.setCell ⟨b, o, none⟩ v) :=
  ⟨h.os, h.tape, h.output, by simpa using h.size, fun i hi hn => by rw [Below.heap_setCell _ _ _ _ (fun e => hn (by rw [e]))]; exact h.block i hi hn⟩
def GVO (S1 S2 n : Nat) : Nat → Nat → Prop := fun j b => (j = S1 ∨ j = S2) ∧ n ≤ b
theorem gvo_inj {S1 S2 n : Nat} : ∀ i j b, b < n → GVO S1 S2 n i b → GVO S1 S2 n j b → i = j := fun _ _ b hb h _ => by
  have := h.2
  omega
structure GX (S1 S2 : Nat) (t1 t2 : TypeId) (j : Nat) (w w' : World) : Prop where
  shape : ∀ (c : Nat) (cs : Array Value) (t : TypeId) (fr : Nat × Nat), w.heap[c]? = some (.cells cs t fr) → ∃ cs' : Array Value, w'.heap[c]? = some (.cells cs' t fr) ∧ cs'.size = cs.size
  kept : ∀ (c : Nat) (cs : Array Value) (t : TypeId) (fr : Nat × Nat), w.heap[c]? = some (.cells cs t fr) → (j = S1 → t ≠ t1) → (j = S2 → t ≠ t2) → w'.heap[c]? = some (.cells cs t fr)
theorem gx_refl {S1 S2 : Nat} {t1 t2 : TypeId} (j : Nat) (w : World) : GX S1 S2 t1 t2 j w w := ⟨fun _ cs _ _ h => ⟨cs, h, rfl⟩, fun _ _ _ _ h _ _ => h⟩
theorem gx_ext {S1 S2 : Nat} {t1 t2 : TypeId} {j : Nat} {w w' : World} (h : Ext w w') : GX S1 S2 t1 t2 j w w' := ⟨fun c cs _ _ hc => ⟨cs, (h.block c (lt_of_block hc)).trans hc, rfl⟩, fun c _ _ _ hc _ _ => (h.block c (lt_of_block hc)).trans hc⟩
def GPR (A1 S1 A2 S2 : Nat) (R1 R2 : Nat → World → Prop) : Nat → Nat → Value → Value → World → Prop := fun i j vi _ w => (i = A1 ∧ j = S1 → ∀ c : Nat, vi = .pointer (some ⟨c, 0, none⟩) → R1 c w) ∧ (i = A2 ∧ j = S2 → ∀ c : Nat, vi = .pointer (some ⟨c, 0, none⟩) → R2 c w)
theorem gpr_mono {A1 S1 A2 S2 n : Nat} {t1 t2 : TypeId} {R1 R2 : Nat → World → Prop} (h1 : ∀ c k w w', k ≠ S1 → GX S1 S2 t1 t2 k w w' → R1 c w → R1 c w') (h2 : ∀ c k w w', k ≠ S2 → GX S1 S2 t1 t2 k w w' → R2 c w → R2 c w') : ∀ (i j k : Nat) (vi vj : Value) (w w' : World), k ≠ i → k ≠ j → EsX (GVO S1 S2 n) (GX S1 S2 t1 t2) k w w' → GPR A1 S1 A2 S2 R1 R2 i j vi vj w → GPR A1 S1 A2 S2 R1 R2 i j vi vj w' := fun i j k vi vj w w' _ hk h hp =>
  ⟨fun hij c hc => h1 c k w w' (fun e => hk (e.trans hij.2.symm)) h.2 (hp.1 hij c hc), fun hij c hc => h2 c k w w' (fun e => hk (e.trans hij.2.symm)) h.2 (hp.2 hij c hc)⟩
theorem of_drewG {S1 S2 : Nat} {w w1 : World} (h : ExtX (GVO S1 S2 w.heap.size) w.drew w1) : Below w.heap.size w w1 :=
  bnext (bdrew (Below.refl _ _)) ⟨h.os, h.tape, h.output, h.size, fun i hi => h.block i hi (fun j hj => by have h2 := hj.2; have h3 : i < w.heap.size := hi; omega)⟩
theorem extG_cell {S1 S2 : Nat} {w w1 : World} (h : ExtX (GVO S1 S2 w.heap.size) w.drew w1) {b o : Nat} {v : Value} (hc : w.cell? ⟨b, o, none⟩ = some v) : w1.cell? ⟨b, o, none⟩ = some v := by
  rw [(of_drewG h).cell (p := ⟨b, o, none⟩) (lt_of_cell hc)]; exact hc
theorem esG_ext {S1 S2 n j : Nat} {t1 t2 : TypeId} {w w' : World} (h : Ext w w') : EsX (GVO S1 S2 n) (GX S1 S2 t1 t2) j w w' := esX_of_ext h (gx_ext h)
theorem esG_put {S1 S2 n j c : Nat} {t1 t2 t : TypeId} {w w' : World} {cs cs' : Array Value} {fr : Nat × Nat} (hj : (j = S1 ∧ t = t1) ∨ (j = S2 ∧ t = t2)) (hc : n ≤ c) (h : ExtB (some c) w w') (hh : w.heap[c]? = some (.cells cs t fr)) (hh' : w'.heap[c]? = some (.cells cs' t fr)) (hs : cs'.size = cs.size) : EsX (GVO S1 S2 n) (GX S1 S2 t1 t2) j w w' := by
  have hjj : j = S1 ∨ j = S2 := hj.imp (·.1) (·.1)
  refine ⟨⟨h.os, h.tape, h.output, h.size, fun k hk hn => h.block k hk (fun e => hn ⟨hjj, by rw [Option.some.inj e]; exact hc⟩)⟩, ⟨fun k cs2 t2' fr2 hk => ?_, fun k cs2 t2' fr2 hk q1 q2 => ?_⟩⟩
  · by_cases e : k = c
    · subst e
      have e9 := hh.symm.trans hk
      injection e9 with e9
      injection e9 with e1 e2 e3
      subst e1
      subst e2
      subst e3
      exact ⟨cs', hh', hs⟩
    · exact ⟨cs2, (h.block k (lt_of_block hk) (fun e9 => e (Option.some.inj e9))).trans hk, rfl⟩
  · by_cases e : k = c
    · subst e
      have e9 := hh.symm.trans hk
      injection e9 with e9
      injection e9 with e1 e2 e3
      subst e2
      rcases hj with ⟨a1, a2⟩ | ⟨a1, a2⟩
      · exact absurd a2 (q1 a1)
      · exact absurd a2 (q2 a1)
    · exact (h.block k (lt_of_block hk) (fun e9 => e (Option.some.inj e9))).trans hk
def SgV (u : Value) (w : World) : Prop := ∃ (ix : Int) (v p : Value) (n m : Nat), u = .agg #[.int .u64 ix, v, p] ∧ TxN n v w ∧ TxN m p w ∧ n ≤ 1000000 ∧ m ≤ 1000000
def PtV (wt : Nat) (u : Value) : Prop := ∃ (rt : ByteArray) (f L K : Nat), u = .agg #[.string rt, .int .u64 (wt : Nat), .int .u64 (f : Nat), .int .u64 (L : Nat), .int .u64 (K : Nat)] ∧ f < 18446744073709551616
def SpV (wt : Nat) (u : Value) (w : World) : Prop := ∃ a b, u = .tuple #[a, b] ∧ SgV a w ∧ PtV wt b
def SigLy (c : Nat) (w : World) : Prop := ∃ (ix : Int) (v p : Value) (n m : Nat), w.heap[c]? = some (.cells #[.int .u64 ix, v, p] 54 (0, 0)) ∧ TxN n v w ∧ TxN m p w ∧ n ≤ 1000000 ∧ m ≤ 1000000
def PrtLy (wt : Nat) (c : Nat) (w : World) : Prop := ∃ (rt : ByteArray) (f L K : Nat), w.heap[c]? = some (.cells #[.string rt, .int .u64 (wt : Nat), .int .u64 (f : Nat), .int .u64 (L : Nat), .int .u64 (K : Nat)] 62 (0, 0)) ∧ f < 18446744073709551616
section
variable {S1 S2 j n : Nat} {w w' : World}
theorem TxN.gx {v : Value} (h : TxN n v w) (hx : GX S1 S2 54 62 j w w') : TxN n v w' := h.rows fun b cs fr e => hx.kept b cs _ fr e (fun _ => by decide) (fun _ => by decide)
theorem SgV.gx {u : Value} (h : SgV u w) (hx : GX S1 S2 54 62 j w w') : SgV u w' := by
  obtain ⟨ix, v, p, n, m, h1, h2, h3, h4⟩ := h
  exact ⟨ix, v, p, n, m, h1, h2.gx hx, h3.gx hx, h4⟩
theorem SpV.gx {wt : Nat} {u : Value} (h : SpV wt u w) (hx : GX S1 S2 54 62 j w w') : SpV wt u w' := by
  obtain ⟨a, b, h1, h2, h3⟩ := h
  exact ⟨a, b, h1, h2.gx hx, h3⟩
theorem sigLy_gx (c k : Nat) (w w' : World) (hk : k ≠ S1) (hx : GX S1 S2 54 62 k w w') (h : SigLy c w) : SigLy c w' := by
  obtain ⟨ix, v, p, n, m, h1, h2, h3, h4⟩ := h
  exact ⟨ix, v, p, n, m, hx.kept _ _ _ _ h1 (fun e => absurd e hk) (fun _ => by decide), h2.gx hx, h3.gx hx, h4⟩
theorem prtLy_gx {wt : Nat} (c k : Nat) (w w' : World) (hk : k ≠ S2) (hx : GX S1 S2 54 62 k w w') (h : PrtLy wt c w) : PrtLy wt c w' := by
  obtain ⟨rt, f, L, K, h1, h2⟩ := h
  exact ⟨rt, f, L, K, hx.kept _ _ _ _ h1 (fun _ => by decide) (fun e => absurd e hk), h2⟩
end
theorem SpIs.val {wt : Nat} {w : World} {e : Ending} {w' : World} (h : SpIs wt w e w') : ∃ v, e = .returned v ∧ SpV wt v w' ∧ Below w.heap.size w w' := by
  obtain ⟨ix, rt, f, L, K, n, m, v, p, rfl, h1, h2, h3, h4, h5, hb⟩ := h
  exact ⟨_, rfl, ⟨_, _, rfl, ⟨ix, v, p, n, m, rfl, h1, h2, h3, h4⟩, ⟨rt, f, L, K, rfl, h5⟩⟩, hb⟩
end Go.Proofs.YtoafjbillcooiaaGreat
namespace Go.Proofs.YtoafjbillcooiaaGreat
open Go.RowKit
set_option linter.unusedSimpArgs false
set_option linter.unusedVariables false
abbrev prtV (root : ByteArray) (wt f L K : Nat) : Array Value := #[.string root, .int .u64 (wt : Nat), .int .u64 (f : Nat), .int .u64 (L : Nat), .int .u64 (K : Nat)]
set_option maxRecDepth 100000 in
set_option maxHeartbeats 4000000 in
theorem rver14_may (root d : ByteArray) (wt f L K r : Nat) (ix : Int) (n1 n2 : Nat) (wa pa : Option Addr) (wc pc : Nat) (w : World) (h : mayV d root L K = false) :
    Calls Tryz.prog 28 #[.agg #[.string root, .int .u64 (wt : Nat), .int .u64 (f : Nat), .int .u64 (L : Nat), .int .u64 (K : Nat)], .int .u64 (r : Nat), .string d, .agg #[.int .u64 ix, .slice wa n1 wc, .slice pa n2 pc]] w fun e w' => e = .returned (.int .i64 2) ∧ Below w.heap.size w w' := by
  by_cases h1 : d.size = 32
  · have i1 : ((d.size : Nat) : Int) = 32 := by omega
    by_cases h2 : root.size = 32
    · have i2 : ((root.size : Nat) : Int) = 32 := by omega
      by_cases h3 : L = 0
      · subst h3
        clear h
        go_enter Tryz.func28, Tryz.ntmps28
        go_wp2
        go_ret
        exact ⟨rfl, by (repeat (first | exact Below.refl _ _ | assumption | (refine bdrew ?_) | (refine bdrewN ?_ _) | (refine balloc ?_ _) | (refine bset ?_ (by first | omega | (simp; done) | (simp; omega)) _) | (refine bnext ?_ (by assumption))))⟩
      · have i3 : (((L : Nat) : Int) == 0) = false := by simpa using h3
        by_cases h4 : K = 0
        · subst h4
          clear h
          go_enter Tryz.func28, Tryz.ntmps28
          go_wp2
          go_ret
          exact ⟨rfl, by (repeat (first | exact Below.refl _ _ | assumption | (refine bdrew ?_) | (refine bdrewN ?_ _) | (refine balloc ?_ _) | (refine bset ?_ (by first | omega | (simp; done) | (simp; omega)) _) | (refine bnext ?_ (by assumption))))⟩
        · have i4 : ¬ ((K : Nat) : Int) < 1 := by omega
          have i5 : (64 : Int) < (K : Int) := by
            by_cases h5 : K ≤ 64
            · rw [mayV_iff.2 ⟨h1, h2, by omega, by omega, h5⟩] at h; cases h
            · omega
          clear h
          go_enter Tryz.func28, Tryz.ntmps28
          go_wp2
          go_ret
          exact ⟨rfl, by (repeat (first | exact Below.refl _ _ | assumption | (refine bdrew ?_) | (refine bdrewN ?_ _) | (refine balloc ?_ _) | (refine bset ?_ (by first | omega | (simp; done) | (simp; omega)) _) | (refine bnext ?_ (by assumption))))⟩
    · have i2 : ¬ ((root.size : Nat) : Int) = 32 := by omega
      clear h
      go_enter Tryz.func28, Tryz.ntmps28
      go_wp2
      go_ret
      exact ⟨rfl, by (repeat (first | exact Below.refl _ _ | assumption | (refine bdrew ?_) | (refine bdrewN ?_ _) | (refine balloc ?_ _) | (refine bset ?_ (by first | omega | (simp; done) | (simp; omega)) _) | (refine bnext ?_ (by assumption))))⟩
  · have i1 : ¬ ((d.size : Nat) : Int) = 32 := by omega
    clear h
    go_enter Tryz.func28, Tryz.ntmps28
    go_wp2
    go_ret
    exact ⟨rfl, by (repeat (first | exact Below.refl _ _ | assumption | (refine bdrew ?_) | (refine bdrewN ?_ _) | (refine balloc ?_ _) | (refine bset ?_ (by first | omega | (simp; done) | (simp; omega)) _) | (refine bnext ?_ (by assumption))))⟩
set_option maxRecDepth 100000 in
set_option maxHeartbeats 4000000 in
theorem rver14_main (root d : ByteArray) (wt f L K r : Nat) (ix : Int) (ws ps : List ByteArray) (wa pa : Option Addr) (wc pc : Nat) (w : World) (h : mayV d root L K = true) (htw : Txts w wa ws) (htp : Txts w pa ps) (hf : f < 18446744073709551616) (hr : r < 18446744073709551616) (hnw : len ws ≤ 1000000) (hnp : len ps ≤ 1000000) (hpc : len ps ≤ pc) :
    Calls Tryz.prog 28 #[.agg #[.string root, .int .u64 (wt : Nat), .int .u64 (f : Nat), .int .u64 (L : Nat), .int .u64 (K : Nat)], .int .u64 (r : Nat), .string d, .agg #[.int .u64 ix, .slice wa (len ws) wc, .slice pa (len ps) pc]] w fun e w' => e = .returned (.int .i64 (verE root f L K r d ⟨ix, ws, ps⟩)) ∧ Below w.heap.size w w' := by
  have hm := mayV_iff.1 h
  have HM := Lib.hid h
  have i1 : ((d.size : Nat) : Int) = 32 := by have := hm.1; omega
  have i2 : ((root.size : Nat) : Int) = 32 := by have := hm.2.1; omega
  have i3 : (((L : Nat) : Int) == 0) = false := by have := hm.2.2.1; simp; omega
  have i4 : ¬ ((K : Nat) : Int) < 1 := by have := hm.2.2.2.1; omega
  have i5 : ¬ (64 : Int) < (K : Int) := by have := hm.2.2.2.2; omega
  have i6 : L ≠ 0 := by have := hm.2.2.1; omega
  have i7 : K ≠ 0 := by have := hm.2.2.2.1; omega
  have HKY := Lib.hid (fun wv => rkey14_any f L K r wv hf hr hm.2.2.1)
  have HRC := Lib.hid (fun wv (hx : Txts wv wa ws) => rrecover_any ws wa wc d wv hx hnw)
  have HTW := Lib.hid htw
  have HTP := Lib.hid htp
  have HNP := Lib.hid hnp
  have HPC := Lib.hid hpc
  have HK64 : Hid (K ≤ 64) := Lib.hid hm.2.2.2.2
  unfold keyV at HKY
  clear h htw htp hf hr hnw hnp hpc hm
  go_enter Tryz.func28, Tryz.ntmps28
  go_wp2_with fail
  refine (HKY.out _).mono ?_
  rintro e w1 ⟨rfl, hb⟩
  obtain ⟨b0, hb0⟩ : ∃ b0, w.heap.size = b0 := ⟨_, rfl⟩
  have ha1 := block_alloc (alloc_new_at (.cells (prtV root wt f L K) 62) hb0) (.cells #[.int .u64 ix, .slice wa (len ws) wc, .slice pa (len ps) pc] 54)
  have ha2 := alloc_new_at (w := w.alloc (.cells (prtV root wt f L K) 62)) (n := b0 + 1) (.cells #[.int .u64 ix, .slice wa (len ws) wc, .slice pa (len ps) pc] 54) (by simp; omega)
  have HP1 : Hid (w1.heap[b0]? = some (.cells (prtV root wt f L K) 62 (0, 0))) := Lib.hid ((hb.block _ (lt_of_block ha1)).trans ha1)
  have HG1 : Hid (w1.heap[b0 + 1]? = some (.cells #[.int .u64 ix, .slice wa (len ws) wc, .slice pa (len ps) pc] 54 (0, 0))) := Lib.hid ((hb.block _ (lt_of_block ha2)).trans ha2)
  have HB1 : Hid (Below w.heap.size w w1) := Lib.hid (bnext (balloc (balloc (Below.refl _ _) _) _) hb)
  rw [hb0]
  clear hb ha1 ha2 hb0 i1 i2 i3 i4 i5 i6 i7
  cases hk : keyO f L K r with
  | none =>
    have HE := Lib.hid (verE_none (root := root) (d := d) (s := ⟨ix, ws, ps⟩) HM.out hk)
    dsimp only [Option.getD, Option.isSome]
    clear hk
    go_wp2
    go_ret
    exact ⟨by rw [HE.out]; rfl, HB1.out⟩
  | some k =>
    have HKO := Lib.hid hk
    have HE := Lib.hid (verE_key (root := root) (d := d) (ix := ix) (ws := ws) (ps := ps) HM.out hk)
    dsimp only [Option.getD, Option.isSome]
    clear hk
    have g1 : w1.cell? ⟨b0 + 1, 1, none⟩ = some (.slice wa (len ws) wc) := block_cell HG1.out 1
    go_wp2_with fail
    refine (HRC.out w1 (HTW.out.below HB1.out)).mono ?_
    rintro e w2 ⟨rfl, hb⟩
    have HB2 := Lib.hid (bnext HB1.out hb)
    have HP2 := Lib.hid ((hb.block _ (lt_of_block HP1.out)).trans HP1.out)
    have HG2 := Lib.hid ((hb.block _ (lt_of_block HG1.out)).trans HG1.out)
    have g0 : w2.cell? ⟨b0 + 1, 0, none⟩ = some (.int .u64 ix) := block_cell HG2.out 0
    clear hb g1
    by_cases hix : ix = ((k : Nat) : Int)
    · by_cases hre : recE ws d = 0
      · rw [if_pos ⟨hix, hre⟩, ← recS_ok hre] at HE
        have hpvs : (recS ws d).size = 32 := by rw [recS_ok hre]; exact recovP_size _ _
        obtain ⟨pv, hpv⟩ : ∃ pv, recS ws d = pv := ⟨_, rfl⟩
        rw [hpv] at HE hpvs ⊢
        rw [hre]
        subst hix
        have hkk := (keyO_some HKO.out).2.2
        have HRG := Lib.hid (fun wv => rrung_any k pv wv (by have := HK64.out; omega) (by rw [hpvs]; decide))
        have hys : (num8S k ++ pv).size = 40 := by rw [ByteArray.size_append, num8S_size, hpvs]
        obtain ⟨y, hy⟩ : ∃ y, num8S k ++ pv = y := ⟨_, rfl⟩
        rw [hy] at HRG hys HE
        obtain ⟨S, hS⟩ : ∃ S, rootS (K : Nat) [((k : Nat) : Int)] [y] ps = S := ⟨_, rfl⟩
        obtain ⟨E, hE9⟩ : ∃ E, rootE (K : Nat) [((k : Nat) : Int)] [y] ps = E := ⟨_, rfl⟩
        obtain ⟨m, hm9⟩ : ∃ m, len ps = m := ⟨_, rfl⟩
        have c3 : w2.cell? ⟨b0 + 1, 2, none⟩ = some (.slice pa m pc) := by rw [block_cell HG2.out 2, hm9]; rfl
        have c0 : w2.cell? ⟨b0, 4, none⟩ = some (.int .u64 (K : Nat)) := block_cell HP2.out 4
        have HRT : Hid (∀ (wv : World) (b1 b2 : Nat), Below w2.heap.size w2 wv → wv.heap[b1]? = some (.cells #[.int .u64 (k : Nat)] 37 (0, 0)) → wv.heap[b2]? = some (.cells #[.string y] 9 (0, 0)) → Calls Tryz.prog 81 #[.int .i64 (K : Nat), .slice (some ⟨b1, 0, none⟩) 1 1, .slice (some ⟨b2, 0, none⟩) 1 1, .slice pa m pc] wv fun e w' => e = .returned (.tuple #[.string S, .int .i64 E]) ∧ Below wv.heap.size wv w') := Lib.hid (fun wv b1 b2 hb h1 h2 => by
          have h9 := rroot_any (K : Nat) [((k : Nat) : Int)] [y] ps (some ⟨b1, 0, none⟩) (some ⟨b2, 0, none⟩) pa 1 1 pc wv
            ⟨fun i hi => ⟨b1, 0, rfl, by
              have hi : i < 1 := hi
              obtain rfl : i = 0 := by omega
              exact block_cell h1 0⟩, txts1 h2, HTP.out.below (HB2.out.trans (hb.mono HB2.out.size)), (show 1 ≤ 12 by decide), fun x hx => by
              have hx : x = ((k : Nat) : Int) := by simpa using hx
              subst hx
              unfold U64
              have := HK64.out
              omega, (show 1 ≤ 1000000 by decide), HNP.out, HPC.out, fun i hi => by
              have hi : i < 1 := hi
              obtain rfl : i = 0 := by omega
              show y.size ≤ 1000000
              omega⟩ (by omega) (by have := HK64.out; omega)
          rw [hm9] at h9
          refine h9.mono ?_
          rintro e w' ⟨rfl, hb2⟩
          exact ⟨by rw [hS, hE9], hb2⟩)
        have HCE : Hid (checkE root (K : Nat) [((k : Nat) : Int)] [y] ps = if E = 0 ∧ S ≠ root then 20 else E) := Lib.hid (by unfold checkE; rw [hE9, hS])
        have k1 : IntKind.i64.wrap ((K : Nat) : Int) = (K : Int) := IntWalk.i64_in _ (by have := HK64.out; omega)
        clear hS hE9 hys hy hpvs hre hkk hpv hm9
        go_upto_region 9 with fail
        clear g0
        refine wp_region_all 1000 (none) (phis [fun u _ => u = (.pointer (some ⟨b0, 4, none⟩)), fun u _ => u = (.int .u64 (K : Nat)), fun u _ => u = (.int .i64 (K : Nat)), fun u _ => u = (.int .u64 (k : Nat)), fun u w' => ∃ b, u = .slice (some ⟨b, 0, none⟩) 1 1 ∧ w'.heap[b]? = some (.cells #[.int .u64 (k : Nat)] 37 (0, 0)), fun u _ => u = (.int .u64 (k : Nat)), fun u _ => u = (.string pv), fun u _ => u = (.string y), fun u w' => ∃ b, u = .slice (some ⟨b, 0, none⟩) 1 1 ∧ w'.heap[b]? = some (.cells #[.string y] 9 (0, 0)), fun u _ => u = (.pointer (some ⟨b0 + 1, 2, none⟩)), fun u _ => u = (.slice pa m pc), fun u _ => u = (.tuple #[.string S, .int .i64 E]), fun u _ => u = (.tuple #[.string S, .int .i64 E]), fun u _ => u = (.string S), fun u _ => u = (.int .i64 E), fun u _ => u = (.string S), fun u _ => u = (.int .i64 E)]) rfl (by kernel_rfl) (mono_of ⟨mono_eq, mono_eq, mono_eq, mono_eq, ?m4, mono_eq, mono_eq, mono_eq, ?m8, mono_eq, mono_eq, mono_eq, mono_eq, mono_eq, mono_eq, mono_eq, mono_eq, trivial⟩) (steps_of 17 ⟨?s0, ?s1, ?s2, ?s3, ?s4, ?s5, ?s6, ?s7, ?s8, ?s9, ?s10, ?s11, ?s12, ?s13, ?s14, ?s15, ?s16, trivial⟩) ?_
        case m4 =>
          exact ⟨fun u w1 w' h ⟨b, h1, hb⟩ => ⟨b, h1, ext_block h hb⟩, fun _ u w1 w' h ⟨b, h1, hb⟩ => ⟨b, h1, extB_block h (by simp) hb⟩⟩
        case m8 =>
          exact ⟨fun u w1 w' h ⟨b, h1, hb⟩ => ⟨b, h1, ext_block h hb⟩, fun _ u w1 w' h ⟨b, h1, hb⟩ => ⟨b, h1, extB_block h (by simp) hb⟩⟩
        case s0 =>
          refine qV (fun _ => rfl) rfl fun av wv hE hO hD => ?_
          simp [go_sem, qF av 4 (.pointer (some ⟨b0, 0, none⟩)) (hO.2.2 4 rfl), k1]
        case s1 =>
          refine qV (fun _ => rfl) rfl fun av wv hE hO hD => ?_
          simp [go_sem, qE (hD.1 rfl _ rfl), extB_cell hE (by simp) c0, extB_cell hE (by simp) c3, k1]
        case s2 =>
          refine qV (fun _ => rfl) rfl fun av wv hE hO hD => ?_
          simp [go_sem, qE (hD.1 rfl _ rfl), k1]
        case s3 =>
          refine qV (fun _ => rfl) rfl fun av wv hE hO hD => ?_
          simp [go_sem, qF av 9 (.int .u64 (k : Nat)) (hO.2.2 9 rfl), k1]
        case s4 =>
          refine step_wp (fun av wv hE hS hO hD => ⟨rfl, ?_⟩)
          have f70 := qE (hD.1 rfl _ rfl)
          exact wp_of_run (v := .slice (some ⟨wv.heap.size, 0, none⟩) 1 1) (w' := wv.alloc (.cells #[.int .u64 (k : Nat)] 37)) (by simp [go_sem, f70]) ⟨_, rfl, es_of_ext (balloc (Ext_refl _) _), wv.heap.size, rfl, heap_alloc_new _ _⟩
        case s5 =>
          refine qV (fun _ => rfl) rfl fun av wv hE hO hD => ?_
          simp [go_sem, qF av 9 (.int .u64 (k : Nat)) (hO.2.2 9 rfl), k1]
        case s6 =>
          refine qV (fun _ => rfl) rfl fun av wv hE hO hD => ?_
          simp [go_sem, qF av 11 (.string pv) (hO.2.2 11 rfl), k1]
        case s7 =>
          refine step_wp (fun av wv hE hS hO hD => ⟨rfl, ?_⟩)
          have f72 := qE (hD.1 rfl _ rfl)
          have f73 := qE (hD.2.1 rfl _ rfl)
          refine wp_of_call (v := .string y) (by simp [go_sem, f72, f73]) (HRG.out wv) (fun w2 hb => ⟨_, rfl, es_of_ext hb, rfl⟩)
        case s8 =>
          refine step_wp (fun av wv hE hS hO hD => ⟨rfl, ?_⟩)
          have f74 := qE (hD.1 rfl _ rfl)
          exact wp_of_run (v := .slice (some ⟨wv.heap.size, 0, none⟩) 1 1) (w' := wv.alloc (.cells #[.string y] 9)) (by simp [go_sem, f74]) ⟨_, rfl, es_of_ext (balloc (Ext_refl _) _), wv.heap.size, rfl, heap_alloc_new _ _⟩
        case s9 =>
          refine qV (fun _ => rfl) rfl fun av wv hE hO hD => ?_
          simp [go_sem, qF av 7 (.pointer (some ⟨b0 + 1, 0, none⟩)) (hO.2.2 7 rfl), k1]
        case s10 =>
          refine qV (fun _ => rfl) rfl fun av wv hE hO hD => ?_
          simp [go_sem, qE (hD.1 rfl _ rfl), extB_cell hE (by simp) c0, extB_cell hE (by simp) c3, k1]
        case s11 =>
          refine step_wp (fun av wv hE hS hO hD => ⟨rfl, ?_⟩)
          have f69 := qE (hD.1 rfl _ rfl)
          have d71 : (fun u w' => ∃ b, u = .slice (some ⟨b, 0, none⟩) 1 1 ∧ w'.heap[b]? = some (.cells #[.int .u64 (k : Nat)] 37 (0, 0))) (av.eval (.tmp 71)) wv := hD.2.1 rfl _ rfl
          have d75 : (fun u w' => ∃ b, u = .slice (some ⟨b, 0, none⟩) 1 1 ∧ w'.heap[b]? = some (.cells #[.string y] 9 (0, 0))) (av.eval (.tmp 75)) wv := hD.2.2.1 rfl _ rfl
          have f77 := qE (hD.2.2.2.1 rfl _ rfl)
          obtain ⟨b1, g1, hc1⟩ := d71
          obtain ⟨b2, g2, hc2⟩ := d75
          have j1 := (ev_form av 71).symm.trans g1
          have j2 := (ev_form av 75).symm.trans g2
          refine wp_of_call (v := .tuple #[.string S, .int .i64 E]) (by simp [go_sem, f69, f77, j1, j2]) (HRT.out wv b1 b2 (of_drew hE) hc1 hc2) (fun w2 hb => ⟨_, rfl, es_of_ext hb, rfl⟩)
        case s12 =>
          refine qV (fun _ => rfl) rfl fun av wv hE hO hD => ?_
          simp [go_sem, qE (hD.1 rfl _ rfl), k1]
        case s13 =>
          refine qV (fun _ => rfl) rfl fun av wv hE hO hD => ?_
          simp [go_sem, qE (hD.1 rfl _ rfl), k1]
        case s14 =>
          refine qV (fun _ => rfl) rfl fun av wv hE hO hD => ?_
          simp [go_sem, qE (hD.1 rfl _ rfl), k1]
        case s15 =>
          refine qV (fun _ => rfl) rfl fun av wv hE hO hD => ?_
          simp [go_sem, qE (hD.1 rfl _ rfl), k1]
        case s16 =>
          refine qV (fun _ => rfl) rfl fun av wv hE hO hD => ?_
          simp [go_sem, qE (hD.1 rfl _ rfl), k1]
        intro a' w' hE hO hall
        have hA := act_of_outer (ds := [67, 68, 69, 70, 71, 72, 73, 74, 75, 76, 77, 78, 66, 79, 80, 13, 12]) rfl hO (by kernel_rfl)
        obtain ⟨j0, j1, j2, j3, j4, j5, j6, j7, j8, j9, j10, j11, j12, j13, j14, j15, j16, -⟩ := hall
        have e71 : (fun u w' => ∃ b, u = .slice (some ⟨b, 0, none⟩) 1 1 ∧ w'.heap[b]? = some (.cells #[.int .u64 (k : Nat)] 37 (0, 0))) (a'.eval (.tmp 71)) w' := j4 _ rfl
        have e75 : (fun u w' => ∃ b, u = .slice (some ⟨b, 0, none⟩) 1 1 ∧ w'.heap[b]? = some (.cells #[.string y] 9 (0, 0))) (a'.eval (.tmp 75)) w' := j8 _ rfl
        obtain ⟨v71, hv71⟩ : ∃ v, a'.eval (.tmp 71) = v := ⟨_, rfl⟩
        rw [hv71] at e71
        obtain ⟨v75, hv75⟩ : ∃ v, a'.eval (.tmp 75) = v := ⟨_, rfl⟩
        rw [hv75] at e75
        simp only [List.foldl_cons, List.foldl_nil, Act.put, List.setIfInBounds_toArray, List.set_cons_succ, List.set_cons_zero, qJ 67 (j0 _ rfl), qJ 68 (j1 _ rfl), qJ 69 (j2 _ rfl), qJ 70 (j3 _ rfl), hv71, qJ 72 (j5 _ rfl), qJ 73 (j6 _ rfl), qJ 74 (j7 _ rfl), hv75, qJ 76 (j9 _ rfl), qJ 77 (j10 _ rfl), qJ 78 (j11 _ rfl), qJ 66 (j12 _ rfl), qJ 79 (j13 _ rfl), qJ 80 (j14 _ rfl), qJ 13 (j15 _ rfl), qJ 12 (j16 _ rfl)] at hA
        clear hO j4 j8 j0 j1 j2 j3 hv71 j5 j6 j7 hv75 j9 j10 j11 j12 j13 j14 j15 j16
        subst hA
        have HB3 := Lib.hid (of_drew hE)
        have HP3 := (HB3.out.block _ (lt_of_block HP2.out)).trans HP2.out
        have cr : w'.cell? ⟨b0, 0, none⟩ = some (.string root) := block_cell HP3 0
        have HB4 := Lib.hid (bnext HB2.out HB3.out)
        have hce := HCE.out
        clear hE c0 c3 k1 HP3
        by_cases hE0 : E = 0
        · by_cases hSr : S = root
          · have e1 : (S.toList == root.toList) = true := by rw [str_beq]; exact decide_eq_true hSr
            have HF : Hid (verE root f L K r d ⟨((k : Nat) : Int), ws, ps⟩ = 0) := Lib.hid (by rw [HE.out, hce, if_neg (show ¬ (E = 0 ∧ S ≠ root) from fun h9 => h9.2 hSr), if_pos hE0])
            subst hE0
            clear hce hSr
            go_wp2
            go_ret
            exact ⟨by rw [HF.out]; rfl, HB4.out⟩
          · have e1 : (S.toList == root.toList) = false := by rw [str_beq]; exact decide_eq_false hSr
            have HF : Hid (verE root f L K r d ⟨((k : Nat) : Int), ws, ps⟩ = 10) := Lib.hid (by rw [HE.out, hce, if_pos (show E = 0 ∧ S ≠ root from ⟨hE0, hSr⟩)]; rfl)
            subst hE0
            clear hce hSr
            go_wp2
            go_ret
            exact ⟨by rw [HF.out]; rfl, HB4.out⟩
        · have e1 : (E == 0) = false := by simpa using hE0
          have HF : Hid (verE root f L K r d ⟨((k : Nat) : Int), ws, ps⟩ = 10) := Lib.hid (by rw [HE.out, hce, if_neg (show ¬ (E = 0 ∧ S ≠ root) from fun h9 => hE0 h9.1), if_neg hE0])
          clear hce
          go_wp2
          go_ret
          exact ⟨by rw [HF.out]; rfl, HB4.out⟩
      · rw [if_neg (fun h9 => hre h9.2)] at HE
        have e1 : (recE ws d == 0) = false := by simpa using hre
        subst hix
        clear hre
        go_wp2
        go_ret
        exact ⟨by rw [HE.out]; rfl, HB2.out⟩
    · rw [if_neg (fun h9 => hix h9.1)] at HE
      have e1 : (ix == ((k : Nat) : Int)) = false := by simpa using hix
      clear hix
      go_wp2
      go_ret
      exact ⟨by rw [HE.out]; rfl, HB2.out⟩
theorem rverify_any (root d : ByteArray) (wt f L K r : Nat) (ix : Int) (ws ps : List ByteArray) (wa pa : Option Addr) (wc pc : Nat) (w : World) (htw : Txts w wa ws) (htp : Txts w pa ps) (hf : f < 18446744073709551616) (hr : r < 18446744073709551616) (hnw : len ws ≤ 1000000) (hnp : len ps ≤ 1000000) (hpc : len ps ≤ pc) :
    Calls Tryz.prog 28 #[.agg #[.string root, .int .u64 (wt : Nat), .int .u64 (f : Nat), .int .u64 (L : Nat), .int .u64 (K : Nat)], .int .u64 (r : Nat), .string d, .agg #[.int .u64 ix, .slice wa (len ws) wc, .slice pa (len ps) pc]] w fun e w' => e = .returned (.int .i64 (verE root f L K r d ⟨ix, ws, ps⟩)) ∧ Below w.heap.size w w' := by
  cases h : mayV d root L K with
  | true => exact rver14_main root d wt f L K r ix ws ps wa pa wc pc w h htw htp hf hr hnw hnp hpc
  | false => rw [verE_may h]; exact rver14_may root d wt f L K r ix (len ws) (len ps) wa pa wc pc w h
end Go.Proofs.YtoafjbillcooiaaGreat
namespace Go.Proofs.YtoafjbillcooiaaGreat
open Go.RowKit
set_option linter.unusedSimpArgs false
set_option linter.unusedVariables false
def RNewIs (seed : ByteArray) (f L : Nat) (K : Int) (w : World) (e : Ending) (w' : World) : Prop :=
  (newE seed.size f L K ≠ 0 ∧ e = .returned (.tuple #[.pointer none, .int .i64 (newE seed.size f L K)]) ∨ newE seed.size f L K = 0 ∧ ∃ b la lc, e = .returned (.tuple #[.pointer (some ⟨b, 0, none⟩), .int .i64 0]) ∧ RLadAt seed f L K.toNat b la lc w' ∧ K.toNat ≤ lc) ∧ Below w.heap.size w w'
theorem rnewE_may {z f L : Nat} {K : Int} (h : mayL z L K = false) : newE z f L K = 2 := by
  unfold newE
  rw [h]
  rfl
theorem rnewE_over {z f L K : Nat} (h : mayL z L (K : Int) = true) (hf : fitsL f L K = false) : newE z f L (K : Int) = 21 := by
  unfold newE
  rw [if_pos h, Int.toNat_natCast, hf]
  rfl
theorem rnewE_ok {z f L K : Nat} (h : mayL z L (K : Int) = true) (hf : fitsL f L K = true) : newE z f L (K : Int) = 0 := by
  unfold newE
  rw [if_pos h, Int.toNat_natCast, hf]
  rfl
set_option maxRecDepth 100000 in
set_option maxHeartbeats 8000000 in
theorem rnew14_may (seed : ByteArray) (f L : Nat) (K : Int) (w : World) (h : mayL seed.size L K = false) : Calls Tryz.prog 22 #[.string seed, .int .u64 (f : Nat), .int .u64 (L : Nat), .int .i64 K] w fun e w' => e = .returned (.tuple #[.pointer none, .int .i64 2]) ∧ Below w.heap.size w w' := by
  by_cases h1 : seed.size = 32
  · have i1 : ((seed.size : Nat) : Int) = 32 := by omega
    by_cases h2 : L = 0
    · subst h2
      clear h
      go_enter Tryz.func22, Tryz.ntmps22
      go_wp2
      go_ret2
      exact ⟨rfl, by (repeat (first | exact Below.refl _ _ | assumption | (refine bdrew ?_) | (refine bdrewN ?_ _) | (refine balloc ?_ _) | (refine bset ?_ (by first | omega | (simp; done) | (simp; omega)) _) | (refine bnext ?_ (by assumption))))⟩
    · have i2 : ((L : Nat) : Int) ≠ 0 := by omega
      have i2' : (((L : Nat) : Int) == 0) = false := by simpa using h2
      by_cases h3 : K < 1
      · clear h
        go_enter Tryz.func22, Tryz.ntmps22
        go_wp2
        go_ret2
        exact ⟨rfl, by (repeat (first | exact Below.refl _ _ | assumption | (refine bdrew ?_) | (refine bdrewN ?_ _) | (refine balloc ?_ _) | (refine bset ?_ (by first | omega | (simp; done) | (simp; omega)) _) | (refine bnext ?_ (by assumption))))⟩
      · have h4 : 64 < K := by
          unfold mayL at h
          have e1 : decide (seed.size = 32) = true := decide_eq_true h1
          have e2 : decide (0 < L) = true := decide_eq_true (by omega)
          have e3 : decide (1 ≤ K) = true := decide_eq_true (by omega)
          rw [e1, e2, e3] at h
          have := of_decide_eq_false (show decide (K ≤ 64) = false from h)
          omega
        clear h
        go_enter Tryz.func22, Tryz.ntmps22
        go_wp2
        go_ret2
        exact ⟨rfl, by (repeat (first | exact Below.refl _ _ | assumption | (refine bdrew ?_) | (refine bdrewN ?_ _) | (refine balloc ?_ _) | (refine bset ?_ (by first | omega | (simp; done) | (simp; omega)) _) | (refine bnext ?_ (by assumption))))⟩
  · have i1 : ¬ ((seed.size : Nat) : Int) = 32 := by omega
    clear h
    go_enter Tryz.func22, Tryz.ntmps22
    go_wp2
    go_ret2
    exact ⟨rfl, by (repeat (first | exact Below.refl _ _ | assumption | (refine bdrew ?_) | (refine bdrewN ?_ _) | (refine balloc ?_ _) | (refine bset ?_ (by first | omega | (simp; done) | (simp; omega)) _) | (refine bnext ?_ (by assumption))))⟩
set_option maxRecDepth 100000 in
set_option maxHeartbeats 8000000 in
theorem rnew14_main (seed : ByteArray) (f L K : Nat) (w : World) (h : mayL seed.size L (K : Int) = true) (hf : f < 18446744073709551616) (hL : L < 18446744073709551616) : Calls Tryz.prog 22 #[.string seed, .int .u64 (f : Nat), .int .u64 (L : Nat), .int .i64 (K : Nat)] w (RNewIs seed f L (K : Nat) w) := by
  have HM := Lib.hid h
  have hm : 1 ≤ (K : Int) ∧ (K : Int) ≤ 64 ∧ 0 < L ∧ seed.size = 32 := by
    unfold mayL at h
    simp only [Bool.and_eq_true, decide_eq_true_eq] at h
    exact ⟨h.1.2, h.2, h.1.1.2, h.1.1.1⟩
  have HK : Hid (1 ≤ K ∧ K ≤ 64 ∧ 0 < L ∧ seed.size = 32 ∧ f < 18446744073709551616 ∧ L < 18446744073709551616) := Lib.hid ⟨by omega, by omega, hm.2.2.1, hm.2.2.2, hf, hL⟩
  have i1 : ((seed.size : Nat) : Int) = 32 := by have := hm.2.2.2; omega
  have i2 : ((L : Nat) : Int) ≠ 0 := by have := hm.2.2.1; omega
  have i2' : (((L : Nat) : Int) == 0) = false := by have := hm.2.2.1; simp; omega
  have i3 : ¬ (K : Int) < 1 := by omega
  have i4 : ¬ 64 < (K : Int) := by omega
  obtain ⟨i0, hi, hz0, hz1, hz2⟩ := info_parts info_str
  have HZ := Lib.hid hz0
  clear hz0 hm h hf hL
  go_enter Tryz.func22, Tryz.ntmps22
  go_upto_region 4 with fail
  clear i1 i2 i2' i3 i4
  go_wp2
  go_loopg [11, 10] K (fun gg i a wr => ∃ m : Nat, gg + m = K ∧ i = .int .i64 (m : Nat) ∧ a = .int .u64 ((f + m * L : Nat) : Int) ∧ Hid (f + m * L ≤ 18446744073709551615) ∧ Hid (Below w.heap.size w wr))
  case atStart => exact ⟨0, by omega, rfl, by rw [Nat.zero_mul]; rfl, Lib.hid (by have := HK.out; omega), Lib.hid (Below.refl _ _)⟩
  case round =>
    obtain ⟨m, hm, rfl, rfl, HF, HB⟩ := hrel
    by_cases hlt : m < K
    · have b0 : (m : Int) < (K : Int) := by omega
      obtain ⟨t, ht⟩ : ∃ t, f + m * L = t := ⟨_, rfl⟩
      rw [ht]
      have hF := HF.out
      rw [ht] at hF
      by_cases hov : t + L ≤ 18446744073709551615
      · obtain ⟨t2, ht2⟩ : ∃ t2, t + L = t2 := ⟨_, rfl⟩
        have s1 : ((t : Nat) : Int) + (L : Int) = (t2 : Int) := by omega
        have s2 : IntKind.u64.wrap ((t2 : Nat) : Int) = (t2 : Int) := IntWalk.u64_in _ (by omega)
        have s3 : ¬ ((t2 : Nat) : Int) < (t : Int) := by omega
        have HT2 : Hid (f + (m + 1) * L = t2) := Lib.hid (by rw [Nat.add_mul]; omega)
        have HT3 : Hid (t2 ≤ 18446744073709551615) := Lib.hid (by omega)
        have HMM := Lib.hid hm
        have HLT := Lib.hid hlt
        clear ht ht2 hov hF hm hlt
        go_wp2
        go_roundg (gk - 1)
        case rel => exact ⟨m + 1, by have := HMM.out; have := HLT.out; omega, congrArg (Value.int .i64) (by have := HLT.out; have := HK.out; rw [IntWalk.wrap64_in _ (by omega)]; omega), by rw [HT2.out], Lib.hid (by rw [HT2.out]; exact HT3.out), HB⟩
        case measure => have := HMM.out; have := HLT.out; omega
      · obtain ⟨t2, ht2⟩ : ∃ t2, t + L - 18446744073709551616 = t2 := ⟨_, rfl⟩
        have hk := HK.out
        have s1 : IntKind.u64.wrap (((t : Nat) : Int) + (L : Int)) = (t2 : Int) := by
          simp [IntKind.wrap, IntKind.bits, IntKind.signed]
          omega
        have s3 : ((t2 : Nat) : Int) < (t : Int) := by omega
        have HO : Hid (newE seed.size f L ((K : Nat) : Int) = 21) := Lib.hid (rnewE_over HM.out (by
          cases hfl : fitsL f L K with
          | false => rfl
          | true =>
            have h9 := fitsL_mono (m := m + 1) (by omega) (by omega) hfl (by omega)
            rw [Nat.add_mul] at h9
            omega))
        clear ht ht2 hov hF hk
        go_wp2
        go_ret2
        exact ⟨Or.inl ⟨by rw [HO.out]; decide, by rw [HO.out]; rfl⟩, HB.out⟩
    · obtain rfl : m = K := by omega
      have b0 : ¬ ((m : Nat) : Int) < (m : Int) := by omega
      have HN0 : Hid (newE seed.size f L ((m : Nat) : Int) = 0) := Lib.hid (rnewE_ok HM.out ((fitsL_iff (by have := HK.out; omega) (by have := HK.out; omega)).2 HF.out))
      clear hm hlt HM
      obtain ⟨wz, hwz⟩ : ∃ wz, wz = wr := ⟨_, rfl⟩
      subst hwz
      go_upto_region 11 with fail
      obtain ⟨lb, hlb⟩ : ∃ lb, wz.heap.size = lb := ⟨_, rfl⟩
      obtain ⟨w1, hw1⟩ : ∃ w1, wz.alloc (.cells #[.string seed, .int .u64 (f : Nat), .int .u64 (L : Nat), .slice none 0 0] 77) = w1 := ⟨_, rfl⟩
      have HLB : Hid (w1.heap[lb]? = some (.cells #[.string seed, .int .u64 (f : Nat), .int .u64 (L : Nat), .slice none 0 0] 77 (0, 0))) := Lib.hid (by rw [← hw1]; exact alloc_new_at _ hlb)
      have HB1 : Hid (Below w.heap.size w w1) := Lib.hid (by rw [← hw1]; exact balloc HB.out _)
      have HLO : Hid (w.heap.size ≤ lb) := Lib.hid (by rw [← hlb]; exact HB.out.size)
      have HLS : Hid (lb < w1.heap.size) := Lib.hid (lt_of_block HLB.out)
      rw [hw1, hlb]
      clear hw1 hlb HB HF
      clear b0
      go_wp2
      go_loopg [13] m (fun gg i wr => ∃ j : Nat, gg + j = m ∧ i = .int .i64 (j : Nat) ∧ ∃ vv, Hid (wr.heap[lb]? = some (.cells #[.string seed, .int .u64 (f : Nat), .int .u64 (L : Nat), vv] 77 (0, 0))) ∧ Hid (wr.ownsRow w1.heap.size 9 1 vv j ((rungL seed j).map Value.string)) ∧ Hid (Below w.heap.size w wr) ∧ Hid (w1.heap.size ≤ wr.heap.size))
      case atStart => exact ⟨0, by omega, rfl, _, HLB, Lib.hid (World.ownsRow_nil _ _ _ _), HB1, Lib.hid (Nat.le_refl _)⟩
      case round =>
        clear HLB HB1
        obtain ⟨j, hm, rfl, vv, HLB, HO, HB, HBS⟩ := hrel
        by_cases hlt : j < m
        · have b0 : (j : Int) < (m : Int) := by omega
          have bl : ¬ m ≤ j := by omega
          have k2 : IntKind.u64.wrap ((j : Nat) : Int) = (j : Int) := IntWalk.u64_in _ (by have := HK.out; omega)
          have c3 : wr.cell? ⟨lb, 3, none⟩ = some vv := block_cell HLB.out 3
          have hne : some lb ≠ vv.ownBlock := own_lo HO.out HLS.out
          have HPB : Hid (∀ wv, Calls Tryz.prog 64 #[.string seed, .int .u64 (j : Nat)] wv fun e w' => e = .returned (.string (publicP seed j)) ∧ Below wv.heap.size wv w') := Lib.hid (fun wv => rpublic_any seed j wv (by have := HK.out; omega) (by have := HK.out; omega))
          have HRG : Hid (∀ wv, Calls Tryz.prog 63 #[.int .u64 (j : Nat), .string (publicP seed j)] wv fun e w' => e = .returned (.string (num8S j ++ publicP seed j)) ∧ Below wv.heap.size wv w') := Lib.hid (fun wv => rrung_any j (publicP seed j) wv (by have := HK.out; omega) (by rw [publicP_size]; decide))
          obtain ⟨P, hP⟩ : ∃ P, publicP seed j = P := ⟨_, rfl⟩
          obtain ⟨y, hy⟩ : ∃ y, num8S j ++ P = y := ⟨_, rfl⟩
          have HY : Hid (rungP seed j = y) := Lib.hid (by rw [← hy, ← hP]; rfl)
          rw [hP] at HPB HRG
          rw [hy] at HRG
          have hk64 := HK.out.2.1
          have HM := Lib.hid hm
          have HLT := Lib.hid hlt
          clear hP hy hm
          go_upto_region 14 with fail
          clear b0
          refine wp_region_tail 14 13 (vv.ownBlock) (phis [fun u _ => u = (.pointer (some ⟨lb, 0, none⟩)), fun u _ => u = (.pointer (some ⟨lb, 0, none⟩)), fun u _ => u = (.pointer (some ⟨lb, 0, none⟩)), fun u _ => u = (.pointer (some ⟨lb, 3, none⟩)), fun u _ => u = (vv), fun u _ => u = (.int .i64 (j : Nat)), fun u _ => u = (.int .u64 (j : Nat)), fun u _ => u = (.string seed), fun u _ => u = (.int .i64 (j : Nat)), fun u _ => u = (.int .u64 (j : Nat)), fun u _ => u = (.string P), fun u _ => u = (.string y), fun u w' => ∃ b, u = .slice (some ⟨b, 0, none⟩) 1 1 ∧ some b ≠ vv.ownBlock ∧ w'.heap[b]? = some (.cells #[.string y] 9 (0, 0)), fun u w' => w'.ownsRow w1.heap.size 9 1 u (j + 1) ((rungL seed j).map Value.string ++ [.string y])]) rfl (by kernel_rfl) (by kernel_rfl) (mono_of ⟨mono_eq, mono_eq, mono_eq, mono_eq, mono_eq, mono_eq, mono_eq, mono_eq, mono_eq, mono_eq, mono_eq, mono_eq, ?m12, ?m13, trivial⟩) (steps_of 14 ⟨?s0, ?s1, ?s2, ?s3, ?s4, ?s5, ?s6, ?s7, ?s8, ?s9, ?s10, ?s11, ?s12, ?s13, trivial⟩) ?_
          case m12 =>
            exact ⟨fun u w1 w' h ⟨b, h1, hb, hb'⟩ => ⟨b, h1, hb, ext_block h hb'⟩, fun _ u w1 w' h ⟨b, h1, hb, hb'⟩ => ⟨b, h1, hb, extB_block h hb hb'⟩⟩
          case m13 =>
            exact ⟨fun u w1 w' h hu => own_below hu h, fun hn => absurd rfl hn⟩
          case s0 =>
            refine qV (fun _ => rfl) rfl fun av wv hE hO hD => ?_
            simp [go_sem, qF av 12 (.pointer (some ⟨lb, 0, none⟩)) (hO.2.2 12 rfl), k2, bl]
          case s1 =>
            refine qV (fun _ => rfl) rfl fun av wv hE hO hD => ?_
            simp [go_sem, qF av 12 (.pointer (some ⟨lb, 0, none⟩)) (hO.2.2 12 rfl), k2, bl]
          case s2 =>
            refine qV (fun _ => rfl) rfl fun av wv hE hO hD => ?_
            simp [go_sem, qE (hD.1 rfl _ rfl), k2, bl]
          case s3 =>
            refine qV (fun _ => rfl) rfl fun av wv hE hO hD => ?_
            simp [go_sem, qE (hD.1 rfl _ rfl), k2, bl]
          case s4 =>
            refine qV (fun _ => rfl) rfl fun av wv hE hO hD => ?_
            simp [go_sem, qE (hD.1 rfl _ rfl), extB_cell hE hne c3, k2, bl]
          case s5 =>
            refine qV (fun _ => rfl) rfl fun av wv hE hO hD => ?_
            simp [go_sem, qF av 13 (.int .i64 (j : Nat)) (hO.2.2 13 rfl), k2, bl]
          case s6 =>
            refine qV (fun _ => rfl) rfl fun av wv hE hO hD => ?_
            simp [go_sem, qE (hD.1 rfl _ rfl), k2, bl]
          case s7 =>
            refine qV (fun _ => rfl) rfl fun av wv hE hO hD => ?_
            simp [go_sem, qF av 0 (.string seed) (hO.2.2 0 rfl), k2, bl]
          case s8 =>
            refine qV (fun _ => rfl) rfl fun av wv hE hO hD => ?_
            simp [go_sem, qF av 13 (.int .i64 (j : Nat)) (hO.2.2 13 rfl), k2, bl]
          case s9 =>
            refine qV (fun _ => rfl) rfl fun av wv hE hO hD => ?_
            simp [go_sem, qE (hD.1 rfl _ rfl), k2, bl]
          case s10 =>
            refine step_wp (fun av wv hE hS hO hD => ⟨rfl, ?_⟩)
            have f60 := qE (hD.1 rfl _ rfl)
            have f62 := qE (hD.2.1 rfl _ rfl)
            refine wp_of_call (v := .string P) (by simp [go_sem, f60, f62]) (HPB.out wv) (fun w2 hb => ⟨_, rfl, es_of_ext hb, rfl⟩)
          case s11 =>
            refine step_wp (fun av wv hE hS hO hD => ⟨rfl, ?_⟩)
            have f59 := qE (hD.1 rfl _ rfl)
            have f63 := qE (hD.2.1 rfl _ rfl)
            refine wp_of_call (v := .string y) (by simp [go_sem, f59, f63]) (HRG.out wv) (fun w2 hb => ⟨_, rfl, es_of_ext hb, rfl⟩)
          case s12 =>
            refine step_wp (fun av wv hE hS hO hD => ⟨rfl, ?_⟩)
            have f64 := qE (hD.1 rfl _ rfl)
            refine wp_of_run (v := .slice (some ⟨wv.heap.size, 0, none⟩) 1 1) (w' := wv.alloc (.cells #[.string y] 9)) (by simp [go_sem, f64]) ⟨_, rfl, es_of_ext (balloc (Ext_refl _) _), wv.heap.size, rfl, ?_, heap_alloc_new _ _⟩
            exact own_ge HO.out (by have := hE.size; simp at this; omega)
          case s13 =>
            refine step_wp (fun av wv hE hS hO hD => ⟨rfl, ?_⟩)
            have d57 : av.eval (.tmp 57) = (vv) := hD.1 rfl _ rfl
            have d65 : (fun u w' => ∃ b, u = .slice (some ⟨b, 0, none⟩) 1 1 ∧ some b ≠ vv.ownBlock ∧ w'.heap[b]? = some (.cells #[.string y] 9 (0, 0))) (av.eval (.tmp 65)) wv := hD.2.1 rfl _ rfl
            obtain ⟨b27, h27, hb27, hc27⟩ := d65
            have hown1 : wv.ownsRow w1.heap.size 9 1 vv j ((rungL seed j).map Value.string) := own_below (w := wr.drew) HO.out (hS rfl)
            refine wp_append_lies wv _ _ _ rfl w1.heap.size 9 i0 (.string ⟨#[]⟩) 1 16 Tryz.underlying22 hi HZ.out hz1 hz2 rfl (by decide) vv j _ d57 hown1 ⟨b27, 0, none⟩ 1 1 [.string y] (by exact h27) rfl (World.news_of_block hc27) (by intro u hu; simp at hu; rcases hu with rfl; rfl) (by decide) (by unfold maxLen; omega) (by omega) (by have := hE.size; have := HBS.out; simp at *; omega) _ rfl ?_
            intro g2 cap2 w2 hown2 hgrow hat hlt2
            exact ⟨_, rfl, es_sp hgrow, hown2⟩
          intro a' w' hE hO hall
          have hA := act_of_outer (ds := [53, 54, 55, 56, 57, 58, 59, 60, 61, 62, 63, 64, 65, 66]) rfl hO (by kernel_rfl)
          obtain ⟨j0, j1, j2, j3, j4, j5, j6, j7, j8, j9, j10, j11, j12, j13, -⟩ := hall
          have e65 : (fun u w' => ∃ b, u = .slice (some ⟨b, 0, none⟩) 1 1 ∧ some b ≠ vv.ownBlock ∧ w'.heap[b]? = some (.cells #[.string y] 9 (0, 0))) (a'.eval (.tmp 65)) w' := j12 _ rfl
          have e66 : (fun u w' => w'.ownsRow w1.heap.size 9 1 u (j + 1) ((rungL seed j).map Value.string ++ [.string y])) (a'.eval (.tmp 66)) w' := j13 _ rfl
          obtain ⟨v65, hv65⟩ : ∃ v, a'.eval (.tmp 65) = v := ⟨_, rfl⟩
          rw [hv65] at e65
          obtain ⟨v66, hv66⟩ : ∃ v, a'.eval (.tmp 66) = v := ⟨_, rfl⟩
          rw [hv66] at e66
          simp only [List.foldl_cons, List.foldl_nil, Act.put, List.setIfInBounds_toArray, List.set_cons_succ, List.set_cons_zero, qJ 53 (j0 _ rfl), qJ 54 (j1 _ rfl), qJ 55 (j2 _ rfl), qJ 56 (j3 _ rfl), qJ 57 (j4 _ rfl), qJ 58 (j5 _ rfl), qJ 59 (j6 _ rfl), qJ 60 (j7 _ rfl), qJ 61 (j8 _ rfl), qJ 62 (j9 _ rfl), qJ 63 (j10 _ rfl), qJ 64 (j11 _ rfl), hv65, hv66] at hA
          clear hO j12 j13 j0 j1 j2 j3 j4 j5 j6 j7 j8 j9 j10 j11 hv65 hv66
          subst hA
          obtain ⟨g9, c9, rfl⟩ := ownsRow_succ e66
          have HLB2 : Hid (w'.heap[lb]? = some (.cells #[.string seed, .int .u64 (f : Nat), .int .u64 (L : Nat), vv] 77 (0, 0))) := Lib.hid (extB_block hE hne HLB.out)
          have HO2 : Hid (w'.ownsRow w1.heap.size 9 1 (.slice (some ⟨g9, 0, none⟩) (j + 1) c9) (j + 1) ((rungL seed (j + 1)).map Value.string)) := Lib.hid (by
            unfold rungL
            rw [chL_snoc, List.map_append, HY.out]
            exact e66)
          have HB2 : Hid (Below w.heap.size w w') := Lib.hid (grownBy_below (bdrew HB.out) hE (fun k9 hk' => Nat.le_trans (Nat.le_of_lt (Nat.lt_of_le_of_lt HLO.out HLS.out)) (HO.out.lt k9 hk').1))
          have HBS2 : Hid (w1.heap.size ≤ w'.heap.size) := Lib.hid (Nat.le_trans HBS.out hE.size)
          clear hE e65 e66 c3 hne
          simp only [List.drop_succ_cons, List.drop_zero]
          have z0 := fun o => block_cell HLB2.out o
          have z1 : ∀ o, w'.frozen? ⟨lb, o, none⟩ = false := block_free HLB2.out
          have z2 : lb < w'.heap.size := lt_of_block HLB2.out
          go_wp2
          have HLB3 := Lib.hid (block_setCell HLB2.out (o := 3) (.slice (some ⟨g9, 0, none⟩) (j + 1) c9))
          have HO3 : Hid ((w'.setCell ⟨lb, 3, none⟩ (.slice (some ⟨g9, 0, none⟩) (j + 1) c9)).ownsRow w1.heap.size 9 1 (.slice (some ⟨g9, 0, none⟩) (j + 1) c9) (j + 1) ((rungL seed (j + 1)).map Value.string)) := Lib.hid (HO2.out.kept (grownBy_setO _ _ _ _) (.inr (fun e => by
            have h9 := HO2.out.lt g9 rfl
            have h8 := HLS.out
            have h7 : g9 = lb := by simpa [Value.ownBlock] using e
            omega)))
          go_roundg (gk - 1)
          case rel => exact ⟨j + 1, by have := HM.out; have := HLT.out; omega, congrArg (Value.int .i64) (by omega), _, HLB3, HO3, Lib.hid (bset HB2.out HLO.out _), Lib.hid (by simp [World.setCell]; exact HBS2.out)⟩
          case measure => have := HM.out; have := HLT.out; omega
        · obtain rfl : m = j := by omega
          have b0 : ¬ ((m : Nat) : Int) < (m : Int) := by omega
          obtain ⟨aa, ca, hv, hta, hca, -⟩ := TextsAre.own HO.out
          rw [rungL_len] at hv hca
          subst hv
          have HTA := Lib.hid hta
          have HCA := Lib.hid hca
          clear hta hca hm hlt
          go_wp2
          go_ret2
          exact ⟨Or.inr ⟨HN0.out, lb, aa, ca, rfl, ⟨HLB.out, by rw [Int.toNat_natCast]; exact HTA.out⟩, by rw [Int.toNat_natCast]; exact HCA.out⟩, HB.out⟩
end Go.Proofs.YtoafjbillcooiaaGreat
namespace Go.Proofs.YtoafjbillcooiaaGreat
open Go.RowKit Go.ChangeMaps
set_option linter.unusedSimpArgs false
set_option linter.unusedVariables false
theorem dgsL_len (els : List ByteArray) (L : List (Int × Int)) : len (dgsL els L) = L.length := by unfold dgsL; rw [len_eq, List.length_map]
set_option maxRecDepth 100000 in
set_option maxHeartbeats 8000000 in
theorem rprove_ok (els : List ByteArray) (ae : Option Addr) (ce : Nat) (l : List Int) (a : Option Addr) (cap : Nat) (w : World) (ht : Txts w ae els) (hn : len els ≤ 65536) (hz : ∀ i, i < len els → (tth els i).size ≤ 140737488355200) (h : U64s w a l) (hl : len l ≤ 100) (hu : ∀ k ∈ l, U64 k) (hb : MayOk (len els : Nat) l) :
    Calls Tryz.prog 66 #[.slice ae (len els) ce, .slice a (len l) cap] w (ProofIs (dgsL els (plcL (len els : Nat) l)) 0 w) := by
  have HM := Lib.hid (rmay_any (len els : Nat) l a cap w h (by omega) (by omega) (by omega))
  rw [decide_eq_true hb] at HM
  have HT := Lib.hid ht
  have HNE := Lib.hid hn
  have HZE := Lib.hid hz
  have H := Lib.hid h
  have HU := Lib.hid hu
  obtain ⟨d, hd⟩ : ∃ d, depN els = d := ⟨_, rfl⟩
  have HDD := Lib.hid hd
  have HD16 : Hid (d ≤ 16) := Lib.hid (by rw [← hd]; exact depN_le hn)
  have HPL : Hid (plcL (len els : Nat) l = flatLv (needsL (leavesL l d) d)) := Lib.hid (by unfold plcL; rw [depthZ_len hn, hd])
  have HDZ := Lib.hid (fun w9 => refDepth_any (len els : Nat) w9 (by omega) (by omega))
  rw [depthZ_len hn, hd] at HDZ
  have HN := Lib.hid hl
  have HPB : Hid (∀ x ∈ flatLv (needsL (leavesL l d) (d : Nat)), ∃ i k : Nat, x = ((i : Int), (k : Int)) ∧ i < d ∧ k < 2 ^ (d - i)) := Lib.hid (plc_bd HD16.out (leaves_in HD16.out))
  obtain ⟨i0, hi, hz0, hz1, hz2⟩ := info_parts info_str
  have HZ0 := Lib.hid hz0
  clear ht hn hz h hu hb hd hl hz0
  go_enter Tryz.func66, Tryz.ntmps66
  go_wp2_with fail
  refine HM.out.mono ?_
  rintro e w1 ⟨rfl, hb1⟩
  have HB1 := Lib.hid hb1
  clear hb1 HM
  go_wp2_with fail
  refine (HDZ.out _).mono ?_
  rintro e w2 ⟨rfl, rfl⟩
  go_wp2_with fail
  refine (rleaves_any l a cap (d : Nat) w1 (H.out.below HB1.out) (by have := HN.out; omega) HU.out (by have := HD16.out; omega) (by have := HD16.out; omega)).mono ?_
  rintro e w2 ⟨a2, cap2, rfl, hl2, hb2⟩
  have HL2 := Lib.hid hl2
  have HB2 : Hid (Below w.heap.size w w2) := Lib.hid (bnext HB1.out hb2)
  clear hl2 hb2
  have HND := Lib.hid (refNeeds_any a2 cap2 (leavesL l d) (d : Nat) w2 HL2.out (by rw [leavesL_len]; exact HN.out) (leavesL_u64 l d))
  rw [leavesL_len] at HND
  go_wp2_with fail
  refine HND.out.mono ?_
  rintro e w3 ⟨v, vals, rfl, hr1, hr2, hb3⟩
  obtain ⟨rs, hrs⟩ : ∃ rs, needsL (leavesL l d) d = rs := ⟨_, rfl⟩
  have HR1 : Hid (len rs ≤ 16) := Lib.hid (by rw [← hrs]; exact len_nl _ _)
  have HR2 : Hid (∀ i, len (rnth rs i) ≤ 100) := Lib.hid (by rw [← hrs]; exact rnth_nl _ _ (by rw [leavesL_len]; exact HN.out))
  have HR3 : Hid ((flatLv rs).length ≤ 1600) := Lib.hid (by rw [← hrs]; exact flat_bd _ _ (by rw [leavesL_len]; exact HN.out))
  rw [hrs] at hr2 HPL HPB
  obtain ⟨a3, cap3, hv, hR3, hc4, hc5⟩ := rows2_of hr1 hr2
  subst hv
  have R3 := Lib.hid hR3
  have HB3 : Hid (Below w.heap.size w w3) := Lib.hid (bnext HB2.out hb3)
  clear hr1 hr2 hb3 hR3 hrs HND hc4 hc5
  have HT3 := Lib.hid (HT.out.below HB3.out)
  have HO0 : Hid (w3.ownsRow w3.heap.size 9 1 (.slice none 0 0) (len (dgsL els (flatAt rs 0 0))) ((dgsL els (flatAt rs 0 0)).map Value.string)) := Lib.hid (World.ownsRow_nil _ _ _ _)
  clear HB1 HB2 HL2 HDZ
  go_upto_region 7 with fail
  go_loopg [9, 8] (len rs) (fun g i v wr => ∃ m : Nat, g + m = len rs ∧ i = .int .i64 m ∧ Hid (wr.ownsRow w3.heap.size 9 1 v (len (dgsL els (flatAt rs m 0))) ((dgsL els (flatAt rs m 0)).map Value.string)) ∧ Hid (Below w3.heap.size w3 wr))
  case atStart => exact ⟨0, rfl, rfl, HO0, Lib.hid (Below.refl _ _)⟩
  case round =>
    clear HO0
    obtain ⟨m, hm, rfl, HO, HB⟩ := hrel
    have hb1 := HR1.out
    by_cases hlt : m < len rs
    · have b1 : (m : Int) < len rs := by omega
      obtain ⟨rb, ro, ra, rc, rfl, hrc, hru, -⟩ := R3.out m hlt
      have HRC := Lib.hid hrc
      have HRU := Lib.hid hru
      obtain ⟨row, hrow⟩ : ∃ row, rnth rs m = row := ⟨_, rfl⟩
      have HROW := Lib.hid hrow
      have HRL : Hid (len row ≤ 100) := Lib.hid (by rw [← hrow]; exact HR2.out m)
      rw [hrow] at HRC HRU
      have hrl := HRL.out
      have HM9 := Lib.hid hm
      obtain ⟨GK, hGK⟩ : ∃ G, G = gk := ⟨_, rfl⟩
      subst hGK
      have hrc2 := (HB.out.cell (p := ⟨rb, ro + m, none⟩) (lt_of_cell HRC.out)).trans HRC.out
      clear hrc hru hrow hm
      go_upto_region 10 with fail
      clear hrc2
      go_loopg [10, 8] (len row) (fun g j v wr => ∃ q : Nat, g + q = len row ∧ j = .int .i64 q ∧ Hid (wr.ownsRow w3.heap.size 9 1 v (len (dgsL els (flatAt rs m q))) ((dgsL els (flatAt rs m q)).map Value.string)) ∧ Hid (Below w3.heap.size w3 wr))
      case atStart => exact ⟨0, rfl, rfl, HO, HB⟩
      case round =>
        clear HO HB
        obtain ⟨q, hq, rfl, HO, HB⟩ := hrel
        have bm : ¬ len rs ≤ m := by omega
        have cr := (HB.out.cell (p := ⟨rb, ro + m, none⟩) (lt_of_cell HRC.out)).trans HRC.out
        have lcr := lt_of_cell cr
        by_cases hlq : q < len row
        · have b2 : (q : Int) < len row := by omega
          obtain ⟨ub, uo, rfl, hk⟩ := (HRU.out.below HB.out) q hlq
          have lck := lt_of_cell hk
          have hmem : ((m : Int), nth row q) ∈ flatLv rs := by
            have h9 := flat_at rs m q hlt (by rw [HROW.out]; exact hlq)
            rw [HROW.out] at h9
            exact List.mem_of_getElem? h9
          obtain ⟨i9, k, hx, hi9, hk9⟩ := HPB.out _ hmem
          have e1 : i9 = m := by have := congrArg Prod.fst hx; simp only at this; omega
          have e2 : nth row q = ((k : Nat) : Int) := congrArg Prod.snd hx
          subst e1
          rw [e2] at hk
          have HDG := Lib.hid (rdigest_any els ae ce d HD16.out HNE.out HZE.out i9 k wr (by omega) hk9 (HT3.out.below HB.out))
          obtain ⟨X9, hX9⟩ : ∃ X9, plD els d i9 k = X9 := ⟨_, rfl⟩
          rw [hX9] at HDG
          have HSN : Hid (dgsL els (flatAt rs i9 (q + 1)) = dgsL els (flatAt rs i9 q) ++ [X9]) := Lib.hid (by
            rw [flatAt_next rs i9 q (by rw [HROW.out]; exact hlq), dgsL_snoc, HROW.out, e2, HDD.out, ← hX9]
            simp)
          obtain ⟨P9, hP9⟩ : ∃ P9, dgsL els (flatAt rs i9 q) = P9 := ⟨_, rfl⟩
          have HPL9 : Hid (len P9 ≤ 1600) := Lib.hid (by
            rw [← hP9, dgsL_len]
            have h8 := flatAt_lt rs i9 q hlt (by rw [HROW.out]; exact hlq)
            have := HR3.out
            omega)
          rw [hP9] at HO HSN
          clear hmem hx hi9 hk9 e2 hX9 hP9
          go_wp2_with fail
          refine HDG.out.mono ?_
          rintro e w4 ⟨rfl, hb4⟩
          have HO4 : Hid (w4.ownsRow w3.heap.size 9 1 u8 (len P9) (P9.map Value.string)) := Lib.hid (own_below HO.out hb4)
          have HB4 : Hid (Below w3.heap.size w3 w4) := Lib.hid (bnext HB.out hb4)
          have hpb := HPL9.out
          clear hb4 hk cr lck lcr bm HO HB HDG
          go_wp2_with (at_builtin; refine wpList_append_own _ rfl _ _ 22 rfl w3.heap.size 9 i0 (.string ⟨#[]⟩) 1 16 Tryz.underlying22 hi HZ0.out hz1 hz2 rfl (by decide) _ _ _ rfl (HO4.out.alloc _) ⟨w4.heap.size, 0, none⟩ 1 1 [.string X9] rfl rfl (World.news_of_block (heap_alloc_new _ _)) (by intro u hu9; simp at hu9; subst hu9; rfl) (by unfold maxLen; omega) (by omega) (by have := HB4.out.size; simp; omega) ?_; intro v2 w5 hown2 hgrow2 _)
          have HO5 : Hid (w5.ownsRow w3.heap.size 9 1 v2 (len (dgsL els (flatAt rs i9 (q + 1)))) ((dgsL els (flatAt rs i9 (q + 1))).map Value.string)) := Lib.hid (by
            have e9 : len (P9 ++ [X9]) = len P9 + 1 := by rw [len_eq, List.length_append]; rfl
            rw [HSN.out, List.map_append, e9]
            exact hown2)
          have HB5 : Hid (Below w3.heap.size w3 w5) := Lib.hid (grownBy_below (balloc HB4.out _) hgrow2 (fun k hk' => (HO4.out.lt k hk').1))
          clear hown2 hgrow2
          go_wp2
          go_roundg (len row - (q + 1))
          case rel => exact ⟨q + 1, by omega, by go_num, HO5, HB5⟩
          case measure => omega
        · obtain rfl : q = len row := by omega
          have b2 : ¬ ((len row : Nat) : Int) < len row := by omega
          have HO2 : Hid (wr.ownsRow w3.heap.size 9 1 u8 (len (dgsL els (flatAt rs (m + 1) 0))) ((dgsL els (flatAt rs (m + 1) 0)).map Value.string)) := Lib.hid (by
            have h9 := HO.out
            rw [← HROW.out, flatAt_row rs m hlt] at h9
            exact h9)
          have hm := HM9.out
          go_wp2
          go_roundg (len rs - (m + 1))
          case rel => exact ⟨m + 1, by omega, by go_num, HO2, HB⟩
          case measure => omega
    · obtain rfl : m = len rs := by omega
      have b1 : ¬ ((len rs : Nat) : Int) < len rs := by omega
      have HO2 : Hid (wr.ownsRow w.heap.size 9 1 u8 (len (dgsL els (plcL (len els : Nat) l))) ((dgsL els (plcL (len els : Nat) l)).map Value.string)) := Lib.hid (by
        have h9 := HO.out
        rw [flatAt_end, ← HPL.out] at h9
        exact own_lower h9 HB3.out.size)
      go_wp2
      go_ret2
      exact ⟨_, rfl, HO2.out, bnext HB3.out HB.out⟩
end Go.Proofs.YtoafjbillcooiaaGreat
namespace Go.Proofs.YtoafjbillcooiaaGreat
open Go.RowKit
set_option linter.unusedSimpArgs false
set_option linter.unusedVariables false
theorem rprove1_are (els : List ByteArray) (ae : Option Addr) (ce k b : Nat) (w : World) (ht : Txts w ae els) (hn : len els ≤ 65536) (hz : ∀ i, i < len els → (tth els i).size ≤ 140737488355200) (hk : k < len els) (hb : w.heap[b]? = some (.cells #[.int .u64 (k : Nat)] 37 (0, 0))) : Calls Tryz.prog 66 #[.slice ae (len els) ce, .slice (some ⟨b, 0, none⟩) 1 1] w fun e w' => ∃ v, e = .returned (.tuple #[v, .int .i64 0]) ∧ TextsAre (oneD els k) v w' ∧ Below w.heap.size w w' := by
  refine (rprove_ok els ae ce [((k : Nat) : Int)] (some ⟨b, 0, none⟩) 1 w ht hn hz (fun i hi => ⟨b, 0, rfl, by
    have hi : i < 1 := hi
    obtain rfl : i = 0 := by omega
    exact block_cell hb 0⟩) (show 1 ≤ 100 by decide) (fun x hx => by
      have hx : x = ((k : Nat) : Int) := by simpa using hx
      subst hx
      unfold U64
      omega) (one_may hk)).mono ?_
  rintro e w' ⟨v, rfl, hr, hbb⟩
  exact ⟨v, rfl, TextsAre.own hr, hbb⟩
theorem texts_set {L : List ByteArray} {v : Value} {w : World} {sb o : Nat} {cs : Array Value} {t : TypeId} {fr : Nat × Nat} (h : TextsAre L v w) (hs : w.heap[sb]? = some (.cells cs t fr)) (hcs : ∀ (n : Nat) (s : ByteArray), cs[n]? ≠ some (.string s)) (x : Value) : TextsAre L v (w.setCell ⟨sb, o, none⟩ x) := by
  obtain ⟨a, c, rfl, h2, h3⟩ := h
  refine ⟨a, c, rfl, fun i hi => ?_, h3⟩
  obtain ⟨b, off, rfl, hc⟩ := h2 i hi
  refine ⟨b, off, rfl, ?_⟩
  have hne : b ≠ sb := fun e => by
    subst e
    rw [block_cell hs] at hc
    exact hcs _ _ hc
  rw [World.cell?_of_block (w := w) (a := ⟨b, off + i, none⟩) (Below.heap_setCell _ _ _ _ hne)]
  exact hc
theorem sig3 (x : Int) (a1 a2 : Option Addr) (m1 m2 p1 p2 n : Nat) (s : ByteArray) : (#[Value.int .u64 x, .slice a1 m1 p1, .slice a2 m2 p2] : Array Value)[n]? ≠ some (.string s) := by
  match n with
  | 0 => simp
  | 1 => simp
  | 2 => simp
  | n + 3 => simp
theorem texts_sig3 {L : List ByteArray} {v : Value} {w : World} {sb : Nat} {t : TypeId} {x y : Int} {a1 a2 b1 b2 : Option Addr} {m1 m2 p1 p2 n1 n2 q1 q2 : Nat} (h : TextsAre L v w) (hs : w.heap[sb]? = some (.cells #[.int .u64 x, .slice a1 m1 p1, .slice a2 m2 p2] t (0, 0))) : TextsAre L v (((w.setCell ⟨sb, 0, none⟩ (.int .u64 y)).setCell ⟨sb, 1, none⟩ (.slice b1 n1 q1)).setCell ⟨sb, 2, none⟩ (.slice b2 n2 q2)) := by
  have h1 := block_setCell hs (o := 0) (.int .u64 y)
  have h2 := block_setCell h1 (o := 1) (.slice b1 n1 q1)
  refine texts_set (texts_set (texts_set h hs (fun n s => sig3 _ _ _ _ _ _ _ n s) _) h1 (fun n s => ?_) _) h2 (fun n s => ?_) _
  · exact sig3 y a1 a2 m1 m2 p1 p2 n s
  · exact sig3 y b1 a2 n1 m2 q1 p2 n s
set_option maxRecDepth 100000 in
set_option maxHeartbeats 4000000 in
theorem rsign14_any (seed d : ByteArray) (f L K lb r : Nat) (la : Option Addr) (lc : Nat) (w : World) (h : RLadAt seed f L K lb la lc w) (hf : f < 18446744073709551616) (hr : r < 18446744073709551616) (hL : 0 < L) (hK : K ≤ 64) (hsd : seed.size ≤ 1000) :
    Calls Tryz.prog 24 #[.pointer (some ⟨lb, 0, none⟩), .int .u64 (r : Nat), .string d] w (SignIs (signD seed f L K r d) (signE f L K r d) w) := by
  have HKY := Lib.hid (fun wv (hx : RLadAt seed f L K lb la lc wv) => rkeyM_any seed f L K lb r la lc wv hx hK hf hr hL)
  have HK := Lib.hid hK
  have HSD := Lib.hid hsd
  obtain ⟨xb, hxb⟩ : ∃ xb, w.heap.size = xb := ⟨_, rfl⟩
  have HXB : Hid (w.heap.size ≤ xb) := Lib.hid (Nat.le_of_eq hxb)
  have ha := alloc_new_at (.cells #[.int .u64 0, .slice none 0 0, .slice none 0 0] 54) hxb
  have H1 := Lib.hid (h.below (balloc (Below.refl _ w) (.cells #[.int .u64 0, .slice none 0 0, .slice none 0 0] 54)))
  have HXA := Lib.hid ha
  clear h hf hr hL hK hsd ha
  go_enter Tryz.func24, Tryz.ntmps24
  go_wp2_with fail
  refine (HKY.out _ H1.out).mono ?_
  rintro e w1 ⟨rfl, hb⟩
  have HB1 : Hid (Below w.heap.size w w1) := Lib.hid (bnext (balloc (Below.refl _ _) _) hb)
  have HR1 : Hid (w1.heap[xb]? = some (.cells #[.int .u64 0, .slice none 0 0, .slice none 0 0] 54 (0, 0))) := Lib.hid ((hb.block _ (lt_of_block HXA.out)).trans HXA.out)
  have HL1 := Lib.hid (H1.out.below hb)
  unfold keyV
  clear hb hxb
  have z0 := fun o => block_cell HR1.out o
  have z1 : ∀ o, w1.frozen? ⟨xb, o, none⟩ = false := block_free HR1.out
  have z2 : xb < w1.heap.size := lt_of_block HR1.out
  cases hk : keyO f L K r with
  | none =>
    have HS := Lib.hid (signD_no (seed := seed) (d := d) hk)
    dsimp only [Option.getD, Option.isSome]
    clear hk
    go_wp2
    have hk9 := block_setCell (block_setCell (block_setCell HR1.out (o := 0) (.int .u64 0)) (o := 1) (.slice none 0 0)) (o := 2) (.slice none 0 0)
    have e0 := block_cell hk9 0
    have e1 := block_cell hk9 1
    have e2 := block_cell hk9 2
    refine bodyPost_ret (v := .tuple #[.agg #[.int .u64 0, .slice none 0 0, .slice none 0 0], .int .i64 16]) ?_ rfl ⟨.slice none 0 0, .slice none 0 0, by rw [HS.out.1, HS.out.2], by rw [HS.out.1]; exact TextsAre.nil _, by rw [HS.out.1]; exact TextsAre.nil _, bset (bset (bset HB1.out HXB.out _) HXB.out _) HXB.out _⟩
    simp [results, Tryz.results24, go_sem, e0, e1, e2]
  | some k =>
    have HK9 := Lib.hid hk
    dsimp only [Option.getD, Option.isSome]
    clear hk
    by_cases h32 : d.size = 32
    · have i1 : ((d.size : Nat) : Int) = 32 := by omega
      have HS := Lib.hid (signD_ok HK9.out h32 (seed := seed))
      have HSG : Hid (sgE d = 0) := Lib.hid (if_pos h32)
      have c0 : w1.cell? ⟨lb, 0, none⟩ = some (.string seed) := block_cell HL1.out.c 0
      clear h32 z0 z1 z2
      go_wp2_with fail
      refine (rsign13_any seed k d w1 (by have := (keyO_some HK9.out).2.2; have := HK.out; omega) HSD.out).mono ?_
      rintro e w2 ⟨v, rfl, htv, hb⟩
      rw [HSG.out]
      obtain ⟨a1, c1, rfl, -⟩ := (id htv)
      have HTV := Lib.hid htv
      have HB2 := Lib.hid (bnext HB1.out hb)
      have HL2 := Lib.hid (HL1.out.below hb)
      have HR2 := Lib.hid ((hb.block _ (lt_of_block HR1.out)).trans HR1.out)
      have c3 : w2.cell? ⟨lb, 3, none⟩ = some (.slice la K lc) := block_cell HL2.out.c 3
      clear hb htv c0 i1
      go_wp2_with fail
      have hpv := rprove1_are (rungL seed K) la lc k w2.heap.size (w2.alloc (.cells #[.int .u64 (k : Nat)] 37)) (HL2.out.t.below (balloc (Below.refl _ _) _)) (by rw [rungL_len]; have := HK.out; omega) (fun i hi => by rw [rungL_len] at hi; rw [rungL_at _ _ _ hi, rungP_size]; decide) (by rw [rungL_len]; exact (keyO_some HK9.out).2.2) (heap_alloc_new _ _)
      rw [rungL_len] at hpv
      refine hpv.mono ?_
      rintro e w3 ⟨p, rfl, htp, hb⟩
      obtain ⟨a2, c2, rfl, -⟩ := (id htp)
      have hb3 : Below w2.heap.size w2 w3 := bnext (balloc (Below.refl _ _) _) hb
      have HTP := Lib.hid htp
      have HTV3 := Lib.hid (HTV.out.below hb3)
      have HB3 := Lib.hid (bnext HB2.out hb3)
      have HR3 := Lib.hid ((hb3.block _ (lt_of_block HR2.out)).trans HR2.out)
      have z0 := fun o => block_cell HR3.out o
      have z1 : ∀ o, w3.frozen? ⟨xb, o, none⟩ = false := block_free HR3.out
      have z2 : xb < w3.heap.size := lt_of_block HR3.out
      obtain ⟨n1, hn1⟩ : ∃ n1, len (sgL seed k d) = n1 := ⟨_, rfl⟩
      obtain ⟨n2, hn2⟩ : ∃ n2, len (oneD (rungL seed K) k) = n2 := ⟨_, rfl⟩
      rw [hn1, hn2]
      rw [hn1] at HTV3
      rw [hn2] at HTP
      clear hb hb3 htp hpv c3 hn1 hn2
      go_wp2
      have hk9 := block_setCell (block_setCell (block_setCell HR3.out (o := 0) (.int .u64 (k : Nat))) (o := 1) (.slice a1 n1 c1)) (o := 2) (.slice a2 n2 c2)
      have e0 := block_cell hk9 0
      have e1 := block_cell hk9 1
      have e2 := block_cell hk9 2
      refine bodyPost_ret (v := .tuple #[.agg #[.int .u64 (k : Nat), .slice a1 n1 c1, .slice a2 n2 c2], .int .i64 0]) ?_ rfl ⟨.slice a1 n1 c1, .slice a2 n2 c2, by rw [HS.out.1, HS.out.2], ?_, ?_, bset (bset (bset HB3.out HXB.out _) HXB.out _) HXB.out _⟩
      · simp [results, Tryz.results24, go_sem, e0, e1, e2]
      · rw [HS.out.1]
        exact texts_sig3 HTV3.out HR3.out
      · rw [HS.out.1]
        exact texts_sig3 HTP.out HR3.out
    · have i1 : ¬ ((d.size : Nat) : Int) = 32 := by omega
      have HS := Lib.hid (signD_bad HK9.out h32 (seed := seed))
      clear h32
      go_wp2
      have hk9 := block_setCell (block_setCell (block_setCell HR1.out (o := 0) (.int .u64 0)) (o := 1) (.slice none 0 0)) (o := 2) (.slice none 0 0)
      have e0 := block_cell hk9 0
      have e1 := block_cell hk9 1
      have e2 := block_cell hk9 2
      refine bodyPost_ret (v := .tuple #[.agg #[.int .u64 0, .slice none 0 0, .slice none 0 0], .int .i64 2]) ?_ rfl ⟨.slice none 0 0, .slice none 0 0, by rw [HS.out.1, HS.out.2], by rw [HS.out.1]; exact TextsAre.nil _, by rw [HS.out.1]; exact TextsAre.nil _, bset (bset (bset HB1.out HXB.out _) HXB.out _) HXB.out _⟩
      simp [results, Tryz.results24, go_sem, e0, e1, e2]
end Go.Proofs.YtoafjbillcooiaaGreat
