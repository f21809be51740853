/- Contracts: shape, works; the statement CertShapes. -/
import Derived.Test.YtmcmapcijncblaaCertJ
namespace Go.Proofs.Ytmcmapcijncblaa
open Go.RowKit

def mkC (revs : List Rev) (coins : List Int) (signed : Int) : CertV := ⟨⟨#[]⟩, signed, none, 0, none, 0, none, 0, 0, none, 0, 0, revs, coins⟩
/-- The certificate that is made. -/
def madeC (l : List One) (coins : List Int) (signed : Int) : CertV := mkC ((l.take 30).map revOf) (coins.take 60) signed

structure One.Ok (r : One) : Prop where
  pos0 : 0 ≤ r.pos
  pos1 : r.pos < 18446744073709551616
  L0 : 0 ≤ r.L
  L1 : r.L < 18446744073709551616
  wt0 : 0 ≤ r.wt
  wt1 : r.wt < 18446744073709551616
  root0 : 0 ≤ r.root
  root1 : r.root ≤ 255
theorem One.zero_ok : One.Ok One.zero := ⟨by decide, by decide, by decide, by decide, by decide, by decide, by decide, by decide⟩

theorem shapeOf_made {l : List One} {coins : List Int} {signed most : Int} {c : CertV} (h1 : c.revs = (l.take 30).map revOf) (h2 : c.coins = coins.take 60) (h3 : c.signed = signed) : shapeOf c most = shapeOf (madeC l coins signed) most := by
  unfold shapeOf moreB lastB madeC mkC
  simp only [h1, h2, h3]

theorem certOk_made {w : World} {l : List One} {coins : List Int} {signed : Int} {c : CertV} (h1 : c.revs = (l.take 30).map revOf) (h2 : c.coins = coins.take 60) (h3 : c.signed = signed)
    (hr : Revs w c.ra c.revs) (hu : U64s w c.ca c.coins) (hrc : len c.revs ≤ c.rc) (hs : signed < 18446744073709551616) (hok : ∀ i, (onth l i).Ok) : CertOk w c where
  revs := hr
  coins := hu
  ok := fun i => by
    rcases Nat.lt_or_ge i (len c.revs) with h | h
    · rw [rnth_eq c.revs i h]
      have h' : i < ((l.take 30).map revOf).length := by rw [← h1]; exact h
      have e : c.revs[i]'h = revOf (onth l i) := by
        have hil : i < l.length := by simp at h'; omega
        have : c.revs[i]? = some (revOf (onth l i)) := by
          rw [h1, List.getElem?_map, List.getElem?_take, if_pos (by simp at h'; omega), List.getElem?_eq_getElem hil, onth_eq l i hil]; rfl
        simpa [List.getElem?_eq_getElem h] using this
      rw [e]
      have o := hok i
      exact ⟨o.pos0, o.pos1, o.L0, o.L1, o.wt0, o.wt1⟩
    · have e : rnth c.revs i = Rev.zero := by unfold rnth; rw [List.getD_eq_getElem?_getD, List.getElem?_eq_none h]; rfl
      rw [e]; exact Rev.zero_ok
  s1 := by rw [h3]; exact hs
  rlen := by rw [h1, len_eq]; simp; omega
  rcap := hrc
  clen := by rw [h2, len_eq]; simp; omega

theorem shape_call (a : Option Addr) (cap : Nat) (l : List One) (ca : Option Addr) (cc : Nat) (coins : List Int) (signed most : Int) (w : World) (hlen : len l ≤ 9223372036854775807) (hcl : len coins ≤ 9223372036854775807) (hcc : len coins ≤ cc) (hc : Ones w a l) (hu : U64s w ca coins)
    (hs : signed < 18446744073709551616) (hok : ∀ i, (onth l i).Ok) :
    Calls Try.prog 13 #[.slice a (len l) cap, .slice ca (len coins) cc, .int .u64 signed, .int .i64 most] w
      fun e w' => e = .returned (.int .i64 (shapeOf (madeC l coins signed) most)) ∧ Below w.heap.size w w' := by
  have HC := Lib.hid hc
  have HU := Lib.hid hu
  have HOK := Lib.hid hok
  have HS := Lib.hid hs
  clear hc hu hok hs
  go_enter Try.func13, Try.ntmps13
  go_wp2_with fail
  refine (made_any a cap l ca cc coins signed w hlen hcl hcc HC.out HU.out (fun i => ⟨(HOK.out i).root0, (HOK.out i).root1⟩)).mono ?_
  rintro e w1 ⟨c, rfl, h1, h2, h3, h4, h5, h6, hb⟩
  have HCO := Lib.hid (certOk_made h1 h2 h3 h4 h5 h6 HS.out HOK.out)
  have HE := Lib.hid (shapeOf_made (most := most) h1 h2 h3)
  have HB := Lib.hid hb
  clear h1 h2 h3 h4 h5 h6 hb
  go_wp2_with fail
  refine (shape_any c most w1 HCO.out).mono ?_
  rintro e w2 ⟨rfl, hb⟩
  go_wp2
  go_ret
  exact ⟨ret_int HE.out, bnext HB.out hb⟩

theorem alloc_u64s (w : World) (cs : Array Value) (e : TypeId) (l : List Int) (h : cs.toList = l.map (Value.int .u64)) : U64s (w.alloc (.cells cs e)) (some ⟨w.heap.size, 0, none⟩) l := fun i hi => by
  refine ⟨w.heap.size, 0, rfl, ?_⟩
  rw [block_cell (heap_alloc_new w _), Nat.zero_add, ← Array.getElem?_toList, h, List.getElem?_map, List.getElem?_eq_getElem hi, nth_eq l i hi]; rfl

theorem own_ones {w : World} {base e n : Nat} {v : Value} {l : List One} (h : w.ownsRow base e 4 v n (l.flatMap One.cells)) : ∃ a cap, v = .slice a (len l) cap ∧ Ones w a l ∧ len l ≤ cap := by
  have hcl : ∀ r : One, r.cells.length = 4 := fun _ => rfl
  have hn : len l = n := by
    have := h.1; rw [flat_length One.cells 4 hcl] at this; rw [len_eq]; omega
  obtain ⟨h1, h2⟩ := h
  rcases h2 with ⟨rfl, h2⟩ | ⟨g, cap, cur, rfl, hg, hh, hc1, hc2, hc3, hc4⟩
  · obtain rfl : l = [] := List.eq_nil_of_length_eq_zero (by rw [← len_eq]; omega)
    exact ⟨none, 0, rfl, fun i hi => by simp [len] at hi, Nat.le_refl _⟩
  · refine ⟨some ⟨g, 0, none⟩, cap, by rw [hn], fun i hi => ⟨g, 0, rfl, ?_⟩, by omega⟩
    have hown : w.ownsRow base e 4 (.slice (some ⟨g, 0, none⟩) n cap) n (l.flatMap One.cells) := ⟨h1, .inr ⟨g, cap, cur, rfl, hg, hh, hc1, hc2, hc3, hc4⟩⟩
    have key : ∀ r, r < 4 → w.cell? ⟨g, 0 + i * 4 + r, none⟩ = (onth l i).cells[r]? := fun r hr => by
      have := hown.cellAt (i * 4 + r) (by rw [← hn]; omega)
      rw [Nat.zero_add, this, flat_get One.cells 4 hcl l i r hi hr, onth_eq l i hi]
    exact ⟨key 0 (by decide), key 1 (by decide), key 2 (by decide), key 3 (by decide)⟩

theorem ofL_ok (l : List Int) (n : Nat) (h : ∀ i, 0 ≤ nth l i ∧ nth l i < 18446744073709551616) : ∀ i, (onth (ofL l n) i).Ok := fun i => by
  rcases Nat.lt_or_ge i n with hi | hi
  · have e : onth (ofL l n) i = ⟨nth l (3 * i), nth l (3 * i + 1), nth l (3 * i + 2), 32⟩ := by
      rw [onth_eq _ i (by simp [ofL]; exact hi)]; simp [ofL]
    rw [e]
    exact ⟨(h _).1, (h _).2, (h _).1, (h _).2, (h _).1, (h _).2, (by decide : (0 : Int) ≤ 32), (by decide : (32 : Int) ≤ 255)⟩
  · have e : onth (ofL l n) i = One.zero := by unfold onth; rw [List.getD_eq_getElem?_getD, List.getElem?_eq_none (by simp [ofL]; exact hi)]; rfl
    rw [e]; exact One.zero_ok

def twoL : List Int := [0, 0, 5, 2, 5, 3]
def badL : List Int := [2, 5, 3, 0, 0, 5]
theorem nth_all (l : List Int) (B : Int) (hB : 0 < B) (h : l.all (fun x => decide (0 ≤ x ∧ x < B)) = true) : ∀ i, 0 ≤ nth l i ∧ nth l i < B := fun i => by
  rcases Nat.lt_or_ge i l.length with hi | hi
  · rw [nth_eq l i hi]
    simpa using List.all_eq_true.1 h l[i] (List.getElem_mem hi)
  · have : nth l i = 0 := by unfold nth; rw [List.getD_eq_getElem?_getD, List.getElem?_eq_none hi]; rfl
    rw [this]; exact ⟨Int.le_refl _, hB⟩

set_option maxRecDepth 100000 in
set_option maxHeartbeats 1000000 in
theorem works_any (w : World) : Calls Try.prog 11 #[] w fun e w' => e = .returned (.bool true) ∧ Below w.heap.size w w' := by
  have g1 : shapeOf (madeC (ofL twoL 2) [2, 0, 2] 8) 3 = 0 := by decide +kernel
  have g2 : shapeOf (madeC (ofL twoL 2) [2, 0, 2] 8) 2 = 7 := by decide +kernel
  have g3 : shapeOf (madeC (ofL twoL 2) [2, 0, 1] 8) 3 = 8 := by decide +kernel
  have g4 : shapeOf (madeC (ofL twoL 2) [2, 2] 8) 3 = 8 := by decide +kernel
  have g5 : shapeOf (madeC (ofL twoL 2) [2, 0] 7) 3 = 5 := by decide +kernel
  have g6 : shapeOf (madeC (ofL badL 2) [0, 2] 8) 3 = 5 := by decide +kernel
  have g7 : shapeOf (madeC [] [] 0) 0 = 0 := by decide +kernel
  have G := Lib.hid (And.intro g1 (And.intro g2 (And.intro g3 (And.intro g4 (And.intro g5 (And.intro g6 g7))))))
  clear g1 g2 g3 g4 g5 g6 g7
  go_enter Try.func11, Try.ntmps11
  go_wp2_with fail
  refine (of_any _ 6 twoL _ (by decide) (alloc_u64s w _ _ twoL rfl)).mono ?_
  rintro e w1 ⟨v, rfl, hv, hb⟩
  obtain ⟨a1, c1, rfl, ho, hc⟩ := own_ones (l := ofL twoL 2) hv
  have B1 := Lib.hid (bnext (balloc (Below.refl _ _) _) hb)
  have O1 := Lib.hid ho
  clear hv hb ho
  go_wp2_with fail
  refine (shape_call a1 c1 (ofL twoL 2) _ 3 [2, 0, 2] 8 3 _ (by decide) (by decide) (by decide) (O1.out.below (balloc (Below.refl _ _) _)) (alloc_u64s _ _ _ [2, 0, 2] rfl) (by decide) (ofL_ok _ _ (nth_all twoL _ (by decide) (by decide)))).mono ?_
  rintro e w2 ⟨he, hb⟩
  rw [G.out.1] at he
  subst he
  have H2 := Lib.hid (bnext (balloc (Below.refl _ _) _) hb)
  clear hb
  go_wp2_with fail
  refine (shape_call a1 c1 (ofL twoL 2) _ 3 [2, 0, 2] 8 2 _ (by decide) (by decide) (by decide) (O1.out.below (balloc H2.out _)) (alloc_u64s _ _ _ [2, 0, 2] rfl) (by decide) (ofL_ok _ _ (nth_all twoL _ (by decide) (by decide)))).mono ?_
  rintro e w3 ⟨he, hb⟩
  rw [G.out.2.1] at he
  subst he
  have H3 := Lib.hid (bnext (balloc H2.out _) hb)
  clear hb
  go_wp2_with fail
  refine (shape_call a1 c1 (ofL twoL 2) _ 3 [2, 0, 1] 8 3 _ (by decide) (by decide) (by decide) (O1.out.below (balloc H3.out _)) (alloc_u64s _ _ _ [2, 0, 1] rfl) (by decide) (ofL_ok _ _ (nth_all twoL _ (by decide) (by decide)))).mono ?_
  rintro e w4 ⟨he, hb⟩
  rw [G.out.2.2.1] at he
  subst he
  have H4 := Lib.hid (bnext (balloc H3.out _) hb)
  clear hb
  go_wp2_with fail
  refine (shape_call a1 c1 (ofL twoL 2) _ 2 [2, 2] 8 3 _ (by decide) (by decide) (by decide) (O1.out.below (balloc H4.out _)) (alloc_u64s _ _ _ [2, 2] rfl) (by decide) (ofL_ok _ _ (nth_all twoL _ (by decide) (by decide)))).mono ?_
  rintro e w5 ⟨he, hb⟩
  rw [G.out.2.2.2.1] at he
  subst he
  have H5 := Lib.hid (bnext (balloc H4.out _) hb)
  clear hb
  go_wp2_with fail
  refine (shape_call a1 c1 (ofL twoL 2) _ 2 [2, 0] 7 3 _ (by decide) (by decide) (by decide) (O1.out.below (balloc H5.out _)) (alloc_u64s _ _ _ [2, 0] rfl) (by decide) (ofL_ok _ _ (nth_all twoL _ (by decide) (by decide)))).mono ?_
  rintro e w6 ⟨he, hb⟩
  rw [G.out.2.2.2.2.1] at he
  subst he
  have H6 := Lib.hid (bnext (balloc H5.out _) hb)
  clear hb
  go_wp2_with fail
  refine (of_any _ 6 badL _ (by decide) (alloc_u64s w6 _ _ badL rfl)).mono ?_
  rintro e w16 ⟨v, rfl, hv, hb⟩
  obtain ⟨a2, c2, rfl, ho, hc2⟩ := own_ones (l := ofL badL 2) hv
  have B2 := Lib.hid (bnext (balloc (Below.refl _ _) _) hb)
  have O2 := Lib.hid ho
  clear hv hb ho
  go_wp2_with fail
  refine (shape_call a2 c2 (ofL badL 2) _ 2 [0, 2] 8 3 _ (by decide) (by decide) (by decide) (O2.out.below (balloc (Below.refl _ _) _)) (alloc_u64s _ _ _ [0, 2] rfl) (by decide) (ofL_ok _ _ (nth_all badL _ (by decide) (by decide)))).mono ?_
  rintro e w7 ⟨he, hb⟩
  rw [G.out.2.2.2.2.2.1] at he
  subst he
  have H7 := Lib.hid (bnext (balloc (Below.refl _ _) _) hb)
  clear hb
  go_wp2_with fail
  refine (shape_call none 0 [] none 0 [] 0 0 _ (by decide) (by decide) (by decide) (fun i hi => by simp [len] at hi) (U64s.nil _ _) (by decide) (fun _ => One.zero_ok)).mono ?_
  rintro e w8 ⟨he, hb⟩
  rw [G.out.2.2.2.2.2.2] at he
  subst he
  go_wp2
  go_ret
  exact ⟨rfl, bnext (bnext (bnext (bnext B1.out H6.out) B2.out) H7.out) hb⟩

theorem CertOk.below {w w' : World} {c : CertV} (h : CertOk w c) (hb : Below w.heap.size w w') : CertOk w' c := ⟨h.revs.below hb, h.coins.below hb, h.ok, h.s1, h.rlen, h.rcap, h.clen⟩

set_option maxRecDepth 100000 in
set_option maxHeartbeats 1000000 in
theorem shapes_law (a : Option Addr) (cap : Nat) (l : List One) (ca : Option Addr) (cc : Nat) (coins : List Int) (n0 n1 : Int) (w : World) (hlen : len l ≤ 9223372036854775807) (hcl : len coins ≤ 9223372036854775807) (hcc : len coins ≤ cc) (hc : Ones w a l) (hu : U64s w ca coins)
    (hok : ∀ i, (onth l i).Ok) (h0 : n0 < 18446744073709551616) :
    Calls Try.prog 3 #[.slice a (len l) cap, .slice ca (len coins) cc, .agg #[.int .u64 n0, .int .u64 n1]] w
      fun e w' => e = .returned (.bool true) ∧ Below w.heap.size w w' := by
  have HC := Lib.hid hc
  have HU := Lib.hid hu
  have HOK := Lib.hid hok
  have HS := Lib.hid h0
  clear hc hu hok h0
  go_enter Try.func3, Try.ntmps3
  go_wp2_with fail
  refine (made_any a cap l ca cc coins n0 _ hlen hcl hcc (HC.out.below (balloc (Below.refl _ _) _)) (HU.out.below (balloc (Below.refl _ _) _)) (fun i => ⟨(HOK.out i).root0, (HOK.out i).root1⟩)).mono ?_
  rintro e w1 ⟨c, rfl, h1, h2, h3, h4, h5, h6, hb⟩
  have hco := certOk_made h1 h2 h3 h4 h5 h6 HS.out HOK.out
  have hz : w.heap.size < w1.heap.size := (by have := hb.size; simp at this; omega)
  have k1 : w1.cell? ⟨w.heap.size, 1, none⟩ = some (.int .u64 n1) := (by rw [hb.cell (p := ⟨w.heap.size, 1, none⟩) (by simp)]; simp)
  have HB := Lib.hid (bnext (balloc (Below.refl _ _) _) hb)
  have HCO0 := Lib.hid hco
  clear h1 h2 h3 h4 h5 h6 hb hco
  go_wp2_with fail
  obtain ⟨most, hmost⟩ : ∃ m, wrap64 n1 = m := ⟨_, rfl⟩
  try rw [hmost]
  clear k1 hmost
  have hB := heap_alloc_new w1 (.cells c.cells 29)
  have hWB : Below w1.heap.size w1 (w1.alloc (.cells c.cells 29)) := balloc (Below.refl _ _) _
  generalize w1.alloc (.cells c.cells 29) = W at *
  have HCO := Lib.hid (HCO0.out.below hWB)
  have HWB := Lib.hid (bnext HB.out hWB)
  have c0 : W.cell? ⟨w1.heap.size, 0, none⟩ = some (.string c.root) := block_cell hB 0
  have c1 : W.cell? ⟨w1.heap.size, 1, none⟩ = some (.int .u64 c.signed) := block_cell hB 1
  have c2 : W.cell? ⟨w1.heap.size, 2, none⟩ = some (.slice c.ra (len c.revs) c.rc) := block_cell hB 2
  have c3 : W.cell? ⟨w1.heap.size, 3, none⟩ = some (.slice c.ca (len c.coins) c.cc) := block_cell hB 3
  have c4 : W.cell? ⟨w1.heap.size, 4, none⟩ = some (.slice c.sa c.sn c.sc) := block_cell hB 4
  have c5 : W.cell? ⟨w1.heap.size, 5, none⟩ = some (.slice c.pa c.pn c.pc) := block_cell hB 5
  clear hB hWB
  --REGION sextant/sextantlaw21.CertShapes 3 shapes3
  refine wp_region_all 1000 (none) (phis [fun u _ => u = (c.val), fun u _ => u = (.int .i64 most), fun u _ => u = ((.int .i64 (shapeOf c most))), fun u _ => u = (c.val), fun u _ => u = (.int .i64 most), fun u _ => u = ((.int .i64 (shapeOf c most))), fun u _ => u = (.bool true), fun u _ => u = (.bool true), fun u _ => u = (c.val), fun u _ => u = ((.int .i64 (shapeOf c 640))), fun u _ => u = (c.val), fun u _ => u = ((.int .i64 (shapeOf c 640))), fun u _ => u = (.bool true), fun u _ => u = (.bool true), fun u _ => u = (.bool true), fun u _ => u = ((.bool true)), fun u _ => u = (.bool true), fun u _ => u = (.bool true)]) rfl (by kernel_rfl) (mono_of ⟨mono_eq, mono_eq, mono_eq, mono_eq, mono_eq, mono_eq, mono_eq, mono_eq, mono_eq, mono_eq, mono_eq, mono_eq, mono_eq, mono_eq, mono_eq, mono_eq, mono_eq, mono_eq, trivial⟩) (steps_of 18 ⟨?s0, ?s1, ?s2, ?s3, ?s4, ?s5, ?s6, ?s7, ?s8, ?s9, ?s10, ?s11, ?s12, ?s13, ?s14, ?s15, ?s16, ?s17, trivial⟩) ?_
  case s0 =>
    refine step_val (v := (c.val)) (fun av wv hE hS hO hD => ?_) (fun _ => rfl)
    have h7 : av.eval (.tmp 7) = (.pointer (some ⟨w1.heap.size, 0, none⟩)) := hO.2.2 7 rfl
    have f7 := (ev_form av 7).symm.trans h7
    have c0 := extB_cell hE (by simp) c0
    have c1 := extB_cell hE (by simp) c1
    have c2 := extB_cell hE (by simp) c2
    have c3 := extB_cell hE (by simp) c3
    have c4 := extB_cell hE (by simp) c4
    have c5 := extB_cell hE (by simp) c5
    refine ⟨rfl, ?_⟩
    simp [go_sem, f7, c0, c1, c2, c3, c4, c5]
  case s1 =>
    refine step_val (v := (.int .i64 most)) (fun av wv hE hS hO hD => ?_) (fun _ => rfl)
    have h8 : av.eval (.tmp 8) = (.int .i64 most) := hO.2.2 8 rfl
    have f8 := (ev_form av 8).symm.trans h8
    refine ⟨rfl, ?_⟩
    simp [go_sem, f8]
  case s2 =>
    refine step_wp (fun av wv hE hS hO hD => ?_)
    have d17 : av.eval (.tmp 17) = (c.val) := hD.1 rfl _ rfl
    have f17 := (ev_form av 17).symm.trans d17
    have d18 : av.eval (.tmp 18) = (.int .i64 most) := hD.2.1 rfl _ rfl
    have f18 := (ev_form av 18).symm.trans d18
    refine ⟨rfl, ?_⟩
    refine wp_of_call (v := (.int .i64 (shapeOf c most))) (by simp [go_sem, f17, f18]) (shape_any c most wv (HCO.out.below (of_drew hE))) (fun w2 hb => ⟨_, rfl, es_of_ext hb, rfl⟩)
  case s3 =>
    refine step_val (v := (c.val)) (fun av wv hE hS hO hD => ?_) (fun _ => rfl)
    have h7 : av.eval (.tmp 7) = (.pointer (some ⟨w1.heap.size, 0, none⟩)) := hO.2.2 7 rfl
    have f7 := (ev_form av 7).symm.trans h7
    have c0 := extB_cell hE (by simp) c0
    have c1 := extB_cell hE (by simp) c1
    have c2 := extB_cell hE (by simp) c2
    have c3 := extB_cell hE (by simp) c3
    have c4 := extB_cell hE (by simp) c4
    have c5 := extB_cell hE (by simp) c5
    refine ⟨rfl, ?_⟩
    simp [go_sem, f7, c0, c1, c2, c3, c4, c5]
  case s4 =>
    refine step_val (v := (.int .i64 most)) (fun av wv hE hS hO hD => ?_) (fun _ => rfl)
    have h8 : av.eval (.tmp 8) = (.int .i64 most) := hO.2.2 8 rfl
    have f8 := (ev_form av 8).symm.trans h8
    refine ⟨rfl, ?_⟩
    simp [go_sem, f8]
  case s5 =>
    refine step_wp (fun av wv hE hS hO hD => ?_)
    have d20 : av.eval (.tmp 20) = (c.val) := hD.1 rfl _ rfl
    have f20 := (ev_form av 20).symm.trans d20
    have d21 : av.eval (.tmp 21) = (.int .i64 most) := hD.2.1 rfl _ rfl
    have f21 := (ev_form av 21).symm.trans d21
    refine ⟨rfl, ?_⟩
    refine wp_of_call (v := (.int .i64 (shapeOf c most))) (by simp [go_sem, f20, f21]) (refShape_any c most wv (HCO.out.below (of_drew hE))) (fun w2 hb => ⟨_, rfl, es_of_ext hb, rfl⟩)
  case s6 =>
    refine step_val (v := (.bool true)) (fun av wv hE hS hO hD => ?_) (fun _ => rfl)
    have d19 : av.eval (.tmp 19) = ((.int .i64 (shapeOf c most))) := hD.1 rfl _ rfl
    have f19 := (ev_form av 19).symm.trans d19
    have d22 : av.eval (.tmp 22) = ((.int .i64 (shapeOf c most))) := hD.2.1 rfl _ rfl
    have f22 := (ev_form av 22).symm.trans d22
    refine ⟨rfl, ?_⟩
    simp [go_sem, f19, f22]
  case s7 =>
    refine step_val (v := (.bool true)) (fun av wv hE hS hO hD => ?_) (fun _ => rfl)
    have d23 : av.eval (.tmp 23) = (.bool true) := hD.1 rfl _ rfl
    have f23 := (ev_form av 23).symm.trans d23
    refine ⟨rfl, ?_⟩
    simp [go_sem, f23]
  case s8 =>
    refine step_val (v := (c.val)) (fun av wv hE hS hO hD => ?_) (fun _ => rfl)
    have h7 : av.eval (.tmp 7) = (.pointer (some ⟨w1.heap.size, 0, none⟩)) := hO.2.2 7 rfl
    have f7 := (ev_form av 7).symm.trans h7
    have d24 : av.eval (.tmp 24) = (.bool true) := hD.1 rfl _ rfl
    have f24 := (ev_form av 24).symm.trans d24
    have c0 := extB_cell hE (by simp) c0
    have c1 := extB_cell hE (by simp) c1
    have c2 := extB_cell hE (by simp) c2
    have c3 := extB_cell hE (by simp) c3
    have c4 := extB_cell hE (by simp) c4
    have c5 := extB_cell hE (by simp) c5
    refine ⟨(wanted_of (d := 24) (b := true) (want := true) rfl rfl rfl d24), ?_⟩
    simp [go_sem, f7, f24, c0, c1, c2, c3, c4, c5]
  case s9 =>
    refine step_wp (fun av wv hE hS hO hD => ?_)
    have d25 : av.eval (.tmp 25) = (c.val) := hD.1 rfl _ rfl
    have f25 := (ev_form av 25).symm.trans d25
    have d24 : av.eval (.tmp 24) = (.bool true) := hD.2.1 rfl _ rfl
    have f24 := (ev_form av 24).symm.trans d24
    refine ⟨(wanted_of (d := 24) (b := true) (want := true) rfl rfl rfl d24), ?_⟩
    refine wp_of_call (v := (.int .i64 (shapeOf c 640))) (by simp [go_sem, f25]) (shape_any c 640 wv (HCO.out.below (of_drew hE))) (fun w2 hb => ⟨_, rfl, es_of_ext hb, rfl⟩)
  case s10 =>
    refine step_val (v := (c.val)) (fun av wv hE hS hO hD => ?_) (fun _ => rfl)
    have h7 : av.eval (.tmp 7) = (.pointer (some ⟨w1.heap.size, 0, none⟩)) := hO.2.2 7 rfl
    have f7 := (ev_form av 7).symm.trans h7
    have d24 : av.eval (.tmp 24) = (.bool true) := hD.1 rfl _ rfl
    have f24 := (ev_form av 24).symm.trans d24
    have c0 := extB_cell hE (by simp) c0
    have c1 := extB_cell hE (by simp) c1
    have c2 := extB_cell hE (by simp) c2
    have c3 := extB_cell hE (by simp) c3
    have c4 := extB_cell hE (by simp) c4
    have c5 := extB_cell hE (by simp) c5
    refine ⟨(wanted_of (d := 24) (b := true) (want := true) rfl rfl rfl d24), ?_⟩
    simp [go_sem, f7, f24, c0, c1, c2, c3, c4, c5]
  case s11 =>
    refine step_wp (fun av wv hE hS hO hD => ?_)
    have d27 : av.eval (.tmp 27) = (c.val) := hD.1 rfl _ rfl
    have f27 := (ev_form av 27).symm.trans d27
    have d24 : av.eval (.tmp 24) = (.bool true) := hD.2.2.1 rfl _ rfl
    have f24 := (ev_form av 24).symm.trans d24
    refine ⟨(wanted_of (d := 24) (b := true) (want := true) rfl rfl rfl d24), ?_⟩
    refine wp_of_call (v := (.int .i64 (shapeOf c 640))) (by simp [go_sem, f27]) (refShape_any c 640 wv (HCO.out.below (of_drew hE))) (fun w2 hb => ⟨_, rfl, es_of_ext hb, rfl⟩)
  case s12 =>
    refine step_val (v := (.bool true)) (fun av wv hE hS hO hD => ?_) (fun _ => rfl)
    have d26 : av.eval (.tmp 26) = ((.int .i64 (shapeOf c 640))) := hD.1 rfl _ rfl
    have f26 := (ev_form av 26).symm.trans d26
    have d28 : av.eval (.tmp 28) = ((.int .i64 (shapeOf c 640))) := hD.2.1 rfl _ rfl
    have f28 := (ev_form av 28).symm.trans d28
    have d24 : av.eval (.tmp 24) = (.bool true) := hD.2.2.1 rfl _ rfl
    have f24 := (ev_form av 24).symm.trans d24
    refine ⟨(wanted_of (d := 24) (b := true) (want := true) rfl rfl rfl d24), ?_⟩
    simp [go_sem, f26, f28, f24]
  case s13 =>
    refine step_val (v := (.bool true)) (fun av wv hE hS hO hD => ?_) (fun _ => rfl)
    have d24 : av.eval (.tmp 24) = (.bool true) := hD.1 rfl _ rfl
    have f24 := (ev_form av 24).symm.trans d24
    have d29 : av.eval (.tmp 29) = (.bool true) := hD.2.1 rfl _ rfl
    have f29 := (ev_form av 29).symm.trans d29
    refine ⟨rfl, ?_⟩
    simp [go_sem, f24, f29]
  case s14 =>
    refine step_val (v := (.bool true)) (fun av wv hE hS hO hD => ?_) (fun _ => rfl)
    have d30 : av.eval (.tmp 30) = (.bool true) := hD.1 rfl _ rfl
    have f30 := (ev_form av 30).symm.trans d30
    refine ⟨rfl, ?_⟩
    simp [go_sem, f30]
  case s15 =>
    refine step_wp (fun av wv hE hS hO hD => ?_)
    have d31 : av.eval (.tmp 31) = (.bool true) := hD.1 rfl _ rfl
    have f31 := (ev_form av 31).symm.trans d31
    refine ⟨(wanted_of (d := 31) (b := true) (want := true) rfl rfl rfl d31), ?_⟩
    refine wp_of_call (v := (.bool true)) (by simp [go_sem]) (works_any wv) (fun w2 hb => ⟨_, rfl, es_of_ext hb, rfl⟩)
  case s16 =>
    refine step_val (v := (.bool true)) (fun av wv hE hS hO hD => ?_) (fun _ => rfl)
    have d31 : av.eval (.tmp 31) = (.bool true) := hD.1 rfl _ rfl
    have f31 := (ev_form av 31).symm.trans d31
    have d32 : av.eval (.tmp 32) = ((.bool true)) := hD.2.1 rfl _ rfl
    have f32 := (ev_form av 32).symm.trans d32
    refine ⟨rfl, ?_⟩
    simp [go_sem, f31, f32]
  case s17 =>
    refine step_val (v := (.bool true)) (fun av wv hE hS hO hD => ?_) (fun _ => rfl)
    have d33 : av.eval (.tmp 33) = (.bool true) := hD.1 rfl _ rfl
    have f33 := (ev_form av 33).symm.trans d33
    refine ⟨rfl, ?_⟩
    simp [go_sem, f33]
  intro a' w' hE hO hall
  have hA := act_of_outer (ds := [17, 18, 19, 20, 21, 22, 23, 24, 25, 26, 27, 28, 29, 30, 31, 32, 33, 6]) rfl hO (by kernel_rfl)
  have e17 : (fun u _ => u = (c.val)) (a'.eval (.tmp 17)) w' := hall.1 _ rfl
  have e18 : (fun u _ => u = (.int .i64 most)) (a'.eval (.tmp 18)) w' := hall.2.1 _ rfl
  have e19 : (fun u _ => u = ((.int .i64 (shapeOf c most)))) (a'.eval (.tmp 19)) w' := hall.2.2.1 _ rfl
  have e20 : (fun u _ => u = (c.val)) (a'.eval (.tmp 20)) w' := hall.2.2.2.1 _ rfl
  have e21 : (fun u _ => u = (.int .i64 most)) (a'.eval (.tmp 21)) w' := hall.2.2.2.2.1 _ rfl
  have e22 : (fun u _ => u = ((.int .i64 (shapeOf c most)))) (a'.eval (.tmp 22)) w' := hall.2.2.2.2.2.1 _ rfl
  have e23 : (fun u _ => u = (.bool true)) (a'.eval (.tmp 23)) w' := hall.2.2.2.2.2.2.1 _ rfl
  have e24 : (fun u _ => u = (.bool true)) (a'.eval (.tmp 24)) w' := hall.2.2.2.2.2.2.2.1 _ rfl
  have e25 : (fun u _ => u = (c.val)) (a'.eval (.tmp 25)) w' := hall.2.2.2.2.2.2.2.2.1 _ rfl
  have e26 : (fun u _ => u = ((.int .i64 (shapeOf c 640)))) (a'.eval (.tmp 26)) w' := hall.2.2.2.2.2.2.2.2.2.1 _ rfl
  have e27 : (fun u _ => u = (c.val)) (a'.eval (.tmp 27)) w' := hall.2.2.2.2.2.2.2.2.2.2.1 _ rfl
  have e28 : (fun u _ => u = ((.int .i64 (shapeOf c 640)))) (a'.eval (.tmp 28)) w' := hall.2.2.2.2.2.2.2.2.2.2.2.1 _ rfl
  have e29 : (fun u _ => u = (.bool true)) (a'.eval (.tmp 29)) w' := hall.2.2.2.2.2.2.2.2.2.2.2.2.1 _ rfl
  have e30 : (fun u _ => u = (.bool true)) (a'.eval (.tmp 30)) w' := hall.2.2.2.2.2.2.2.2.2.2.2.2.2.1 _ rfl
  have e31 : (fun u _ => u = (.bool true)) (a'.eval (.tmp 31)) w' := hall.2.2.2.2.2.2.2.2.2.2.2.2.2.2.1 _ rfl
  have e32 : (fun u _ => u = ((.bool true))) (a'.eval (.tmp 32)) w' := hall.2.2.2.2.2.2.2.2.2.2.2.2.2.2.2.1 _ rfl
  have e33 : (fun u _ => u = (.bool true)) (a'.eval (.tmp 33)) w' := hall.2.2.2.2.2.2.2.2.2.2.2.2.2.2.2.2.1 _ rfl
  have e6 : (fun u _ => u = (.bool true)) (a'.eval (.tmp 6)) w' := hall.2.2.2.2.2.2.2.2.2.2.2.2.2.2.2.2.2.1 _ rfl
  simp only [List.foldl_cons, List.foldl_nil, Act.put, List.setIfInBounds_toArray, List.set_cons_succ, List.set_cons_zero, e17, e18, e19, e20, e21, e22, e23, e24, e25, e26, e27, e28, e29, e30, e31, e32, e33, e6] at hA
  clear hO hall e17 e18 e19 e20 e21 e22 e23 e24 e25 e26 e27 e28 e29 e30 e31 e32 e33 e6
  subst hA
  --ENDREGION
  go_wp2
  go_ret
  exact ⟨rfl, bnext HWB.out (of_drew hE)⟩
end Go.Proofs.Ytmcmapcijncblaa
