/- Contracts: shape, works; the statement CertShapes. -/
import Derived.Test.YtihiaopilnjonaaGreatDoorCertJ
namespace Go.Proofs.YtihiaopilnjonaaGreatDoor
set_option linter.unusedSimpArgs false
set_option linter.unusedVariables false
open Go.RowKit

def mkC (revs : List Rev) (coins : List Int) (signed : Int) : CertV := ⟨⟨#[]⟩, signed, none, 0, none, 0, none, 0, 0, none, 0, 0, revs, coins⟩
/-- The certificate that is made. -/
def madeC (l : List One) (coins : List Int) (signed : Int) : CertV := mkC ((l.take 30).map revOf) (coins.take 60) signed

structure One.Ok (r : One) : Prop where
  pos0 : 0 ≤ r.pos
  pos1 : r.pos < 18446744073709551616
  L0 : 0 ≤ r.L
  L1 : r.L < 18446744073709551616
  wt0 : 0 ≤ r.wt
  wt1 : r.wt < 18446744073709551616
  root0 : 0 ≤ r.root
  root1 : r.root ≤ 255
theorem One.zero_ok : One.Ok One.zero := ⟨by decide, by decide, by decide, by decide, by decide, by decide, by decide, by decide⟩

theorem shapeOf_made {l : List One} {coins : List Int} {signed most : Int} {c : CertV} (h1 : c.revs = (l.take 30).map revOf) (h2 : c.coins = coins.take 60) (h3 : c.signed = signed) : shapeOf c most = shapeOf (madeC l coins signed) most := by
  unfold shapeOf moreB lastB madeC mkC
  simp only [h1, h2, h3]

theorem certOk_made {w : World} {l : List One} {coins : List Int} {signed : Int} {c : CertV} (h1 : c.revs = (l.take 30).map revOf) (h2 : c.coins = coins.take 60) (h3 : c.signed = signed)
    (hr : Revs w c.ra c.revs) (hu : U64s w c.ca c.coins) (hrc : len c.revs ≤ c.rc) (hs : signed < 18446744073709551616) (hok : ∀ i, (onth l i).Ok) : CertOk w c where
  revs := hr
  coins := hu
  ok := fun i => by
    rcases Nat.lt_or_ge i (len c.revs) with h | h
    · rw [rnth_eq c.revs i h]
      have h' : i < ((l.take 30).map revOf).length := by rw [← h1]; exact h
      have e : c.revs[i]'h = revOf (onth l i) := by
        have hil : i < l.length := by simp at h'; omega
        have : c.revs[i]? = some (revOf (onth l i)) := by
          rw [h1, List.getElem?_map, List.getElem?_take, if_pos (by simp at h'; omega), List.getElem?_eq_getElem hil, onth_eq l i hil]; rfl
        simpa [List.getElem?_eq_getElem h] using this
      rw [e]
      have o := hok i
      exact ⟨o.pos0, o.pos1, o.L0, o.L1, o.wt0, o.wt1⟩
    · have e : rnth c.revs i = Rev.zero := by unfold rnth; rw [List.getD_eq_getElem?_getD, List.getElem?_eq_none h]; rfl
      rw [e]; exact Rev.zero_ok
  s1 := by rw [h3]; exact hs
  rlen := by rw [h1, len_eq]; simp; omega
  rcap := hrc
  clen := by rw [h2, len_eq]; simp; omega

theorem shape_call (a : Option Addr) (cap : Nat) (l : List One) (ca : Option Addr) (cc : Nat) (coins : List Int) (signed most : Int) (w : World) (hlen : len l ≤ 9223372036854775807) (hcl : len coins ≤ 9223372036854775807) (hcc : len coins ≤ cc) (hc : Ones w a l) (hu : U64s w ca coins)
    (hs : signed < 18446744073709551616) (hok : ∀ i, (onth l i).Ok) :
    Calls Tryz.prog 26 #[.slice a (len l) cap, .slice ca (len coins) cc, .int .u64 signed, .int .i64 most] w
      fun e w' => e = .returned (.int .i64 (shapeOf (madeC l coins signed) most)) ∧ Below w.heap.size w w' := by
  have HC := Lib.hid hc
  have HU := Lib.hid hu
  have HOK := Lib.hid hok
  have HS := Lib.hid hs
  clear hc hu hok hs
  go_enter Tryz.func26, Tryz.ntmps26
  go_wp2_with fail
  refine (made_any a cap l ca cc coins signed w hlen hcl hcc HC.out HU.out (fun i => ⟨(HOK.out i).root0, (HOK.out i).root1⟩)).mono ?_
  rintro e w1 ⟨c, rfl, h1, h2, h3, h4, h5, h6, hb⟩
  have HCO := Lib.hid (certOk_made h1 h2 h3 h4 h5 h6 HS.out HOK.out)
  have HE := Lib.hid (shapeOf_made (most := most) h1 h2 h3)
  have HB := Lib.hid hb
  clear h1 h2 h3 h4 h5 h6 hb
  go_wp2_with fail
  refine (shape_any c most w1 HCO.out).mono ?_
  rintro e w2 ⟨rfl, hb⟩
  go_wp2
  go_ret
  exact ⟨ret_int HE.out, bnext HB.out hb⟩

theorem alloc_u64s (w : World) (cs : Array Value) (e : TypeId) (l : List Int) (h : cs.toList = l.map (Value.int .u64)) : U64s (w.alloc (.cells cs e)) (some ⟨w.heap.size, 0, none⟩) l := fun i hi => by
  refine ⟨w.heap.size, 0, rfl, ?_⟩
  rw [block_cell (heap_alloc_new w _), Nat.zero_add, ← Array.getElem?_toList, h, List.getElem?_map, List.getElem?_eq_getElem hi, nth_eq l i hi]; rfl

theorem own_ones {w : World} {base e n : Nat} {v : Value} {l : List One} (h : w.ownsRow base e 4 v n (l.flatMap One.cells)) : ∃ a cap, v = .slice a (len l) cap ∧ Ones w a l ∧ len l ≤ cap := by
  have hcl : ∀ r : One, r.cells.length = 4 := fun _ => rfl
  have hn : len l = n := by
    have := h.1; rw [flat_length One.cells 4 hcl] at this; rw [len_eq]; omega
  obtain ⟨h1, h2⟩ := h
  rcases h2 with ⟨rfl, h2⟩ | ⟨g, cap, cur, rfl, hg, hh, hc1, hc2, hc3, hc4⟩
  · obtain rfl : l = [] := List.eq_nil_of_length_eq_zero (by rw [← len_eq]; omega)
    exact ⟨none, 0, rfl, fun i hi => by simp [len] at hi, Nat.le_refl _⟩
  · refine ⟨some ⟨g, 0, none⟩, cap, by rw [hn], fun i hi => ⟨g, 0, rfl, ?_⟩, by omega⟩
    have hown : w.ownsRow base e 4 (.slice (some ⟨g, 0, none⟩) n cap) n (l.flatMap One.cells) := ⟨h1, .inr ⟨g, cap, cur, rfl, hg, hh, hc1, hc2, hc3, hc4⟩⟩
    have key : ∀ r, r < 4 → w.cell? ⟨g, 0 + i * 4 + r, none⟩ = (onth l i).cells[r]? := fun r hr => by
      have := hown.cellAt (i * 4 + r) (by rw [← hn]; omega)
      rw [Nat.zero_add, this, flat_get One.cells 4 hcl l i r hi hr, onth_eq l i hi]
    exact ⟨key 0 (by decide), key 1 (by decide), key 2 (by decide), key 3 (by decide)⟩

theorem ofL_ok (l : List Int) (n : Nat) (h : ∀ i, 0 ≤ nth l i ∧ nth l i < 18446744073709551616) : ∀ i, (onth (ofL l n) i).Ok := fun i => by
  rcases Nat.lt_or_ge i n with hi | hi
  · have e : onth (ofL l n) i = ⟨nth l (3 * i), nth l (3 * i + 1), nth l (3 * i + 2), 32⟩ := by
      rw [onth_eq _ i (by simp [ofL]; exact hi)]; simp [ofL]
    rw [e]
    exact ⟨(h _).1, (h _).2, (h _).1, (h _).2, (h _).1, (h _).2, (by decide : (0 : Int) ≤ 32), (by decide : (32 : Int) ≤ 255)⟩
  · have e : onth (ofL l n) i = One.zero := by unfold onth; rw [List.getD_eq_getElem?_getD, List.getElem?_eq_none (by simp [ofL]; exact hi)]; rfl
    rw [e]; exact One.zero_ok

def twoL : List Int := [0, 0, 5, 2, 5, 3]
def badL : List Int := [2, 5, 3, 0, 0, 5]
theorem nth_all (l : List Int) (B : Int) (hB : 0 < B) (h : l.all (fun x => decide (0 ≤ x ∧ x < B)) = true) : ∀ i, 0 ≤ nth l i ∧ nth l i < B := fun i => by
  rcases Nat.lt_or_ge i l.length with hi | hi
  · rw [nth_eq l i hi]
    simpa using List.all_eq_true.1 h l[i] (List.getElem_mem hi)
  · have : nth l i = 0 := by unfold nth; rw [List.getD_eq_getElem?_getD, List.getElem?_eq_none hi]; rfl
    rw [this]; exact ⟨Int.le_refl _, hB⟩

set_option maxRecDepth 100000 in
set_option maxHeartbeats 1000000 in
theorem works_any (w : World) : Calls Tryz.prog 22 #[] w fun e w' => e = .returned (.bool true) ∧ Below w.heap.size w w' := by
  have g1 : shapeOf (madeC (ofL twoL 2) [2, 0, 2] 8) 3 = 0 := by decide +kernel
  have g2 : shapeOf (madeC (ofL twoL 2) [2, 0, 2] 8) 2 = 7 := by decide +kernel
  have g3 : shapeOf (madeC (ofL twoL 2) [2, 0, 1] 8) 3 = 8 := by decide +kernel
  have g4 : shapeOf (madeC (ofL twoL 2) [2, 2] 8) 3 = 8 := by decide +kernel
  have g5 : shapeOf (madeC (ofL twoL 2) [2, 0] 7) 3 = 5 := by decide +kernel
  have g6 : shapeOf (madeC (ofL badL 2) [0, 2] 8) 3 = 5 := by decide +kernel
  have g7 : shapeOf (madeC [] [] 0) 0 = 0 := by decide +kernel
  have G := Lib.hid (And.intro g1 (And.intro g2 (And.intro g3 (And.intro g4 (And.intro g5 (And.intro g6 g7))))))
  clear g1 g2 g3 g4 g5 g6 g7
  go_enter Tryz.func22, Tryz.ntmps22
  go_wp2_with fail
  refine (of_any _ 6 twoL _ (by decide) (alloc_u64s w _ _ twoL rfl)).mono ?_
  rintro e w1 ⟨v, rfl, hv, hb⟩
  obtain ⟨a1, c1, rfl, ho, hc⟩ := own_ones (l := ofL twoL 2) hv
  have B1 := Lib.hid (bnext (balloc (Below.refl _ _) _) hb)
  have O1 := Lib.hid ho
  clear hv hb ho
  go_wp2_with fail
  refine (shape_call a1 c1 (ofL twoL 2) _ 3 [2, 0, 2] 8 3 _ (by decide) (by decide) (by decide) (O1.out.below (balloc (Below.refl _ _) _)) (alloc_u64s _ _ _ [2, 0, 2] rfl) (by decide) (ofL_ok _ _ (nth_all twoL _ (by decide) (by decide)))).mono ?_
  rintro e w2 ⟨he, hb⟩
  rw [G.out.1] at he
  subst he
  have H2 := Lib.hid (bnext (balloc (Below.refl _ _) _) hb)
  clear hb
  go_wp2_with fail
  refine (shape_call a1 c1 (ofL twoL 2) _ 3 [2, 0, 2] 8 2 _ (by decide) (by decide) (by decide) (O1.out.below (balloc H2.out _)) (alloc_u64s _ _ _ [2, 0, 2] rfl) (by decide) (ofL_ok _ _ (nth_all twoL _ (by decide) (by decide)))).mono ?_
  rintro e w3 ⟨he, hb⟩
  rw [G.out.2.1] at he
  subst he
  have H3 := Lib.hid (bnext (balloc H2.out _) hb)
  clear hb
  go_wp2_with fail
  refine (shape_call a1 c1 (ofL twoL 2) _ 3 [2, 0, 1] 8 3 _ (by decide) (by decide) (by decide) (O1.out.below (balloc H3.out _)) (alloc_u64s _ _ _ [2, 0, 1] rfl) (by decide) (ofL_ok _ _ (nth_all twoL _ (by decide) (by decide)))).mono ?_
  rintro e w4 ⟨he, hb⟩
  rw [G.out.2.2.1] at he
  subst he
  have H4 := Lib.hid (bnext (balloc H3.out _) hb)
  clear hb
  go_wp2_with fail
  refine (shape_call a1 c1 (ofL twoL 2) _ 2 [2, 2] 8 3 _ (by decide) (by decide) (by decide) (O1.out.below (balloc H4.out _)) (alloc_u64s _ _ _ [2, 2] rfl) (by decide) (ofL_ok _ _ (nth_all twoL _ (by decide) (by decide)))).mono ?_
  rintro e w5 ⟨he, hb⟩
  rw [G.out.2.2.2.1] at he
  subst he
  have H5 := Lib.hid (bnext (balloc H4.out _) hb)
  clear hb
  go_wp2_with fail
  refine (shape_call a1 c1 (ofL twoL 2) _ 2 [2, 0] 7 3 _ (by decide) (by decide) (by decide) (O1.out.below (balloc H5.out _)) (alloc_u64s _ _ _ [2, 0] rfl) (by decide) (ofL_ok _ _ (nth_all twoL _ (by decide) (by decide)))).mono ?_
  rintro e w6 ⟨he, hb⟩
  rw [G.out.2.2.2.2.1] at he
  subst he
  have H6 := Lib.hid (bnext (balloc H5.out _) hb)
  clear hb
  go_wp2_with fail
  refine (of_any _ 6 badL _ (by decide) (alloc_u64s w6 _ _ badL rfl)).mono ?_
  rintro e w16 ⟨v, rfl, hv, hb⟩
  obtain ⟨a2, c2, rfl, ho, hc2⟩ := own_ones (l := ofL badL 2) hv
  have B2 := Lib.hid (bnext (balloc (Below.refl _ _) _) hb)
  have O2 := Lib.hid ho
  clear hv hb ho
  go_wp2_with fail
  refine (shape_call a2 c2 (ofL badL 2) _ 2 [0, 2] 8 3 _ (by decide) (by decide) (by decide) (O2.out.below (balloc (Below.refl _ _) _)) (alloc_u64s _ _ _ [0, 2] rfl) (by decide) (ofL_ok _ _ (nth_all badL _ (by decide) (by decide)))).mono ?_
  rintro e w7 ⟨he, hb⟩
  rw [G.out.2.2.2.2.2.1] at he
  subst he
  have H7 := Lib.hid (bnext (balloc (Below.refl _ _) _) hb)
  clear hb
  go_wp2_with fail
  refine (shape_call none 0 [] none 0 [] 0 0 _ (by decide) (by decide) (by decide) (fun i hi => by simp [len] at hi) (U64s.nil _ _) (by decide) (fun _ => One.zero_ok)).mono ?_
  rintro e w8 ⟨he, hb⟩
  rw [G.out.2.2.2.2.2.2] at he
  subst he
  go_wp2
  go_ret
  exact ⟨rfl, bnext (bnext (bnext (bnext B1.out H6.out) B2.out) H7.out) hb⟩

theorem CertOk.below {w w' : World} {c : CertV} (h : CertOk w c) (hb : Below w.heap.size w w') : CertOk w' c := ⟨h.revs.below hb, h.coins.below hb, h.ok, h.s1, h.rlen, h.rcap, h.clen⟩

end Go.Proofs.YtihiaopilnjonaaGreatDoor
