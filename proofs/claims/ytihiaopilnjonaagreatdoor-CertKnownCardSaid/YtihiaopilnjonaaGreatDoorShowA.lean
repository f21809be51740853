/- What a certificate reveals: each[string], the reference's Slots and Parts. -/
import Derived.Test.YtihiaopilnjonaaGreatDoorCertK
import Derived.Test.YtihiaopilnjonaaGreatDoorRefU
namespace Go.Proofs.YtihiaopilnjonaaGreatDoor
open Go.RowKit
set_option linter.unusedSimpArgs false
set_option linter.unusedVariables false

abbrev Outs := List (ByteArray × Int)
def oth (l : Outs) (i : Nat) : ByteArray × Int := l.getD i (ByteArray.empty, 0)
theorem oth_eq (l : Outs) (i : Nat) (h : i < l.length) : oth l i = l[i] := by unfold oth; rw [List.getD_eq_getElem?_getD, List.getElem?_eq_getElem h]; rfl
/-- The texts, or the first code that is none. -/
def eachO : Outs → List ByteArray × Int
  | [] => ([], 0)
  | x :: r => if x.2 = 0 then (if (eachO r).2 = 0 then (x.1 :: (eachO r).1, 0) else ([], (eachO r).2)) else ([], x.2)
theorem eachO_all : ∀ l : Outs, (∀ i, i < len l → (oth l i).2 = 0) → eachO l = (l.map fun x => x.1, 0)
  | [], _ => rfl
  | x :: r, h => by
    have h0 : x.2 = 0 := h 0 (by simp [len])
    have ih := eachO_all r (fun i hi => h (i + 1) (by simp [len] at hi ⊢; exact hi))
    rw [eachO, if_pos h0, ih, if_pos rfl]; rfl
theorem eachO_bad : ∀ (l : Outs) (m : Nat), m < len l → (∀ i, i < m → (oth l i).2 = 0) → (oth l m).2 ≠ 0 → eachO l = ([], (oth l m).2)
  | [], m, h, _, _ => by simp [len] at h
  | x :: r, 0, _, _, h => by
    have h0 : ¬ x.2 = 0 := h
    rw [eachO, if_neg h0]; rfl
  | x :: r, m + 1, hm, h, hb => by
    have h0 : x.2 = 0 := h 0 (by omega)
    have ih := eachO_bad r m (by simp [len] at hm ⊢; exact hm) (fun i hi => h (i + 1) (by omega)) hb
    have hb' : ¬ (oth r m).2 = 0 := hb
    rw [eachO, if_pos h0, ih, if_neg hb']; rfl
def EachIs (outs : Outs) (w : World) (e : Ending) (w' : World) : Prop :=
  ∃ v, e = .returned (.tuple #[v, .int .i64 (eachO outs).2]) ∧ w'.ownsRow w.heap.size 9 1 v (len (eachO outs).1) ((eachO outs).1.map Value.string) ∧ Below w.heap.size w w'
theorem ownsRow_low {w : World} {a b e s n : Nat} {v : Value} {l : List Value} (h : w.ownsRow b e s v n l) (hab : a ≤ b) : w.ownsRow a e s v n l := ⟨h.1, h.2.imp id (fun ⟨g, cap, cur, h1, h2, h3⟩ => ⟨g, cap, cur, h1, by omega, h3⟩)⟩
/-- What a function answers for each. -/
def Tells (g : Nat) (args : Nat → Array Value) (outs : Outs) (w : World) : Prop :=
  ∀ i, i < len outs → ∀ w', Below w.heap.size w w' → Calls Tryz.prog g (args i) w' fun e w'' => e = .returned (.tuple #[.string (oth outs i).1, .int .i64 (oth outs i).2]) ∧ Below w'.heap.size w' w''
theorem take_outs (l : Outs) (m : Nat) (h : m < len l) : (l.take (m + 1)).map (fun x => x.1) = (l.take m).map (fun x => x.1) ++ [(oth l m).1] := by
  rw [List.take_succ_eq_append_getElem h, List.map_append, oth_eq l m h]; rfl
set_option maxRecDepth 100000 in
set_option maxHeartbeats 2000000 in
theorem eachs_any (c : CertV) (g : Nat) (outs : Outs) (w : World) (eg : ∀ args w, (callFunc g args).run Tryz.prog w = .ok (.enter g args) w) (hlen : len c.revs ≤ 1099511627776) (ho : len outs = len c.revs) (hc : Revs w c.ra c.revs) (ht : Tells g (fun i => #[(rnth c.revs i).val]) outs w) :
    Calls Tryz.prog 55 #[c.val, .func (.func g) #[] #[]] w (EachIs outs w) := by
  have HC := Lib.hid hc
  have HT := Lib.hid ht
  have HO := Lib.hid ho
  clear hc ht ho
  obtain ⟨i0, hi, hz0, hz1, hz2⟩ := info_parts info_str
  go_enter Tryz.func55, Tryz.ntmps55
  go_wp2
  go_loopg [6, 14] (len c.revs) (fun gg v i wr => ∃ m : Nat, gg + m = len c.revs ∧ i = .int .i64 m ∧ Hid (Below w.heap.size w wr) ∧ Hid (wr.ownsRow w.heap.size 9 1 v m (((outs.take m).map fun x => x.1).map Value.string)) ∧ Hid (∀ i, i < m → (oth outs i).2 = 0))
  case atStart => exact ⟨0, rfl, rfl, (by (repeat (first | exact Below.refl _ _ | assumption | (refine bdrew ?_) | (refine bdrewN ?_ _) | (refine balloc ?_ _) | (refine bset ?_ (by first | omega | (simp; done) | (simp; omega)) _) | (refine bnext ?_ (by assumption))))), World.ownsRow_nil _ _ _ _, fun i hi => by omega⟩
  case round =>
    obtain ⟨m, hm, rfl, HD, HK, HZ⟩ := hrel
    by_cases hlt : m < len c.revs
    · obtain ⟨b, off, hra, ⟨c0, c1, c2, c3, c4, c5, c6, c7, c8, c9, c10⟩⟩ := HC.out.below HD.out m hlt
      have i1 : (m : Int) < len c.revs := by omega
      go_wp2_with fail
      clear c0 c1 c2 c3 c4 c5 c6 c7 c8 c9 c10 hra
      have HT2 := Lib.hid (HT.out m (by have := HO.out; omega) _ (balloc HD.out (.cells #[.int .u64 (rnth c.revs m).pos, .int .u64 (rnth c.revs m).L, .bool (rnth c.revs m).signed, .int .u64 (rnth c.revs m).idx, .slice (rnth c.revs m).wa (rnth c.revs m).wn (rnth c.revs m).wc, .slice (rnth c.revs m).pa (rnth c.revs m).pn (rnth c.revs m).pc, .string (rnth c.revs m).root, .int .u64 (rnth c.revs m).wt, .int .u64 (rnth c.revs m).first, .int .u64 (rnth c.revs m).life, .int .u64 (rnth c.revs m).keys] 48)))
      obtain ⟨s, hs⟩ : ∃ s, (oth outs m).1 = s := ⟨_, rfl⟩
      obtain ⟨k, hk⟩ : ∃ k, (oth outs m).2 = k := ⟨_, rfl⟩
      rw [hs, hk] at HT2
      have HS := Lib.hid hs
      have HKK := Lib.hid hk
      clear hs hk
      refine HT2.out.mono ?_
      rintro e w1 ⟨rfl, hb⟩
      have hbb := bnext (balloc HD.out _) hb
      have hz := hbb.size
      have hown := own_below (HK.out.alloc _) hb
      have HOWN := Lib.hid hown
      have HBB := Lib.hid hbb
      clear hown hb HT2 hbb
      by_cases hk0 : k = 0
      · subst hk0
        go_wp2_with (at_builtin; refine wpList_append_own _ rfl _ _ 26 rfl w.heap.size 9 i0 (.string ⟨#[]⟩) 1 16 Tryz.underlying26 hi hz0 hz1 hz2 rfl (by decide) _ _ _ rfl (HOWN.out.alloc _) ⟨w1.heap.size, 0, none⟩ 1 1 [.string s] rfl rfl ?c1 ?c2 ?c3 ?c4 ?c5 ?_)
        case c1 => exact alloc_cells _ #[_] _
        case c2 => intro u hu; simp at hu; subst hu; rfl
        case c3 => unfold maxLen; omega
        case c4 => omega
        case c5 => simp; omega
        intro v' w2 hown' hgrow _
        have hb2 : Below w.heap.size w w2 := (by
          refine grownBy_below (balloc HBB.out _) hgrow ?_
          intro k hk'
          exact (HOWN.out.lt k hk').1)
        have HO2 := Lib.hid hown'
        have HB2 := Lib.hid hb2
        clear hown' hgrow hb2 hz
        go_wp2
        go_roundg (len c.revs - (m + 1))
        case rel => exact ⟨m + 1, by omega, by go_num, HB2.out, (by
          have h := HO2.out
          show World.ownsRow _ _ _ _ _ _ _
          rw [take_outs outs m (by have := HO.out; omega), HS.out]; simpa using h), (by
          intro i hi
          by_cases e : i = m
          · subst e; exact HKK.out
          · exact HZ.out i (by omega))⟩
        case measure => omega
      · have HE : Hid (eachO outs = ([], k)) := Lib.hid (by rw [eachO_bad outs m (by have := HO.out; omega) HZ.out (by rw [HKK.out]; exact hk0), HKK.out])
        have hkb : (k == 0) = false := by simp [hk0]
        have HW1 := Lib.hid HBB.out
        go_wp2
        go_ret2
        refine ⟨.slice none 0 0, ?_, ?_, HBB.out⟩
        · rw [HE.out]; rfl
        · rw [HE.out]; exact World.ownsRow_nil _ _ _ _
    · obtain rfl : m = len c.revs := by omega
      have i1 : ¬ ((len c.revs : Nat) : Int) < (len c.revs : Nat) := by omega
      have HE : Hid (eachO outs = (outs.map (fun x => x.1), 0)) := Lib.hid (eachO_all outs (fun i hi => HZ.out i (by have := HO.out; omega)))
      go_wp2
      go_ret2
      have h := HK.out
      rw [show outs.take (len c.revs) = outs from by rw [← HO.out]; exact take_len outs] at h
      refine ⟨u6, ?_, ?_, HD.out⟩
      · rw [HE.out]; rfl
      · rw [HE.out]
        rw [show len (outs.map fun x => x.1) = len c.revs from by rw [← HO.out]; simp [len]]
        exact h
abbrev Rev.slotV (r : Rev) : Value := .agg #[.int .u64 r.L, .bool r.signed, .int .u64 r.idx, .slice r.wa r.wn r.wc, .slice r.pa r.pn r.pc]
abbrev Rev.partV (r : Rev) : Value := .agg #[.string r.root, .int .u64 r.wt, .int .u64 r.first, .int .u64 r.life, .int .u64 r.keys]

set_option maxRecDepth 100000 in
theorem slots1_any (r : Rev) (x : ByteArray × Int) (w : World) (h : ∀ w', Below w.heap.size w w' → Calls Tryz.prog 24 #[r.slotV] w' fun e w'' => e = .returned (.tuple #[.string x.1, .int .i64 x.2]) ∧ Below w'.heap.size w' w'') :
    Calls Tryz.prog 56 #[r.val] w fun e w' => e = .returned (.tuple #[.string x.1, .int .i64 x.2]) ∧ Below w.heap.size w w' := by
  have H := Lib.hid h
  obtain ⟨s, k⟩ := x
  clear h
  go_enter Tryz.func56, Tryz.ntmps56
  go_wp2_with fail
  refine (H.out _ (balloc (Below.refl _ _) _)).mono ?_
  rintro e w1 ⟨rfl, hb⟩
  have HB := Lib.hid (bnext (balloc (Below.refl _ _) _) hb)
  clear hb
  go_wp2
  go_ret2
  exact ⟨rfl, HB.out⟩

set_option maxRecDepth 100000 in
theorem parts1_any (r : Rev) (x : ByteArray × Int) (w : World) (h : ∀ w', Below w.heap.size w w' → Calls Tryz.prog 25 #[r.partV] w' fun e w'' => e = .returned (.tuple #[.string x.1, .int .i64 x.2]) ∧ Below w'.heap.size w' w'') :
    Calls Tryz.prog 57 #[r.val] w fun e w' => e = .returned (.tuple #[.string x.1, .int .i64 x.2]) ∧ Below w.heap.size w w' := by
  have H := Lib.hid h
  obtain ⟨s, k⟩ := x
  clear h
  go_enter Tryz.func57, Tryz.ntmps57
  go_wp2_with fail
  refine (H.out _ (balloc (Below.refl _ _) _)).mono ?_
  rintro e w1 ⟨rfl, hb⟩
  have HB := Lib.hid (bnext (balloc (Below.refl _ _) _) hb)
  clear hb
  go_wp2
  go_ret2
  exact ⟨rfl, HB.out⟩

set_option maxRecDepth 100000 in
theorem cslots_any (c : CertV) (outs : Outs) (w : World) (hlen : len c.revs ≤ 1099511627776) (ho : len outs = len c.revs) (hc : Revs w c.ra c.revs) (ht : Tells 24 (fun i => #[(rnth c.revs i).slotV]) outs w) :
    Calls Tryz.prog 14 #[c.val] w (EachIs outs w) := by
  have HC := Lib.hid hc
  have HT : Hid (∀ V, Below w.heap.size w V → Tells 56 (fun i => #[(rnth c.revs i).val]) outs V) := Lib.hid (fun V hV i hi w' hb => slots1_any (rnth c.revs i) (oth outs i) w' (fun w2 hb2 => ht i hi w2 (bnext (bnext hV hb) hb2)))
  clear hc ht
  go_enter Tryz.func14, Tryz.ntmps14
  go_wp2_with fail
  refine (eachs_any c 56 outs _ (by intro args w; first | exact enters_of _ _ | rfl) hlen ho (HC.out.below (balloc (Below.refl _ _) _)) (HT.out _ (balloc (Below.refl _ _) _))).mono ?_
  rintro e w1 ⟨v, rfl, hv, hb⟩
  have HV := Lib.hid (ownsRow_low hv (show w.heap.size ≤ _ by simp))
  have HB := Lib.hid (bnext (balloc (Below.refl _ _) _) hb)
  clear hv hb
  obtain ⟨k, hk⟩ : ∃ k, (eachO outs).2 = k := ⟨_, rfl⟩
  rw [hk]
  have HK := Lib.hid hk
  clear hk
  go_wp2
  go_ret2
  exact ⟨v, by rw [HK.out]; rfl, HV.out, HB.out⟩

set_option maxRecDepth 100000 in
theorem cparts_any (c : CertV) (outs : Outs) (w : World) (hlen : len c.revs ≤ 1099511627776) (ho : len outs = len c.revs) (hc : Revs w c.ra c.revs) (ht : Tells 25 (fun i => #[(rnth c.revs i).partV]) outs w) :
    Calls Tryz.prog 16 #[c.val] w (EachIs outs w) := by
  have HC := Lib.hid hc
  have HT : Hid (∀ V, Below w.heap.size w V → Tells 57 (fun i => #[(rnth c.revs i).val]) outs V) := Lib.hid (fun V hV i hi w' hb => parts1_any (rnth c.revs i) (oth outs i) w' (fun w2 hb2 => ht i hi w2 (bnext (bnext hV hb) hb2)))
  clear hc ht
  go_enter Tryz.func16, Tryz.ntmps16
  go_wp2_with fail
  refine (eachs_any c 57 outs _ (by intro args w; first | exact enters_of _ _ | rfl) hlen ho (HC.out.below (balloc (Below.refl _ _) _)) (HT.out _ (balloc (Below.refl _ _) _))).mono ?_
  rintro e w1 ⟨v, rfl, hv, hb⟩
  have HV := Lib.hid (ownsRow_low hv (show w.heap.size ≤ _ by simp))
  have HB := Lib.hid (bnext (balloc (Below.refl _ _) _) hb)
  clear hv hb
  obtain ⟨k, hk⟩ : ∃ k, (eachO outs).2 = k := ⟨_, rfl⟩
  rw [hk]
  have HK := Lib.hid hk
  clear hk
  go_wp2
  go_ret2
  exact ⟨v, by rw [HK.out]; rfl, HV.out, HB.out⟩

set_option maxRecDepth 100000 in
set_option maxHeartbeats 2000000 in
theorem refslots_any (c : CertV) (outs : Outs) (w : World) (hlen : len c.revs ≤ 1099511627776) (ho : len outs = len c.revs) (hc : Revs w c.ra c.revs) (ht : Tells 34 (fun i => #[(rnth c.revs i).slotV]) outs w) :
    Calls Tryz.prog 15 #[c.val] w (EachIs outs w) := by
  have HC := Lib.hid hc
  have HT := Lib.hid ht
  have HO := Lib.hid ho
  clear hc ht ho
  obtain ⟨i0, hi, hz0, hz1, hz2⟩ := info_parts info_str
  go_enter Tryz.func15, Tryz.ntmps15
  go_wp2
  go_loopg [4, 5] (len c.revs) (fun gg v i wr => ∃ m : Nat, gg + m = len c.revs ∧ i = .int .i64 m ∧ Hid (Below w.heap.size w wr) ∧ Hid (wr.heap[w.heap.size]? = some (.cells c.cells 28 (0, 0))) ∧ Hid (wr.ownsRow w.heap.size 9 1 v m (((outs.take m).map fun x => x.1).map Value.string)) ∧ Hid (∀ i, i < m → (oth outs i).2 = 0))
  case atStart => exact ⟨0, rfl, rfl, (by (repeat (first | exact Below.refl _ _ | assumption | (refine bdrew ?_) | (refine bdrewN ?_ _) | (refine balloc ?_ _) | (refine bset ?_ (by first | omega | (simp; done) | (simp; omega)) _) | (refine bnext ?_ (by assumption))))), heap_alloc_new _ _, World.ownsRow_nil _ _ _ _, fun i hi => by omega⟩
  case round =>
    obtain ⟨m, hm, rfl, HD, HCB, HK, HZ⟩ := hrel
    have k2 : wr.cell? ⟨w.heap.size, 2, none⟩ = some (.slice c.ra (len c.revs) c.rc) := block_cell HCB.out 2
    by_cases hlt : m < len c.revs
    · obtain ⟨b, off, hra, ⟨c0, c1, c2, c3, c4, c5, c6, c7, c8, c9, c10⟩⟩ := HC.out.below HD.out m hlt
      have i1 : (m : Int) < len c.revs := by omega
      have HT2 := Lib.hid (HT.out m (by have := HO.out; omega) _ HD.out)
      obtain ⟨s, hs⟩ : ∃ s, (oth outs m).1 = s := ⟨_, rfl⟩
      obtain ⟨k, hk⟩ : ∃ k, (oth outs m).2 = k := ⟨_, rfl⟩
      rw [hs, hk] at HT2
      have HS := Lib.hid hs
      have HKK := Lib.hid hk
      clear hs hk
      go_wp2_with fail
      clear c0 c1 c2 c3 c4 c5 c6 c7 c8 c9 c10 hra
      refine HT2.out.mono ?_
      rintro e w1 ⟨rfl, hb⟩
      have hbb := bnext HD.out hb
      have hz := hbb.size
      have HOWN := Lib.hid (own_below HK.out hb)
      have HBB := Lib.hid hbb
      have HCB1 := Lib.hid ((hb.block _ (lt_of_block HCB.out)).trans HCB.out)
      clear hb HT2 hbb k2
      by_cases hk0 : k = 0
      · subst hk0
        go_wp2_with (at_builtin; refine wpList_append_own _ rfl _ _ 26 rfl w.heap.size 9 i0 (.string ⟨#[]⟩) 1 16 Tryz.underlying26 hi hz0 hz1 hz2 rfl (by decide) _ _ _ rfl (HOWN.out.alloc _) ⟨w1.heap.size, 0, none⟩ 1 1 [.string s] rfl rfl ?c1 ?c2 ?c3 ?c4 ?c5 ?_)
        case c1 => exact alloc_cells _ #[_] _
        case c2 => intro u hu; simp at hu; subst hu; rfl
        case c3 => unfold maxLen; omega
        case c4 => omega
        case c5 => simp; omega
        intro v' w2 hown' hgrow _
        have hb2 : Below w.heap.size w w2 := (by
          refine grownBy_below (balloc HBB.out _) hgrow ?_
          intro k hk'
          exact (HOWN.out.lt k hk').1)
        have HCB2 : Hid (w2.heap[w.heap.size]? = some (.cells c.cells 28 (0, 0))) := Lib.hid (by
          have hl := lt_of_block HCB1.out
          rw [hgrow.block _ (by simp; omega) (by
            intro e
            have hh := HOWN.out.2
            rcases hh with ⟨hv, -⟩ | ⟨g, cap, cur, hv, -, hg, -⟩
            · rw [hv] at e; cases e
            · rw [hv] at e
              have e' : w.heap.size = g := by simpa [Value.ownBlock] using e
              rw [← e', HCB1.out] at hg
              cases hg), Below.heap_alloc _ _ _ hl]
          exact HCB1.out)
        have HO2 := Lib.hid hown'
        have HB2 := Lib.hid hb2
        clear hown' hgrow hb2 hz
        go_wp2
        go_roundg (len c.revs - (m + 1))
        case rel => exact ⟨m + 1, by omega, by go_num, HB2.out, HCB2.out, (by
          have h := HO2.out
          show World.ownsRow _ _ _ _ _ _ _
          rw [take_outs outs m (by have := HO.out; omega), HS.out]; simpa using h), (by
          intro i hi
          by_cases e : i = m
          · subst e; exact HKK.out
          · exact HZ.out i (by omega))⟩
        case measure => omega
      · have HE : Hid (eachO outs = ([], k)) := Lib.hid (by rw [eachO_bad outs m (by have := HO.out; omega) HZ.out (by rw [HKK.out]; exact hk0), HKK.out])
        have hkb : (k == 0) = false := by simp [hk0]
        go_wp2
        go_ret2
        refine ⟨.slice none 0 0, ?_, ?_, HBB.out⟩
        · rw [HE.out]; rfl
        · rw [HE.out]; exact World.ownsRow_nil _ _ _ _
    · obtain rfl : m = len c.revs := by omega
      have i1 : ¬ ((len c.revs : Nat) : Int) < (len c.revs : Nat) := by omega
      have HE : Hid (eachO outs = (outs.map (fun x => x.1), 0)) := Lib.hid (eachO_all outs (fun i hi => HZ.out i (by have := HO.out; omega)))
      go_wp2
      go_ret2
      have h := HK.out
      rw [show outs.take (len c.revs) = outs from by rw [← HO.out]; exact take_len outs] at h
      refine ⟨u4, ?_, ?_, HD.out⟩
      · rw [HE.out]; rfl
      · rw [HE.out]
        rw [show len (outs.map fun x => x.1) = len c.revs from by rw [← HO.out]; simp [len]]
        exact h

set_option maxRecDepth 100000 in
set_option maxHeartbeats 2000000 in
theorem refparts_any (c : CertV) (outs : Outs) (w : World) (hlen : len c.revs ≤ 1099511627776) (ho : len outs = len c.revs) (hc : Revs w c.ra c.revs) (ht : Tells 27 (fun i => #[(rnth c.revs i).partV]) outs w) :
    Calls Tryz.prog 17 #[c.val] w (EachIs outs w) := by
  have HC := Lib.hid hc
  have HT := Lib.hid ht
  have HO := Lib.hid ho
  clear hc ht ho
  obtain ⟨i0, hi, hz0, hz1, hz2⟩ := info_parts info_str
  go_enter Tryz.func17, Tryz.ntmps17
  go_wp2
  go_loopg [4, 5] (len c.revs) (fun gg v i wr => ∃ m : Nat, gg + m = len c.revs ∧ i = .int .i64 m ∧ Hid (Below w.heap.size w wr) ∧ Hid (wr.heap[w.heap.size]? = some (.cells c.cells 28 (0, 0))) ∧ Hid (wr.ownsRow w.heap.size 9 1 v m (((outs.take m).map fun x => x.1).map Value.string)) ∧ Hid (∀ i, i < m → (oth outs i).2 = 0))
  case atStart => exact ⟨0, rfl, rfl, (by (repeat (first | exact Below.refl _ _ | assumption | (refine bdrew ?_) | (refine bdrewN ?_ _) | (refine balloc ?_ _) | (refine bset ?_ (by first | omega | (simp; done) | (simp; omega)) _) | (refine bnext ?_ (by assumption))))), heap_alloc_new _ _, World.ownsRow_nil _ _ _ _, fun i hi => by omega⟩
  case round =>
    obtain ⟨m, hm, rfl, HD, HCB, HK, HZ⟩ := hrel
    have k2 : wr.cell? ⟨w.heap.size, 2, none⟩ = some (.slice c.ra (len c.revs) c.rc) := block_cell HCB.out 2
    by_cases hlt : m < len c.revs
    · obtain ⟨b, off, hra, ⟨c0, c1, c2, c3, c4, c5, c6, c7, c8, c9, c10⟩⟩ := HC.out.below HD.out m hlt
      have i1 : (m : Int) < len c.revs := by omega
      have HT2 := Lib.hid (HT.out m (by have := HO.out; omega) _ HD.out)
      obtain ⟨s, hs⟩ : ∃ s, (oth outs m).1 = s := ⟨_, rfl⟩
      obtain ⟨k, hk⟩ : ∃ k, (oth outs m).2 = k := ⟨_, rfl⟩
      rw [hs, hk] at HT2
      have HS := Lib.hid hs
      have HKK := Lib.hid hk
      clear hs hk
      go_wp2_with fail
      clear c0 c1 c2 c3 c4 c5 c6 c7 c8 c9 c10 hra
      refine HT2.out.mono ?_
      rintro e w1 ⟨rfl, hb⟩
      have hbb := bnext HD.out hb
      have hz := hbb.size
      have HOWN := Lib.hid (own_below HK.out hb)
      have HBB := Lib.hid hbb
      have HCB1 := Lib.hid ((hb.block _ (lt_of_block HCB.out)).trans HCB.out)
      clear hb HT2 hbb k2
      by_cases hk0 : k = 0
      · subst hk0
        go_wp2_with (at_builtin; refine wpList_append_own _ rfl _ _ 26 rfl w.heap.size 9 i0 (.string ⟨#[]⟩) 1 16 Tryz.underlying26 hi hz0 hz1 hz2 rfl (by decide) _ _ _ rfl (HOWN.out.alloc _) ⟨w1.heap.size, 0, none⟩ 1 1 [.string s] rfl rfl ?c1 ?c2 ?c3 ?c4 ?c5 ?_)
        case c1 => exact alloc_cells _ #[_] _
        case c2 => intro u hu; simp at hu; subst hu; rfl
        case c3 => unfold maxLen; omega
        case c4 => omega
        case c5 => simp; omega
        intro v' w2 hown' hgrow _
        have hb2 : Below w.heap.size w w2 := (by
          refine grownBy_below (balloc HBB.out _) hgrow ?_
          intro k hk'
          exact (HOWN.out.lt k hk').1)
        have HCB2 : Hid (w2.heap[w.heap.size]? = some (.cells c.cells 28 (0, 0))) := Lib.hid (by
          have hl := lt_of_block HCB1.out
          rw [hgrow.block _ (by simp; omega) (by
            intro e
            have hh := HOWN.out.2
            rcases hh with ⟨hv, -⟩ | ⟨g, cap, cur, hv, -, hg, -⟩
            · rw [hv] at e; cases e
            · rw [hv] at e
              have e' : w.heap.size = g := by simpa [Value.ownBlock] using e
              rw [← e', HCB1.out] at hg
              cases hg), Below.heap_alloc _ _ _ hl]
          exact HCB1.out)
        have HO2 := Lib.hid hown'
        have HB2 := Lib.hid hb2
        clear hown' hgrow hb2 hz
        go_wp2
        go_roundg (len c.revs - (m + 1))
        case rel => exact ⟨m + 1, by omega, by go_num, HB2.out, HCB2.out, (by
          have h := HO2.out
          show World.ownsRow _ _ _ _ _ _ _
          rw [take_outs outs m (by have := HO.out; omega), HS.out]; simpa using h), (by
          intro i hi
          by_cases e : i = m
          · subst e; exact HKK.out
          · exact HZ.out i (by omega))⟩
        case measure => omega
      · have HE : Hid (eachO outs = ([], k)) := Lib.hid (by rw [eachO_bad outs m (by have := HO.out; omega) HZ.out (by rw [HKK.out]; exact hk0), HKK.out])
        have hkb : (k == 0) = false := by simp [hk0]
        go_wp2
        go_ret2
        refine ⟨.slice none 0 0, ?_, ?_, HBB.out⟩
        · rw [HE.out]; rfl
        · rw [HE.out]; exact World.ownsRow_nil _ _ _ _
    · obtain rfl : m = len c.revs := by omega
      have i1 : ¬ ((len c.revs : Nat) : Int) < (len c.revs : Nat) := by omega
      have HE : Hid (eachO outs = (outs.map (fun x => x.1), 0)) := Lib.hid (eachO_all outs (fun i hi => HZ.out i (by have := HO.out; omega)))
      go_wp2
      go_ret2
      have h := HK.out
      rw [show outs.take (len c.revs) = outs from by rw [← HO.out]; exact take_len outs] at h
      refine ⟨u4, ?_, ?_, HD.out⟩
      · rw [HE.out]; rfl
      · rw [HE.out]
        rw [show len (outs.map fun x => x.1) = len c.revs from by rw [← HO.out]; simp [len]]
        exact h
end Go.Proofs.YtihiaopilnjonaaGreatDoor
