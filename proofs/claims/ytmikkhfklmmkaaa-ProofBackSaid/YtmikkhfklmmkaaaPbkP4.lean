/- Parts of the proof, one behind the other. -/
import Derived.Test.YtmikkhfklmmkaaaPbkP3
import Derived.Maps.AppendAt
import Derived.ArgAppend
import Derived.Laws.AppendOwnNone
import Derived.ProofKit
import Derived.OpenShut
import Derived.ShutString
import Derived.ChangeOld
import Derived.Deep.Slices
import Derived.Deep.Fields
import Derived.ChangeMaps5
namespace Go.Proofs.Ytmikkhfklmmkaaa
open Go.RowKit
set_option linter.unusedSimpArgs false
set_option linter.unusedVariables false
structure PrIn (ps : List Int) (es ds : List ByteArray) (pa ea da : Option Addr) (dc : Nat) (w : World) : Prop where
  p : U64s w pa ps
  e : Txts w ea es
  d : Txts w da ds
  pl : len ps ≤ 100
  pu : ∀ k ∈ ps, U64 k
  el : len es ≤ 1000000
  dl : len ds ≤ 1000000
  dc_ : len ds ≤ dc
  ez : ∀ i, i < len es → (tth es i).size ≤ 1000000
theorem PrIn.below {ps : List Int} {es ds : List ByteArray} {pa ea da : Option Addr} {dc : Nat} {w w' : World} (h : PrIn ps es ds pa ea da dc w) (hb : Below w.heap.size w w') : PrIn ps es ds pa ea da dc w' :=
  ⟨h.p.below hb, h.e.below hb, h.d.below hb, h.pl, h.pu, h.el, h.dl, h.dc_, h.ez⟩
theorem proot_any (n : Int) (ps : List Int) (es ds : List ByteArray) (pa ea da : Option Addr) (pc ec dc : Nat) (w : World) (h : PrIn ps es ds pa ea da dc w) (h0 : -9223372036854775808 ≤ n) (h1 : n ≤ 9223372036854775807) :
    Calls Try.prog 32 #[.int .i64 n, .slice pa (len ps) pc, .slice ea (len es) ec, .slice da (len ds) dc] w (RootIs n ps es ds w) := by
  by_cases hb : ArgOk n ps es
  · cases hbad : badB ds with
    | true => exact proot_form n ps es ds pa ea da pc ec dc w h.p h.d h.pl h.dl h0 h1 hb hbad
    | false =>
      obtain ⟨nn, rfl⟩ := Int.eq_ofNat_of_zero_le hb.1.1
      exact proot_main nn ps es ds pa ea da pc ec dc w h.p h.e h.d h.pl h.pu h.dl h.dc_ h.ez hb hbad
  · exact proot_arg n ps es ds pa ea da pc ec dc w h.p h.pl h0 h1 hb h.el
def checkE (r : ByteArray) (n : Int) (ps : List Int) (es ds : List ByteArray) : Int := if rootE n ps es ds = 0 ∧ rootS n ps es ds ≠ r then 20 else rootE n ps es ds
set_option maxRecDepth 100000 in
theorem pcheck_any (r : ByteArray) (n : Int) (ps : List Int) (es ds : List ByteArray) (pa ea da : Option Addr) (pc ec dc : Nat) (w : World) (h : PrIn ps es ds pa ea da dc w) (h0 : -9223372036854775808 ≤ n) (h1 : n ≤ 9223372036854775807) :
    Calls Try.prog 17 #[.string r, .int .i64 n, .slice pa (len ps) pc, .slice ea (len es) ec, .slice da (len ds) dc] w fun e w' => e = .returned (.int .i64 (checkE r n ps es ds)) ∧ Below w.heap.size w w' := by
  have HR := Lib.hid (proot_any n ps es ds pa ea da pc ec dc w h h0 h1)
  clear h h0 h1
  go_enter Try.func17, Try.ntmps17
  go_wp2_with fail
  refine HR.out.mono ?_
  rintro e w1 ⟨rfl, hb1⟩
  have HB1 := Lib.hid hb1
  have HCE : Hid (checkE r n ps es ds = if rootE n ps es ds = 0 ∧ rootS n ps es ds ≠ r then 20 else rootE n ps es ds) := Lib.hid rfl
  obtain ⟨E, hE⟩ : ∃ E, rootE n ps es ds = E := ⟨_, rfl⟩
  obtain ⟨D, hD⟩ : ∃ D, rootS n ps es ds = D := ⟨_, rfl⟩
  rw [hE, hD] at HCE ⊢
  clear hb1 hE hD
  by_cases he : E = 0
  · subst he
    by_cases hd : D = r
    · have e1 : (D.toList == r.toList) = true := by rw [str_beq]; exact decide_eq_true hd
      have HC2 : Hid (checkE r n ps es ds = 0) := Lib.hid (by rw [HCE.out, if_neg (fun h => h.2 hd)])
      clear hd
      go_wp2
      go_ret
      exact ⟨by rw [HC2.out]; rfl, HB1.out⟩
    · have e1 : (D.toList == r.toList) = false := by rw [str_beq]; exact decide_eq_false hd
      have HC2 : Hid (checkE r n ps es ds = 20) := Lib.hid (by rw [HCE.out, if_pos ⟨rfl, hd⟩])
      clear hd
      go_wp2
      go_ret
      exact ⟨by rw [HC2.out]; rfl, HB1.out⟩
  · have e1 : (E == 0) = false := by simpa using he
    have HC2 : Hid (checkE r n ps es ds = E) := Lib.hid (by rw [HCE.out, if_neg (fun h => he h.1)])
    go_wp2
    go_ret
    exact ⟨by rw [HC2.out]; rfl, HB1.out⟩
theorem is_any (r : ByteArray) (n : Int) (ps : List Int) (es ds : List ByteArray) (pa ea da : Option Addr) (pc ec dc : Nat) (w : World) (h : PrIn ps es ds pa ea da dc w) (h0 : -9223372036854775808 ≤ n) (h1 : n ≤ 9223372036854775807) (hE : rootE n ps es ds = 0) (hS : rootS n ps es ds = r) :
    Calls Try.prog 15 #[.string r, .int .i64 n, .slice pa (len ps) pc, .slice ea (len es) ec, .slice da (len ds) dc] w fun e w' => e = .returned (.bool true) ∧ Below w.heap.size w w' := by
  have HR := Lib.hid (proot_any n ps es ds pa ea da pc ec dc w h h0 h1)
  have HES := Lib.hid (And.intro hE hS)
  have e1 : (r.toList == r.toList) = true := by rw [str_beq]; exact decide_eq_true rfl
  clear h h0 h1 hE hS
  go_enter Try.func15, Try.ntmps15
  go_wp2_with fail
  refine HR.out.mono ?_
  rintro e w1 ⟨rfl, hb1⟩
  have HB1 := Lib.hid hb1
  rw [HES.out.1, HES.out.2]
  clear hb1
  go_wp2
  go_ret
  exact ⟨by first | rfl | (simp), HB1.out⟩
theorem fails_any (x : Int) (n : Int) (ps : List Int) (es ds : List ByteArray) (pa ea da : Option Addr) (pc ec dc : Nat) (w : World) (h : PrIn ps es ds pa ea da dc w) (h0 : -9223372036854775808 ≤ n) (h1 : n ≤ 9223372036854775807) (hE : rootE n ps es ds = x) (hx : x ≠ 0) :
    Calls Try.prog 14 #[.int .i64 x, .int .i64 n, .slice pa (len ps) pc, .slice ea (len es) ec, .slice da (len ds) dc] w fun e w' => e = .returned (.bool true) ∧ Below w.heap.size w w' := by
  have HR := Lib.hid (proot_any n ps es ds pa ea da pc ec dc w h h0 h1)
  have HES : Hid (rootE n ps es ds = x ∧ rootS n ps es ds = ⟨#[]⟩) := Lib.hid ⟨hE, by unfold rootS; rw [hE, if_neg hx]⟩
  have e1 : (⟨#[]⟩ : ByteArray).toList.isEmpty = true := by rw [ByteArray.toList_eq]; rfl
  clear h h0 h1 hE hx
  go_enter Try.func14, Try.ntmps14
  go_wp2_with fail
  refine HR.out.mono ?_
  rintro e w1 ⟨rfl, hb1⟩
  have HB1 := Lib.hid hb1
  rw [HES.out.1, HES.out.2]
  clear hb1
  go_wp2
  go_ret
  exact ⟨by first | rfl | (simp), HB1.out⟩
end Go.Proofs.Ytmikkhfklmmkaaa
namespace Go.Proofs.Ytmikkhfklmmkaaa
open Go.RowKit
set_option linter.unusedSimpArgs false
set_option linter.unusedVariables false
theorem u64s_cells {w : World} {b : Nat} {t : TypeId} (l : List Int) (h : w.heap[b]? = some (.cells (l.map (Value.int .u64)).toArray t (0, 0))) : U64s w (some ⟨b, 0, none⟩) l := fun i hi => ⟨b, 0, rfl, by
  have h2 : i < l.length := hi
  rw [block_cell h, Nat.zero_add, List.getElem?_toArray, List.getElem?_map, List.getElem?_eq_getElem h2, nth_eq l i hi]
  rfl⟩
theorem pu_of {l : List Int} (h : ∀ k ∈ l, 0 ≤ k ∧ k ≤ 18446744073709551615) : ∀ k ∈ l, U64 k := h
theorem ez_of {es : List ByteArray} (h : ∀ e ∈ es, e.size ≤ 1000) : ∀ i, i < len es → (tth es i).size ≤ 1000000 := fun i hi => by
  rw [tth_eq es i hi]
  have := h _ (List.getElem_mem (show i < es.length from hi))
  omega
set_option maxRecDepth 100000 in
set_option maxHeartbeats 8000000 in
theorem works11_any (w : World) : Calls Try.prog 10 #[] w fun e w' => e = .returned (.bool true) ∧ Below w.heap.size w w' := by
  go_enter Try.func10, Try.ntmps10
  go_wp2_with fail
  refine (hash1_any leafT aT w (by decide) (by decide) (by decide)).mono ?_
  rintro e w1 ⟨rfl, hb1⟩
  have HB1 := Lib.hid hb1
  obtain ⟨A9, hA9⟩ : ∃ A9, hashP leafT [aT] = A9 := ⟨_, rfl⟩
  have SA9 : Hid (A9.size = 32) := Lib.hid (by rw [← hA9, hashP_size])
  have ZA9 : Hid (A9.size ≤ 1000000) := Lib.hid (by rw [SA9.out]; decide)
  have QA9 := Lib.hid hA9
  rw [hA9]
  clear hb1 hA9
  go_wp2_with fail
  refine (hash1_any leafT bT w1 (by decide) (by decide) (by decide)).mono ?_
  rintro e w2 ⟨rfl, hb2⟩
  have HB2 : Hid (Below w.heap.size w w2) := Lib.hid (bnext HB1.out hb2)
  obtain ⟨B9, hB9⟩ : ∃ B9, hashP leafT [bT] = B9 := ⟨_, rfl⟩
  have SB9 : Hid (B9.size = 32) := Lib.hid (by rw [← hB9, hashP_size])
  have ZB9 : Hid (B9.size ≤ 1000000) := Lib.hid (by rw [SB9.out]; decide)
  have QB9 := Lib.hid hB9
  rw [hB9]
  clear hb2 hB9
  go_wp2_with fail
  refine (hash1_any leafT cT w2 (by decide) (by decide) (by decide)).mono ?_
  rintro e w3 ⟨rfl, hb3⟩
  have HB3 : Hid (Below w.heap.size w w3) := Lib.hid (bnext HB2.out hb3)
  obtain ⟨C9, hC9⟩ : ∃ C9, hashP leafT [cT] = C9 := ⟨_, rfl⟩
  have SC9 : Hid (C9.size = 32) := Lib.hid (by rw [← hC9, hashP_size])
  have ZC9 : Hid (C9.size ≤ 1000000) := Lib.hid (by rw [SC9.out]; decide)
  have QC9 := Lib.hid hC9
  rw [hC9]
  clear hb3 hC9
  go_wp2_with fail
  refine (hash0_any noneT w3 (by decide) (by decide)).mono ?_
  rintro e w4 ⟨rfl, hb4⟩
  have HB4 : Hid (Below w.heap.size w w4) := Lib.hid (bnext HB3.out hb4)
  obtain ⟨N9, hN9⟩ : ∃ N9, hashP noneT [] = N9 := ⟨_, rfl⟩
  have SN9 : Hid (N9.size = 32) := Lib.hid (by rw [← hN9, hashP_size])
  have ZN9 : Hid (N9.size ≤ 1000000) := Lib.hid (by rw [SN9.out]; decide)
  have QN9 := Lib.hid hN9
  rw [hN9]
  clear hb4 hN9
  go_wp2_with fail
  refine (hash2_any nodeT A9 C9 w4 (by decide) (by decide) ZA9.out ZC9.out).mono ?_
  rintro e w5 ⟨rfl, hb5⟩
  have HB5 : Hid (Below w.heap.size w w5) := Lib.hid (bnext HB4.out hb5)
  obtain ⟨L9, hL9⟩ : ∃ L9, hashP nodeT [A9, C9] = L9 := ⟨_, rfl⟩
  have SL9 : Hid (L9.size = 32) := Lib.hid (by rw [← hL9, hashP_size])
  have ZL9 : Hid (L9.size ≤ 1000000) := Lib.hid (by rw [SL9.out]; decide)
  have QL9 := Lib.hid hL9
  rw [hL9]
  clear hb5 hL9
  go_wp2_with fail
  refine (hash2_any nodeT B9 N9 w5 (by decide) (by decide) ZB9.out ZN9.out).mono ?_
  rintro e w6 ⟨rfl, hb6⟩
  have HB6 : Hid (Below w.heap.size w w6) := Lib.hid (bnext HB5.out hb6)
  obtain ⟨T9, hT9⟩ : ∃ T9, hashP nodeT [B9, N9] = T9 := ⟨_, rfl⟩
  have ST9 : Hid (T9.size = 32) := Lib.hid (by rw [← hT9, hashP_size])
  have ZT9 : Hid (T9.size ≤ 1000000) := Lib.hid (by rw [ST9.out]; decide)
  have QT9 := Lib.hid hT9
  rw [hT9]
  clear hb6 hT9
  go_wp2_with fail
  refine (hash2_any nodeT L9 T9 w6 (by decide) (by decide) ZL9.out ZT9.out).mono ?_
  rintro e w7 ⟨rfl, hb7⟩
  have HB7 : Hid (Below w.heap.size w w7) := Lib.hid (bnext HB6.out hb7)
  obtain ⟨R9, hR9⟩ : ∃ R9, hashP nodeT [L9, T9] = R9 := ⟨_, rfl⟩
  have SR9 : Hid (R9.size = 32) := Lib.hid (by rw [← hR9, hashP_size])
  have ZR9 : Hid (R9.size ≤ 1000000) := Lib.hid (by rw [SR9.out]; decide)
  have QR9 := Lib.hid hR9
  rw [hR9]
  clear hb7 hR9
  go_upto_region 5 with fail
  obtain ⟨q1, hq1⟩ : ∃ q1, w7.heap.size = q1 := ⟨_, rfl⟩
  obtain ⟨q2, hq2⟩ : ∃ q2, w7.heap.size + 1 = q2 := ⟨_, rfl⟩
  obtain ⟨v0, hv0⟩ : ∃ V, (w7.alloc (.cells #[.int .u64 1] 27)).alloc (.cells #[.string ⟨#[98]⟩] 9) = V := ⟨_, rfl⟩
  have P0 : Hid (U64s v0 (some ⟨q1, 0, none⟩) [1]) := Lib.hid (u64s_cells [1] (by rw [← hv0]; exact block_alloc (alloc_new_at _ hq1) _))
  have E0 : Hid (Txts v0 (some ⟨q2, 0, none⟩) [bT]) := Lib.hid (txts_rcells [bT] (by rw [← hv0]; exact alloc_new_at _ (by rw [alloc_size _ rfl]; exact hq2)))
  have W0 : Hid (Below w.heap.size w v0) := Lib.hid (by rw [← hv0]; exact balloc (balloc HB7.out _) _)
  rw [hq2, hq1, hv0]
  clear hq2 hq1 hv0
  have r32 : ((R9.size : Nat) : Int) = 32 := by have := SR9.out; omega
  have n32 : ((N9.size : Nat) : Int) = 32 := by have := SN9.out; omega
  go_wp2_with fail
  refine (is_any R9 3 [1] [bT] [N9, L9] _ _ _ _ _ _ _ ⟨(P0.out.below (balloc (Below.refl _ _) _)), (E0.out.below (balloc (Below.refl _ _) _)), (txts_rcells [N9, L9] (heap_alloc_new _ _)), by show 1 ≤ 100; decide, pu_of (by decide), by show 1 ≤ 1000000; decide, by show 2 ≤ 1000000; decide, Nat.le_refl _, ez_of (by decide)⟩ (by decide) (by decide) (ex_one N9 L9 SN9.out SL9.out).1 ((ex_one N9 L9 SN9.out SL9.out).2.trans (by rw [← QR9.out, ← QT9.out, QB9.out]))).mono ?_
  rintro e v1 ⟨rfl, hb⟩
  have hbb : Below v0.heap.size v0 v1 := bnext (balloc (Below.refl _ _) _) hb
  have P1 := Lib.hid (P0.out.below hbb)
  have E1 := Lib.hid (E0.out.below hbb)
  have W1 : Hid (Below w.heap.size w v1) := Lib.hid (bnext W0.out hbb)
  clear hb hbb P0 E0 W0 r32
  go_wp2_with fail
  refine (is_any A9 1 [0] [aT] [] _ _ _ _ _ _ _ ⟨(u64s_cells [0] (block_alloc (heap_alloc_new _ _) _)), (txts_rcells [aT] (alloc_new_at _ (by simp))), (Txts.nil _ _), by show 1 ≤ 100; decide, pu_of (by decide), by show 1 ≤ 1000000; decide, by show 0 ≤ 1000000; decide, Nat.le_refl _, ez_of (by decide)⟩ (by decide) (by decide) ex_two.1 (ex_two.2.trans QA9.out)).mono ?_
  rintro e v2 ⟨rfl, hb⟩
  have hbb : Below v1.heap.size v1 v2 := bnext (balloc (balloc (Below.refl _ _) _) _) hb
  have P2 := Lib.hid (P1.out.below hbb)
  have E2 := Lib.hid (E1.out.below hbb)
  have W2 : Hid (Below w.heap.size w v2) := Lib.hid (bnext W1.out hbb)
  clear hb hbb P1 E1 W1
  go_wp2_with fail
  refine (is_any R9 3 [0, 1, 2] [aT, bT, cT] [N9] _ _ _ _ _ _ _ ⟨(u64s_cells [0, 1, 2] (block_alloc (block_alloc (heap_alloc_new _ _) _) _)), (txts_rcells [aT, bT, cT] (block_alloc (alloc_new_at _ (by simp)) _)), (txts_rcells [N9] (alloc_new_at _ (by simp))), by show 3 ≤ 100; decide, pu_of (by decide), by show 3 ≤ 1000000; decide, by show 1 ≤ 1000000; decide, Nat.le_refl _, ez_of (by decide)⟩ (by decide) (by decide) (ex_three N9 SN9.out).1 ((ex_three N9 SN9.out).2.trans (by rw [QA9.out, QC9.out, QB9.out, QL9.out, QT9.out, QR9.out]))).mono ?_
  rintro e v3 ⟨rfl, hb⟩
  have hbb : Below v2.heap.size v2 v3 := bnext (balloc (balloc (balloc (Below.refl _ _) _) _) _) hb
  have P3 := Lib.hid (P2.out.below hbb)
  have E3 := Lib.hid (E2.out.below hbb)
  have W3 : Hid (Below w.heap.size w v3) := Lib.hid (bnext W2.out hbb)
  clear hb hbb P2 E2 W2
  go_wp2_with fail
  refine (fails_any 4 3 [1] [bT] [N9] _ _ _ _ _ _ _ ⟨(P3.out.below (balloc (Below.refl _ _) _)), (E3.out.below (balloc (Below.refl _ _) _)), (txts_rcells [N9] (heap_alloc_new _ _)), by show 1 ≤ 100; decide, pu_of (by decide), by show 1 ≤ 1000000; decide, by show 1 ≤ 1000000; decide, Nat.le_refl _, ez_of (by decide)⟩ (by decide) (by decide) (ex_short N9 SN9.out) (by decide)).mono ?_
  rintro e v4 ⟨rfl, hb⟩
  have hbb : Below v3.heap.size v3 v4 := bnext (balloc (Below.refl _ _) _) hb
  have P4 := Lib.hid (P3.out.below hbb)
  have E4 := Lib.hid (E3.out.below hbb)
  have W4 : Hid (Below w.heap.size w v4) := Lib.hid (bnext W3.out hbb)
  clear hb hbb P3 E3 W3
  go_wp2_with fail
  refine (fails_any 3 3 [1] [bT] [N9, L9, L9] _ _ _ _ _ _ _ ⟨(P4.out.below (balloc (Below.refl _ _) _)), (E4.out.below (balloc (Below.refl _ _) _)), (txts_rcells [N9, L9, L9] (heap_alloc_new _ _)), by show 1 ≤ 100; decide, pu_of (by decide), by show 1 ≤ 1000000; decide, by show 3 ≤ 1000000; decide, Nat.le_refl _, ez_of (by decide)⟩ (by decide) (by decide) (ex_long N9 L9 SN9.out SL9.out) (by decide)).mono ?_
  rintro e v5 ⟨rfl, hb⟩
  have hbb : Below v4.heap.size v4 v5 := bnext (balloc (Below.refl _ _) _) hb
  have P5 := Lib.hid (P4.out.below hbb)
  have E5 := Lib.hid (E4.out.below hbb)
  have W5 : Hid (Below w.heap.size w v5) := Lib.hid (bnext W4.out hbb)
  clear hb hbb P4 E4 W4
  go_wp2_with fail
  refine (fails_any 2 3 [1, 1] [bT, bT] [N9, L9] _ _ _ _ _ _ _ ⟨(u64s_cells [1, 1] (block_alloc (block_alloc (heap_alloc_new _ _) _) _)), (txts_rcells [bT, bT] (block_alloc (alloc_new_at _ (by simp)) _)), (txts_rcells [N9, L9] (alloc_new_at _ (by simp))), by show 2 ≤ 100; decide, pu_of (by decide), by show 2 ≤ 1000000; decide, by show 2 ≤ 1000000; decide, Nat.le_refl _, ez_of (by decide)⟩ (by decide) (by decide) (ex_twice N9 L9) (by decide)).mono ?_
  rintro e v6 ⟨rfl, hb⟩
  have hbb : Below v5.heap.size v5 v6 := bnext (balloc (balloc (balloc (Below.refl _ _) _) _) _) hb
  have P6 := Lib.hid (P5.out.below hbb)
  have E6 := Lib.hid (E5.out.below hbb)
  have W6 : Hid (Below w.heap.size w v6) := Lib.hid (bnext W5.out hbb)
  clear hb hbb P5 E5 W5
  go_wp2_with fail
  refine (fails_any 2 3 [3] [bT] [N9, L9] _ _ _ _ _ _ _ ⟨(u64s_cells [3] (block_alloc (heap_alloc_new _ _) _)), (E6.out.below (balloc (balloc (Below.refl _ _) _) _)), (txts_rcells [N9, L9] (alloc_new_at _ (by simp))), by show 1 ≤ 100; decide, pu_of (by decide), by show 1 ≤ 1000000; decide, by show 2 ≤ 1000000; decide, Nat.le_refl _, ez_of (by decide)⟩ (by decide) (by decide) (ex_far N9 L9) (by decide)).mono ?_
  rintro e v7 ⟨rfl, hb⟩
  have hbb : Below v6.heap.size v6 v7 := bnext (balloc (balloc (Below.refl _ _) _) _) hb
  have P7 := Lib.hid (P6.out.below hbb)
  have E7 := Lib.hid (E6.out.below hbb)
  have W7 : Hid (Below w.heap.size w v7) := Lib.hid (bnext W6.out hbb)
  clear hb hbb P6 E6 W6
  go_wp2_with fail
  refine (fails_any 2 3 [1] [] [N9, L9] _ _ _ _ _ _ _ ⟨(P7.out.below (balloc (Below.refl _ _) _)), (Txts.nil _ _), (txts_rcells [N9, L9] (heap_alloc_new _ _)), by show 1 ≤ 100; decide, pu_of (by decide), by show 0 ≤ 1000000; decide, by show 2 ≤ 1000000; decide, Nat.le_refl _, ez_of (by decide)⟩ (by decide) (by decide) (ex_none N9 L9) (by decide)).mono ?_
  rintro e v8 ⟨rfl, hb⟩
  have hbb : Below v7.heap.size v7 v8 := bnext (balloc (Below.refl _ _) _) hb
  have P8 := Lib.hid (P7.out.below hbb)
  have E8 := Lib.hid (E7.out.below hbb)
  have W8 : Hid (Below w.heap.size w v8) := Lib.hid (bnext W7.out hbb)
  clear hb hbb P7 E7 W7
  go_wp2_with fail
  obtain ⟨M9, hM9⟩ : ∃ M9, N9.extract 1 N9.size = M9 := ⟨_, rfl⟩
  have HM9 : Hid (M9.size ≠ 32) := Lib.hid (by rw [← hM9, ByteArray.size_extract]; have := SN9.out; omega)
  rw [hM9]
  clear hM9 n32
  refine (fails_any 5 3 [1] [bT] [M9, L9] _ _ _ _ _ _ _ ⟨(P8.out.below (balloc (Below.refl _ _) _)), (E8.out.below (balloc (Below.refl _ _) _)), (txts_rcells [M9, L9] (heap_alloc_new _ _)), by show 1 ≤ 100; decide, pu_of (by decide), by show 1 ≤ 1000000; decide, by show 2 ≤ 1000000; decide, Nat.le_refl _, ez_of (by decide)⟩ (by decide) (by decide) (ex_form M9 L9 HM9.out) (by decide)).mono ?_
  rintro e v9 ⟨rfl, hb⟩
  have hbb : Below v8.heap.size v8 v9 := bnext (balloc (Below.refl _ _) _) hb
  have P9 := Lib.hid (P8.out.below hbb)
  have E9 := Lib.hid (E8.out.below hbb)
  have W9 : Hid (Below w.heap.size w v9) := Lib.hid (bnext W8.out hbb)
  clear hb hbb P8 E8 W8
  go_wp2
  go_ret
  exact ⟨by first | rfl | simp, W9.out⟩
end Go.Proofs.Ytmikkhfklmmkaaa
namespace Go.Proofs.Ytmikkhfklmmkaaa
open Go.RowKit
set_option linter.unusedSimpArgs false
set_option linter.unusedVariables false
def choL (n b : Nat) : List Int := ((List.range n).filter (fun i => b.testBit (i % 64))).map (fun i => ((i : Nat) : Int))
theorem choL_snoc (m b : Nat) : choL (m + 1) b = choL m b ++ (if b.testBit (m % 64) = true then [((m : Nat) : Int)] else []) := by
  unfold choL
  rw [List.range_succ, List.filter_append, List.map_append]
  congr 1
  by_cases h : b.testBit (m % 64) = true
  · simp [h]
  · simp [h]
theorem choL_le (n b : Nat) : len (choL n b) ≤ n := by
  unfold choL
  rw [len_eq, List.length_map]
  exact Nat.le_trans (List.length_filter_le _ _) (by simp)
theorem choL_mem {n b : Nat} {k : Int} (h : k ∈ choL n b) : 0 ≤ k ∧ k < n := by
  unfold choL at h
  obtain ⟨i, hi, rfl⟩ := List.mem_map.1 h
  have := List.mem_range.1 (List.mem_filter.1 hi).1
  omega
theorem choL_rise (n b : Nat) : (choL n b).Pairwise (· < ·) := by
  unfold choL
  rw [List.pairwise_map]
  refine List.Pairwise.imp (R := (· < ·)) (fun h => by omega) ?_
  exact List.pairwise_lt_range.sublist (List.filter_sublist ..)
def choP (n b : Nat) : List Int := if len (choL n b) = 0 then [((b % n : Nat) : Int)] else choL n b
theorem choP_may (n b : Nat) (hn : 0 < n) : MayOk (n : Nat) (choP n b) ∧ (∀ k ∈ choP n b, 0 ≤ k ∧ k < n) ∧ len (choP n b) ≤ n := by
  have hb : b % n < n := Nat.mod_lt _ hn
  unfold choP
  by_cases h : len (choL n b) = 0
  · rw [if_pos h]
    refine ⟨may_of (show 0 < len [((b % n : Nat) : Int)] from Nat.zero_lt_one) (List.pairwise_singleton _ _) (fun k hk => ?_), fun k hk => ?_, hn⟩
    · rw [List.mem_singleton] at hk; omega
    · rw [List.mem_singleton] at hk; omega
  · rw [if_neg h]
    exact ⟨may_of (by omega) (choL_rise n b) (fun k hk => (choL_mem hk).2), fun k hk => choL_mem hk, choL_le n b⟩
def ChoIs (n b : Nat) (w : World) (e : Ending) (w' : World) : Prop := ∃ v, e = .returned v ∧ w'.ownsRow w.heap.size 27 1 v (len (choP n b)) ((choP n b).map (Value.int .u64)) ∧ Below w.heap.size w w'
set_option maxRecDepth 100000 in
set_option maxHeartbeats 4000000 in
theorem chosen_any (n b : Nat) (w : World) (hn : 0 < n) (hn2 : n ≤ 80) (hb : b < 18446744073709551616) : Calls Try.prog 12 #[.int .i64 (n : Nat), .int .u64 (b : Nat)] w (ChoIs n b w) := by
  have HN := Lib.hid (And.intro hn hn2)
  have HB := Lib.hid hb
  obtain ⟨i0, hi, hz0, hz1, hz2⟩ := info_parts info_u64
  have HZ := Lib.hid hz0
  clear hn hn2 hb hz0
  go_enter Try.func12, Try.ntmps12
  go_wp2
  go_loopg [6, 5] n (fun g i v wr => ∃ m : Nat, g + m = n ∧ i = .int .i64 m ∧ Hid (wr.ownsRow w.heap.size 27 1 v (len (choL m b)) ((choL m b).map (Value.int .u64))) ∧ Hid (Below w.heap.size w wr))
  case atStart => exact ⟨0, rfl, rfl, Lib.hid (World.ownsRow_nil _ _ _ _), Lib.hid (Below.refl _ _)⟩
  case round =>
    obtain ⟨m, hm, rfl, HO, HW⟩ := hrel
    have hnn := HN.out.2
    by_cases hlt : m < n
    · have b0 : (m : Int) < n := by omega
      obtain ⟨m6, hm6⟩ : ∃ m6, m % 64 = m6 := ⟨_, rfl⟩
      have r1 : ((m : Nat) : Int) % 64 = ((m6 : Nat) : Int) := by omega
      have r2 : ((m : Nat) : Int).tmod 64 = ((m6 : Nat) : Int) := by rw [Int.tmod_eq_emod_of_nonneg (by omega)]; exact r1
      have b2 : ¬ (m6 : Int) < 0 := by omega
      have b3 : min m6 64 = m6 := by omega
      obtain ⟨x, hx⟩ : ∃ x, b / 2 ^ m6 = x := ⟨_, rfl⟩
      have s2 : ((b : Nat) : Int) / 2 ^ m6 = ((x : Nat) : Int) := by rw [pow_cast, ← hx]; rfl
      have hxl : x < 18446744073709551616 := by rw [← hx]; exact Nat.lt_of_le_of_lt (Nat.div_le_self _ _) HB.out
      obtain ⟨y, hy⟩ : ∃ y, x % 2 = y := ⟨_, rfl⟩
      have s3 : bits .and .u64 ((x : Nat) : Int) 1 = ((y : Nat) : Int) := by
        rw [show (1 : Int) = ((1 : Nat) : Int) from rfl, u64_and_nat _ _ hxl (by omega), Nat.and_one_is_mod, hy]
      have HT : Hid (b.testBit (m % 64) = decide (y = 1)) := Lib.hid (by rw [hm6, Nat.testBit_eq_decide_div_mod_eq, hx, hy])
      have HS := Lib.hid (choL_snoc m b)
      have HLE : Hid (len (choL m b) ≤ m) := Lib.hid (choL_le m b)
      have u1 : IntKind.u64.wrap (m : Int) = (m : Int) := IntWalk.u64_in _ (by omega)
      clear hx hxl hm6
      by_cases hy1 : y = 1
      · have y1 : ((y : Nat) : Int) = 1 := by omega
        have HT1 : Hid (choL (m + 1) b = choL m b ++ [((m : Nat) : Int)]) := Lib.hid (by rw [HS.out, HT.out, if_pos (decide_eq_true hy1)])
        have hle := HLE.out
        clear hy hy1
        go_wp2_with (at_builtin; refine wpList_append_own _ rfl _ _ 28 rfl w.heap.size 27 i0 (.int .u64 0) 1 8 Try.underlying28 hi HZ.out hz1 hz2 rfl (by decide) _ _ _ rfl (HO.out.alloc _) ⟨wr.heap.size, 0, none⟩ 1 1 [.int .u64 (m : Nat)] rfl rfl (World.news_of_block (heap_alloc_new _ _)) (by intro u hu9; simp at hu9; subst hu9; rfl) (by unfold maxLen; omega) (by omega) (by have := HW.out.size; simp; omega) ?_; intro v2 w4 hown2 hgrow2 _)
        have HO2 : Hid (w4.ownsRow w.heap.size 27 1 v2 (len (choL (m + 1) b)) ((choL (m + 1) b).map (Value.int .u64))) := Lib.hid (by
          have e9 : len (choL m b ++ [((m : Nat) : Int)]) = len (choL m b) + 1 := by rw [len_eq, List.length_append]; rfl
          rw [HT1.out, List.map_append, e9]
          exact hown2)
        have HB2 : Hid (Below w.heap.size w w4) := Lib.hid (grownBy_below (balloc HW.out _) hgrow2 (fun k hk' => (HO.out.lt k hk').1))
        clear hown2 hgrow2
        go_wp2
        go_roundg (n - (m + 1))
        case rel => exact ⟨m + 1, by omega, by go_num, HO2, HB2⟩
        case measure => omega
      · have y1 : ¬ ((y : Nat) : Int) = 1 := by omega
        have HO2 : Hid (wr.ownsRow w.heap.size 27 1 u5 (len (choL (m + 1) b)) ((choL (m + 1) b).map (Value.int .u64))) := Lib.hid (by
          rw [HS.out, HT.out, if_neg (by rw [decide_eq_false hy1]; simp), List.append_nil]
          exact HO.out)
        clear hy hy1
        go_wp2
        go_roundg (n - (m + 1))
        case rel => exact ⟨m + 1, by omega, by go_num, HO2, HW⟩
        case measure => omega
    · obtain rfl : m = n := by omega
      have b0 : ¬ ((m : Nat) : Int) < (m : Nat) := by omega
      have hm0 := HN.out.1
      have u2 : IntKind.u64.wrap ((m : Nat) : Int) = (m : Int) := IntWalk.u64_in _ (by omega)
      obtain ⟨aa, cc, rfl, hU, _, _⟩ := own_u64 HO.out
      by_cases hz : len (choL m b) = 0
      · have HPP : Hid (choP m b = [((b % m : Nat) : Int)]) := Lib.hid (by unfold choP; rw [if_pos hz])
        have z1 : ((len (choL m b) : Nat) : Int) = 0 := by omega
        have z2 : (((len (choL m b) : Nat) : Int) == 0) = true := by simp; omega
        obtain ⟨r9, hr9⟩ : ∃ r9, b % m = r9 := ⟨_, rfl⟩
        rw [hr9] at HPP
        have q1 : ((b : Nat) : Int) % ((m : Nat) : Int) = ((r9 : Nat) : Int) := by rw [← hr9]; rfl
        have q2 : ((b : Nat) : Int).tmod ((m : Nat) : Int) = ((r9 : Nat) : Int) := by rw [Int.tmod_eq_emod_of_nonneg (by omega)]; exact q1
        have q3 : ¬ ((m : Nat) : Int) = 0 := by omega
        have HNIL : Hid (choL m b = []) := Lib.hid (List.eq_nil_of_length_eq_zero (by rw [← len_eq]; exact hz))
        clear hz hr9 hU
        go_wp2_with (at_builtin; refine wpList_append_own _ rfl _ _ 28 rfl w.heap.size 27 i0 (.int .u64 0) 1 8 Try.underlying28 hi HZ.out hz1 hz2 rfl (by decide) _ _ _ rfl (HO.out.alloc _) ⟨wr.heap.size, 0, none⟩ 1 1 [.int .u64 (r9 : Nat)] rfl rfl (World.news_of_block (heap_alloc_new _ _)) (by intro u hu9; simp at hu9; subst hu9; rfl) (by unfold maxLen; omega) (by omega) (by have := HW.out.size; simp; omega) ?_; intro v2 w4 hown2 hgrow2 _)
        have HO2 : Hid (w4.ownsRow w.heap.size 27 1 v2 (len (choP m b)) ((choP m b).map (Value.int .u64))) := Lib.hid (by
          rw [HPP.out]
          rw [HNIL.out] at hown2
          exact hown2)
        have HB2 : Hid (Below w.heap.size w w4) := Lib.hid (grownBy_below (balloc HW.out _) hgrow2 (fun k hk' => (HO.out.lt k hk').1))
        clear hown2 hgrow2
        go_wp2
        go_ret
        exact ⟨_, rfl, HO2.out, HB2.out⟩
      · have HPP : Hid (choP m b = choL m b) := Lib.hid (by unfold choP; rw [if_neg hz])
        have z1 : ¬ ((len (choL m b) : Nat) : Int) = 0 := by omega
        have z2 : (((len (choL m b) : Nat) : Int) == 0) = false := by simp; omega
        clear hz hU
        go_wp2
        go_ret
        exact ⟨_, rfl, by rw [HPP.out]; exact HO.out, HW.out⟩
end Go.Proofs.Ytmikkhfklmmkaaa
namespace Go.Proofs.Ytmikkhfklmmkaaa
open Go.RowKit
set_option linter.unusedSimpArgs false
set_option linter.unusedVariables false
theorem tree_ok {els : List ByteArray} {ps : List Int} (hn : len els ≤ 65536) (hm : MayOk (len els : Nat) ps) :
    (∀ d ∈ dgsL els (plcL (len els : Nat) ps), d.size = 32) ∧ len (dgsL els (plcL (len els : Nat) ps)) = neededP (len els : Nat) ps := by
  obtain ⟨d, hdd⟩ : ∃ d, depN els = d := ⟨_, rfl⟩
  have hd : d ≤ 16 := by rw [← hdd]; exact depN_le hn
  have hdz : depthZ (len els : Nat) = ((d : Nat) : Int) := by rw [depthZ_len hn, hdd]
  refine ⟨fun x hx => ?_, ?_⟩
  · unfold dgsL at hx
    obtain ⟨y, _, rfl⟩ := List.mem_map.1 hx
    exact plD_size _ _ _ _
  · have hrw : rowsP (len els : Nat) ps = rowsOf (leavesL ps (d : Nat)) d := by unfold rowsP; rw [hdz, needs_rows hd hm.1]
    have hpl : plcL (len els : Nat) ps = flatLv (rowsOf (leavesL ps (d : Nat)) d) := by unfold plcL; rw [hdz, needs_rows hd hm.1]
    unfold neededP
    rw [hrw, hpl, dgs_all]
def elP (L : List ByteArray) (P : List Int) (m : Nat) : List ByteArray := (P.take m).map (fun k => tth L k.toNat)
theorem elP_snoc (L : List ByteArray) (P : List Int) (m : Nat) (h : m < len P) : elP L P (m + 1) = elP L P m ++ [tth L (nth P m).toNat] := by
  have h2 : m < P.length := h
  unfold elP
  rw [List.take_succ_eq_append_getElem h2, List.map_append, nth_eq P m h2]
  rfl
theorem elP_len (L : List ByteArray) (P : List Int) (m : Nat) (h : m ≤ len P) : len (elP L P m) = m := by
  have h2 : m ≤ P.length := h
  unfold elP
  rw [len_eq, List.length_map, List.length_take]
  omega
theorem elP_at (L : List ByteArray) (P : List Int) (m i : Nat) (h : m ≤ len P) (hi : i < m) : tth (elP L P m) i = tth L (nth P i).toNat := by
  have h2 : m ≤ P.length := h
  have h3 : i < (elP L P m).length := by have := elP_len L P m h; rw [len_eq] at this; omega
  unfold elP at h3 ⊢
  rw [tth_eq _ i h3, List.getElem_map, List.getElem_take, nth_eq P i (by omega)]
theorem elP_size (L : List ByteArray) (P : List Int) (m : Nat) (h : m ≤ len P) (hz : ∀ j, (tth L j).size ≤ 1000000) : ∀ i, i < len (elP L P m) → (tth (elP L P m) i).size ≤ 1000000 := fun i hi => by
  rw [elP_len L P m h] at hi
  rw [elP_at L P m i h hi]
  exact hz _
theorem tth_small {L : List ByteArray} {B : Nat} (h : ∀ j, j < len L → (tth L j).size ≤ B) : ∀ j, (tth L j).size ≤ B := fun j => by
  by_cases hj : j < len L
  · exact h j hj
  · have : tth L j = ⟨#[]⟩ := by
      unfold tth
      rw [List.getD_eq_getElem?_getD, List.getElem?_eq_none (show L.length ≤ j from by have : L.length = len L := rfl; omega)]
      rfl
    rw [this]
    exact Nat.zero_le _
end Go.Proofs.Ytmikkhfklmmkaaa
namespace Go.Proofs.Ytmikkhfklmmkaaa
open Go.RowKit
set_option linter.unusedSimpArgs false
set_option linter.unusedVariables false
theorem own_set {base n c g m : Nat} {w : World} {e : TypeId} {xs : List Value} {u : Value} (h : w.ownsRow base e 1 (.slice (some ⟨g, 0, none⟩) n c) n xs) : (w.setCell ⟨g, m, none⟩ u).ownsRow base e 1 (.slice (some ⟨g, 0, none⟩) n c) n (xs.set m u) := by
  refine ⟨by rw [List.length_set]; exact h.1, ?_⟩
  rcases h.2 with ⟨hz, _⟩ | ⟨g9, cap, cur, hv, hg, hh, h1, h2, h3, h4⟩
  · cases hz
  · cases hv
    refine Or.inr ⟨g, c, cur.setIfInBounds m u, rfl, hg, block_setCell hh u, h1, h2, by rw [Array.size_setIfInBounds]; exact h3, ?_⟩
    rw [Array.toList_setIfInBounds, ← h4, List.take_set]
theorem own_at {base n c : Nat} {w : World} {a : Option Addr} {l : List ByteArray} (h : w.ownsRow base 9 1 (.slice a n c) n (l.map Value.string)) (m : Nat) (hm : m < n) : ∃ g, a = some ⟨g, 0, none⟩ ∧ base ≤ g ∧ w.cell? ⟨g, m, none⟩ = some (.string (tth l m)) ∧ w.frozen? ⟨g, m, none⟩ = false ∧ g < w.heap.size := by
  have hn : l.length = n := by have := h.1; simpa using this
  rcases h.2 with ⟨hz, h9⟩ | ⟨g9, cap, cur, hv, hg, hh, h1, h2, h3, h4⟩
  · omega
  · cases hv
    refine ⟨g9, rfl, hg, ?_, block_free hh m, lt_of_block hh⟩
    have h5 := h.cellAt m (by omega)
    have hi2 : m < l.length := by omega
    rw [h5, List.getElem?_map, List.getElem?_eq_getElem hi2, tth_eq l m hi2]; rfl
end Go.Proofs.Ytmikkhfklmmkaaa
namespace Go.Proofs.Ytmikkhfklmmkaaa
open Go.RowKit
set_option linter.unusedSimpArgs false
set_option linter.unusedVariables false
theorem txts_news {w : World} {ad : Addr} {l : List ByteArray} (h : Txts w (some ad) l) : ∀ j u, (l.map Value.string)[j]? = some u → w.cell? (ad.add j) = some u := by
  intro j u hu
  have hj : j < l.length := by have := (List.getElem?_eq_some_iff.1 hu).1; simpa using this
  rw [List.getElem?_map, List.getElem?_eq_getElem hj] at hu
  cases hu
  obtain ⟨b, off, e, hc⟩ := h j hj
  cases e
  rw [tth_eq l j hj] at hc
  by_cases hj0 : j = 0
  · subst hj0; simpa [Addr.add] using hc
  · simpa [Addr.add, hj0] using hc
theorem one_txts (l : List ByteArray) : ∀ u ∈ l.map Value.string, u.oneCell' = true := by
  intro u hu
  obtain ⟨x, _, rfl⟩ := List.mem_map.1 hu
  rfl
theorem len_appT {α : Type} (a b : List α) : len (a ++ b) = len a + len b := by rw [len_eq, List.length_append]; rfl
theorem wpList_append_txts {w : World} {ops : Array Oper} {rest : List Oper} {o : Oper} {a : Act} {Q : Exit → Act → World → Prop} (hgd : o.guard = none) (s x : Operand)
    (ho : o.op = .call { callee := .builtin .append, args := #[s, x], argTypes := #[26, 26] })
    (base : Nat) (v : Value) (xs l : List ByteArray) (ad : Option Addr) (c : Nat) (hs : a.eval s = v) (hown : w.ownsRow base 9 1 v (len xs) (xs.map Value.string))
    (hx : a.eval x = .slice ad (len l) c) (hl : Txts w ad l) (hc : ad = none → c = 0) (hlen : len xs + len l ≤ 100000) (hbase : base ≤ w.heap.size)
    (h : ∀ v' w', w'.ownsRow base 9 1 v' (len (xs ++ l)) ((xs ++ l).map Value.string) → w.grownBy w' v.ownBlock → wpList Try.prog ops Q rest (a.put o.dst v') w') : wpList Try.prog ops Q (o :: rest) a w := by
  obtain ⟨i0, hi, hz0, hz1, hz2⟩ := info_parts info_str
  cases ad with
  | none =>
    obtain rfl : l = [] := by
      cases l with
      | nil => rfl
      | cons y l => obtain ⟨b, off, e, _⟩ := hl 0 (by simp [len]); cases e
    rw [hc rfl] at hx
    refine wpList_append_own_none hgd s x 26 ho base 9 i0 1 Try.underlying26 hi v _ _ hs hown hx ?_
    exact h v w (by rw [List.append_nil]; exact hown) ⟨rfl, rfl, rfl, Nat.le_refl _, fun _ _ _ => rfl⟩
  | some ad =>
    refine wpList_append_own _ hgd s x 26 ho base 9 i0 (.string ⟨#[]⟩) 1 16 Try.underlying26 hi hz0 hz1 hz2 rfl (by decide) v _ _ hs hown ad (len l) c (l.map Value.string) hx (by simp [len]) (txts_news hl) (one_txts l) (by unfold maxLen; omega) (by omega) hbase ?_
    intro v' w' h1 h2 _
    refine h v' w' ?_ h2
    rw [len_appT, List.map_append]; exact h1
theorem own_form {base n c : Nat} {w : World} {a : Option Addr} {e : TypeId} {xs : List Value} (h : w.ownsRow base e 1 (.slice a n c) n xs) (h0 : 0 < n) : ∃ g, a = some ⟨g, 0, none⟩ ∧ base ≤ g := by
  rcases h.2 with ⟨hz, h9⟩ | ⟨g, cap, cur, hv, hg, _⟩
  · omega
  · injection hv with e1 e2 e3
    exact ⟨g, e1, hg⟩
def Apart (u v : Value) : Prop := ∀ k, u.ownBlock = some k → v.ownBlock ≠ some k
theorem Apart.symm {u v : Value} (h : Apart u v) : Apart v u := fun k h1 h2 => h k h2 h1
theorem Apart.keep {w w1 : World} {u v : Value} {base e size n : Nat} {xs : List Value} (h : Apart u v) (ho : w.ownsRow base e size u n xs) (hg : w.grownBy w1 v.ownBlock) : w1.ownsRow base e size u n xs :=
  ho.kept hg (by
    cases hp : Value.ownBlock u with
    | none => exact .inl rfl
    | some k => exact .inr (fun e => h k hp e.symm))
theorem Apart.grow {w : World} {u v v' : Value} {base e size n : Nat} {xs : List Value} (h : Apart u v) (ho : w.ownsRow base e size u n xs) (hat : v'.ownBlock = v.ownBlock ∨ v'.ownBlock = some w.heap.size) : Apart u v' := fun k hk e => by
  rcases hat with h9 | h9
  · exact h k hk (h9.symm.trans e)
  · rw [h9] at e
    have := (ho.lt k hk).2
    cases e
    exact Nat.lt_irrefl _ this
theorem own_setO {w : World} {base e size n g m : Nat} {v u : Value} {xs : List Value} (h : w.ownsRow base e size v n xs) (hne : v.ownBlock ≠ some g) : (w.setCell ⟨g, m, none⟩ u).ownsRow base e size v n xs := by
  refine ⟨h.1, h.2.imp id ?_⟩
  rintro ⟨g', cap, cur, rfl, hB, hh, r⟩
  exact ⟨g', cap, cur, rfl, hB, block_setCell_ne hh (fun e9 => hne (by rw [show g' = g from e9]; rfl)) u, r⟩
end Go.Proofs.Ytmikkhfklmmkaaa
namespace Go.Proofs.Ytmikkhfklmmkaaa
open Go.RowKit
set_option linter.unusedSimpArgs false
set_option linter.unusedVariables false
theorem cut_call (l : List ByteArray) (n : Nat) (a : Option Addr) (cap : Nat) (w : World) (hnn : n ≤ 100) (hl : Txts w a l) (hn : len l ≤ 9223372036854775807) :
    Calls Try.prog 11 #[.slice a (len l) cap, .int .i64 (n : Nat)] w fun e w2 => ∃ u, e = .returned u ∧ (∃ a c, u = .slice a (len (cutL l n)) c ∧ Txts w2 a (cutL l n) ∧ len (cutL l n) ≤ c) ∧ Below w.heap.size w w2 := by
  refine (cut_any l n a cap w hnn hl hn).mono ?_
  rintro e w2 ⟨v, rfl, ho, hb⟩
  obtain ⟨a2, c2, rfl, hT⟩ := own_txts ho
  refine ⟨_, rfl, ⟨a2, c2, rfl, hT, ?_⟩, hb⟩
  rcases ho.2 with ⟨e1, e2⟩ | ⟨g, cap, cur, e1, _, _, h3, _⟩
  · injection e1 with _ e3 e4
    omega
  · injection e1 with _ e3 e4
    omega
end Go.Proofs.Ytmikkhfklmmkaaa
namespace Go.Proofs.Ytmikkhfklmmkaaa
open Go.RowKit
set_option linter.unusedSimpArgs false
set_option linter.unusedVariables false
theorem own_capT {w : World} {base n c : Nat} {a : Option Addr} {xs : List Value} {m : Nat} (h : w.ownsRow base 9 1 (.slice a m c) n xs) : m ≤ c ∧ (a = none → c = 0) := by
  rcases h.2 with ⟨e, _⟩ | ⟨g, cap, cur, e, _, _, h3, _⟩
  · injection e with e1 e2 e3; exact ⟨by omega, fun _ => e3⟩
  · injection e with e1 e2 e3; exact ⟨by omega, fun e9 => by rw [e9] at e1; cases e1⟩
end Go.Proofs.Ytmikkhfklmmkaaa
namespace Go.Proofs.Ytmikkhfklmmkaaa
open Go.RowKit
set_option linter.unusedSimpArgs false
set_option linter.unusedVariables false
def turnE (L R : List ByteArray) (P : List Int) (j : Nat) : ByteArray := if j < len R then tth R j else tth L (nth P j).toNat
def tuL (L R : List ByteArray) (P : List Int) (m : Nat) : List ByteArray := (List.range m).map (turnE L R P)
def ownL (L R : List ByteArray) (P : List Int) : Nat → List ByteArray
  | 0 => L
  | m + 1 => (ownL L R P m).set (nth P m).toNat (turnE L R P m)
theorem tuL_snoc (L R : List ByteArray) (P : List Int) (m : Nat) : tuL L R P (m + 1) = tuL L R P m ++ [turnE L R P m] := by
  unfold tuL; rw [List.range_succ, List.map_append]; rfl
theorem tuL_len (L R : List ByteArray) (P : List Int) (m : Nat) : len (tuL L R P m) = m := by unfold tuL; rw [len_eq]; simp
theorem tuL_at (L R : List ByteArray) (P : List Int) (m i : Nat) (h : i < m) : tth (tuL L R P m) i = turnE L R P i := by
  rw [tth_eq _ i (by have := tuL_len L R P m; rw [len_eq] at this; omega)]
  unfold tuL; simp
theorem ownL_len (L R : List ByteArray) (P : List Int) : ∀ m, len (ownL L R P m) = len L
  | 0 => rfl
  | m + 1 => by show len ((ownL L R P m).set _ _) = _; rw [len_eq, List.length_set]; exact ownL_len L R P m
theorem tth_set (l : List ByteArray) (i j : Nat) (x : ByteArray) (h : i < len l) : tth (l.set i x) j = if i = j then x else tth l j := by
  have h2 : i < l.length := h
  unfold tth
  rw [List.getD_eq_getElem?_getD, List.getD_eq_getElem?_getD, List.getElem?_set]
  by_cases e : i = j
  · subst e; simp [h2]
  · simp [e]
theorem ownL_off (L R : List ByteArray) (P : List Int) (i : Nat) : ∀ m, (∀ j, j < m → (nth P j).toNat < len L) → (∀ j, j < m → (nth P j).toNat ≠ i) → tth (ownL L R P m) i = tth L i
  | 0, _, _ => rfl
  | m + 1, hb, h => by
    show tth ((ownL L R P m).set (nth P m).toNat (turnE L R P m)) i = _
    rw [tth_set _ _ _ _ (by rw [ownL_len]; exact hb m (Nat.lt_succ_self m)), if_neg (h m (Nat.lt_succ_self m))]
    exact ownL_off L R P i m (fun j hj => hb j (by omega)) (fun j hj => h j (by omega))
theorem pos_ne {n : Nat} {P : List Int} (hu : ∀ k ∈ P, U64 k) (hm : MayOk (n : Nat) P) {i j : Nat} (hij : i < j) (hj : j < len P) : (nth P i).toNat ≠ (nth P j).toNat := by
  have hr : Rises P := fun i hi h0 => (hm.2 i hi).2 h0
  have h3 := Rises.le hr (i + 1) j (by omega) hj
  have h4 := hr (i + 1) (by omega) (by omega)
  rw [Nat.add_sub_cancel] at h4
  have h5 := hu _ (mem_nth (show i < len P by omega))
  unfold U64 at h5
  omega
theorem ownL_on {L R : List ByteArray} {P : List Int} (hu : ∀ k ∈ P, U64 k) (hm : MayOk (len L : Nat) P) (i : Nat) : ∀ m, m ≤ len P → i < m → tth (ownL L R P m) (nth P i).toNat = turnE L R P i
  | 0, _, h => by omega
  | m + 1, hb, h => by
    have hp := (hm.2 m (by omega)).1
    have hq := hu _ (mem_nth (show m < len P by omega))
    unfold U64 at hq
    show tth ((ownL L R P m).set (nth P m).toNat (turnE L R P m)) _ = _
    rw [tth_set _ _ _ _ (by rw [ownL_len]; omega)]
    by_cases e : i = m
    · subst e; rw [if_pos rfl]
    · rw [if_neg (fun h9 => pos_ne hu hm (show i < m by omega) (by omega) h9.symm)]
      exact ownL_on hu hm i m (by omega) (by omega)
theorem ownL_agree {L R : List ByteArray} {P : List Int} (hu : ∀ k ∈ P, U64 k) (hm : MayOk (len L : Nat) P) : Agree L (ownL L R P (len P)) P :=
  ⟨ownL_len L R P _, fun i hi => by
    refine (ownL_off L R P i (len P) (fun j hj => ?_) (fun j hj e => hi ?_)).symm
    · have hp := (hm.2 j hj).1
      have hq := hu _ (mem_nth hj)
      unfold U64 at hq
      omega
    · have hq := hu _ (mem_nth hj)
      unfold U64 at hq
      rw [show ((i : Nat) : Int) = nth P j by omega]
      exact mem_nth hj⟩
theorem ownL_size {L R : List ByteArray} {P : List Int} {B : Nat} (h1 : ∀ j, (tth L j).size ≤ B) (h2 : ∀ j, (tth R j).size ≤ B) : ∀ m, (∀ j, j < m → (nth P j).toNat < len L) → ∀ i, (tth (ownL L R P m) i).size ≤ B
  | 0, _, i => h1 i
  | m + 1, hb, i => by
    show (tth ((ownL L R P m).set (nth P m).toNat (turnE L R P m)) i).size ≤ B
    rw [tth_set _ _ _ _ (by rw [ownL_len]; exact hb m (Nat.lt_succ_self m))]
    split
    · unfold turnE; split
      · exact h2 _
      · exact h1 _
    · exact ownL_size h1 h2 m (fun j hj => hb j (by omega)) i
theorem tuL_size {L R : List ByteArray} {P : List Int} {B m : Nat} (h1 : ∀ j, (tth L j).size ≤ B) (h2 : ∀ j, (tth R j).size ≤ B) : ∀ i, i < len (tuL L R P m) → (tth (tuL L R P m) i).size ≤ B := fun i hi => by
  rw [tuL_len] at hi
  rw [tuL_at _ _ _ _ _ hi]
  unfold turnE; split
  · exact h2 _
  · exact h1 _
end Go.Proofs.Ytmikkhfklmmkaaa
namespace Go.Proofs.Ytmikkhfklmmkaaa
open Go.RowKit
set_option linter.unusedSimpArgs false
set_option linter.unusedVariables false
set_option maxRecDepth 100000 in
set_option maxHeartbeats 8000000 in
theorem back_law (l r : List ByteArray) (a0 ra0 : Option Addr) (c0 rc0 : Nat) (M : Nat) (w : World) (hl : Txts w a0 l) (hr : Txts w ra0 r) (hn : len l ≤ 9223372036854775807) (hn2 : len r ≤ 9223372036854775807) (hM : M < 18446744073709551616) :
    Calls Try.prog 5 #[.slice a0 (len l) c0, .int .u64 (M : Nat), .slice ra0 (len r) rc0] w fun e w' => e = .returned (.bool true) ∧ Below w.heap.size w w' := by
  have HL := Lib.hid hl
  have HRR := Lib.hid hr
  have HN := Lib.hid hn
  have HN2 := Lib.hid hn2
  have HM := Lib.hid hM
  obtain ⟨i0, hi, hz0, hz1, hz2⟩ := info_parts info_str
  have HZ := Lib.hid hz0
  clear hl hr hn hn2 hM hz0
  go_enter Try.func5, Try.ntmps5
  go_wp2_with fail
  refine (works11_any w).mono ?_
  rintro e w1 ⟨rfl, hb1⟩
  have HB1 := Lib.hid hb1
  clear hb1
  go_wp2_with fail
  refine (cut_call l 80 a0 c0 w1 (by decide) (HL.out.below HB1.out) HN.out).mono ?_
  rintro e w2 ⟨v, rfl, ⟨a, c, rfl, htx, hc⟩, hb2⟩
  obtain ⟨L, hL⟩ : ∃ L, cutL l 80 = L := ⟨_, rfl⟩
  have H80 : Hid (len L ≤ 80) := Lib.hid (by rw [← hL]; exact (cutL_len _ _).1)
  have HSZ : Hid (∀ j, j < len L → (tth L j).size ≤ 1000000) := Lib.hid (by rw [← hL]; exact fun i hi => Nat.le_trans (cutL_size _ _ i hi) (by decide))
  rw [hL] at htx hc ⊢
  have HTX0 := Lib.hid htx
  have HCL := Lib.hid hc
  have HB20 : Hid (Below w.heap.size w w2) := Lib.hid (bnext HB1.out hb2)
  clear hL htx hb2 HB1 hc
  go_wp2_with fail
  refine (cut_call r 80 ra0 rc0 w2 (by decide) (HRR.out.below HB20.out) HN2.out).mono ?_
  rintro e w20 ⟨v2, rfl, ⟨ra, rc, rfl, rtx, hrc⟩, hb20⟩
  obtain ⟨R, hR⟩ : ∃ R, cutL r 80 = R := ⟨_, rfl⟩
  have HR80 : Hid (len R ≤ 80) := Lib.hid (by rw [← hR]; exact (cutL_len _ _).1)
  have HRSZ : Hid (∀ j, j < len R → (tth R j).size ≤ 1000000) := Lib.hid (by rw [← hR]; exact fun i hi => Nat.le_trans (cutL_size _ _ i hi) (by decide))
  rw [hR] at rtx ⊢
  have HRX := Lib.hid rtx
  have HTX := Lib.hid (HTX0.out.below hb20)
  have HB2 : Hid (Below w.heap.size w w20) := Lib.hid (bnext HB20.out hb20)
  clear hR rtx hb20 HB20 hrc HTX0
  by_cases hz : len L = 0
  · have z1 : ((len L : Nat) : Int) = 0 := by omega
    have z2 : (((len L : Nat) : Int) == 0) = true := by simp; omega
    go_wp2_with fail
    refine (fails_any 2 0 [] [] [] none none none 0 0 0 w20 ⟨U64s.nil _ _, Txts.nil _ _, Txts.nil _ _, Nat.zero_le _, fun k hk => by (cases hk), Nat.zero_le _, Nat.zero_le _, Nat.le_refl _, fun i hi => absurd hi (Nat.not_lt_zero _)⟩ (by decide) (by decide) (rootE_arg (by decide)) (by decide)).mono ?_
    rintro e w3 ⟨rfl, hb3⟩
    go_wp2
    go_ret
    exact ⟨by first | rfl | simp, bnext HB2.out hb3⟩
  · have z1 : ¬ ((len L : Nat) : Int) = 0 := by omega
    have z2 : (((len L : Nat) : Int) == 0) = false := by simp; omega
    have HNZ : Hid (0 < len L) := Lib.hid (by omega)
    clear hz
    go_wp2_with fail
    refine (build_any L a c w20 HTX.out (by have := H80.out; omega) (fun j hj => by have := HSZ.out j hj; omega)).mono ?_
    rintro e w3 ⟨b, rfl, hbs, htr, hb3⟩
    have HT3 := Lib.hid htr
    have HTX3 := Lib.hid (HTX.out.below hb3)
    have HX3 := Lib.hid hb3
    have HB3 : Hid (Below w.heap.size w w3) := Lib.hid (bnext HB2.out hb3)
    clear htr hb3 hbs HTX HB2 z1 z2
    go_wp2_with fail
    refine (chosen_any (len L) M w3 HNZ.out H80.out HM.out).mono ?_
    rintro e w4 ⟨vp, rfl, ho4, hb4⟩
    obtain ⟨ap, cp, rfl, hp4, hcp1, hcp2⟩ := own_u64 ho4
    obtain ⟨P, hP⟩ : ∃ P, choP (len L) M = P := ⟨_, rfl⟩
    have HU : Hid (∀ k ∈ P, U64 k) := Lib.hid (by
      rw [← hP]
      intro k hk
      have h1 := (choP_may (len L) M HNZ.out).2.1 k hk
      have h2 := H80.out
      unfold U64; omega)
    have HLP : Hid (len P ≤ 80) := Lib.hid (by have h1 := (choP_may (len L) M HNZ.out).2.2; rw [hP] at h1; have := H80.out; omega)
    have HMY : Hid (MayOk (len L : Nat) P) := Lib.hid (by rw [← hP]; exact (choP_may (len L) M HNZ.out).1)
    rw [hP] at hp4 ⊢
    have HP4 := Lib.hid hp4
    have HB4 : Hid (Below w.heap.size w w4) := Lib.hid (bnext HB3.out hb4)
    have HT4 := Lib.hid (HT3.out.below hb4)
    have HX4 := Lib.hid (bnext HX3.out hb4)
    have HTX4 := Lib.hid (HTX3.out.below hb4)
    clear ho4 hp4 hb4 hP hcp1 hcp2 HT3 HTX3 HB3
    have HPR := Lib.hid (prove_ok L b P ap cp w4 HT4.out (by have := H80.out; omega) HP4.out (by have := HLP.out; omega) HU.out HMY.out)
    go_wp2_with fail
    refine HPR.out.mono ?_
    rintro e w5 ⟨v5, rfl, ho5, hb5⟩
    obtain ⟨a5, c5, rfl, hp5⟩ := own_txts ho5
    have HC5 := Lib.hid (own_capT ho5)
    obtain ⟨D, hD⟩ : ∃ D, dgsL L (plcL (len L : Nat) P) = D := ⟨_, rfl⟩
    have HD5 : Hid (Txts w5 a5 D) := Lib.hid (by rw [← hD]; exact hp5)
    have HTO := Lib.hid (tree_ok (els := L) (ps := P) (by have := H80.out; omega) HMY.out)
    have HPL : Hid (len D ≤ 1600) := Lib.hid (by rw [← hD, dgs_len]; exact plc_len _ _ (by have := HLP.out; omega))
    rw [hD] at HTO HC5 ⊢
    have HB5 : Hid (Below w.heap.size w w5) := Lib.hid (bnext HB4.out hb5)
    have HTX5 := Lib.hid (HTX4.out.below hb5)
    have HT5 := Lib.hid (HT4.out.below hb5)
    have HRX5 := Lib.hid (HRX.out.below (bnext HX4.out hb5))
    have HDE : Hid (dgsL L (plcL (len L : Nat) P) = D) := Lib.hid hD
    have HP5 := Lib.hid (HP4.out.below hb5)
    clear ho5 hp5 hb5 hD HPR HT4 HTX4 HP4 HB4 HX3 HX4
    have E0 : Hid ((w5.alloc (.cells #[] 9)).ownsRow w5.heap.size 9 1 (.slice (some ⟨w5.heap.size, 0, none⟩) 0 0) (len ([] : List ByteArray)) (([] : List ByteArray).map Value.string)) := Lib.hid (World.ownsRow_lit w5 #[] 0 (Nat.le_refl _) (Nat.zero_le _) rfl)
    have HAN : Hid (a = none → c = 0) := Lib.hid (fun e9 => by
      obtain ⟨b9, o9, e8, _⟩ := HTX5.out 0 HNZ.out
      rw [e9] at e8; cases e8)
    go_wp2_with (at_builtin; refine wpList_append_txts rfl _ _ rfl w5.heap.size _ [] L a c rfl E0.out rfl (HTX5.out.below (balloc (Below.refl _ _) _)) HAN.out (show 0 + len L ≤ 100000 by have := H80.out; omega) (by simp) ?_)
    intro ov w6 hown hgrow
    have VB6 : Hid (Below w5.heap.size w5 w6) := Lib.hid (grownBy_below (balloc (Below.refl _ _) _) hgrow (fun k hk => by simp [Value.ownBlock] at hk; omega))
    have HO6 : Hid (w6.ownsRow w5.heap.size 9 1 ov (len L) (L.map Value.string)) := Lib.hid hown
    clear hown hgrow E0
    obtain ⟨ga, gcap, hov, _⟩ := own_txts HO6.out
    subst hov
    obtain ⟨gb, rfl, hgb⟩ := own_form HO6.out HNZ.out
    have HGB : Hid (w5.heap.size ≤ gb ∧ gb < w6.heap.size) := Lib.hid ⟨hgb, (HO6.out.lt gb rfl).2⟩
    clear hgb
    go_wp2
    go_loopg [12, 13, 15] (len P) (fun g ev tv i wr => ∃ m : Nat, g + m = len P ∧ i = .int .i64 m ∧ Hid (wr.ownsRow w6.heap.size 9 1 ev m ((elP L P m).map Value.string)) ∧ Hid (wr.ownsRow w6.heap.size 9 1 tv m ((tuL L R P m).map Value.string)) ∧ Hid (wr.ownsRow w5.heap.size 9 1 (.slice (some ⟨gb, 0, none⟩) (len L) gcap) (len L) ((ownL L R P m).map Value.string)) ∧ Hid (Apart ev tv) ∧ Hid (Below w5.heap.size w5 wr) ∧ Hid (w6.heap.size ≤ wr.heap.size))
    case atStart => exact ⟨0, rfl, rfl, Lib.hid (World.ownsRow_nil _ _ _ _), Lib.hid (World.ownsRow_nil _ _ _ _), HO6, Lib.hid (fun k hk => by cases hk), VB6, Lib.hid (Nat.le_refl _)⟩
    case round =>
      clear HO6 VB6
      obtain ⟨m, hm, rfl, HE, HT, HO, HA, HW, HS⟩ := hrel
      by_cases hlt : m < len P
      · have b0 : (m : Int) < len P := by omega
        have hp80 := HLP.out
        obtain ⟨pb, po, rfl, cp1⟩ := HP5.out m hlt
        have hk := HMY.out.2 m hlt
        have hu := HU.out _ (mem_nth hlt)
        obtain ⟨x, hx⟩ : ∃ x : Nat, nth P m = (x : Nat) := Int.eq_ofNat_of_zero_le hu.1
        rw [hx] at cp1 hk hu
        have hxl : x < len L := by omega
        have hx80 : x < 80 := by have := H80.out; omega
        obtain ⟨lb, lo, rfl, cl1⟩ := HTX5.out x hxl
        have hpl := lt_of_cell cp1
        have cp2 : wr.cell? ⟨pb, po + m, none⟩ = some (.int .u64 (x : Nat)) := by rw [HW.out.cell (p := ⟨pb, po + m, none⟩) (lt_of_cell cp1)]; exact cp1
        have cl2 : wr.cell? ⟨lb, lo + x, none⟩ = some (.string (tth L x)) := by rw [HW.out.cell (p := ⟨lb, lo + x, none⟩) (lt_of_cell cl1)]; exact cl1
        obtain ⟨s, hs⟩ : ∃ s, tth L x = s := ⟨_, rfl⟩
        rw [hs] at cl2
        have HSN : Hid (elP L P (m + 1) = elP L P m ++ [s]) := Lib.hid (by rw [elP_snoc L P m hlt, hx, Int.toNat_natCast, hs])
        have HTN : Hid (tuL L R P (m + 1) = tuL L R P m ++ [turnE L R P m]) := Lib.hid (tuL_snoc L R P m)
        have HON : Hid (ownL L R P (m + 1) = (ownL L R P m).set x (turnE L R P m)) := Lib.hid (by
          show (ownL L R P m).set (nth P m).toNat _ = _
          rw [hx, Int.toNat_natCast])
        have HTE : Hid (turnE L R P m = if m < len R then tth R m else s) := Lib.hid (by unfold turnE; rw [hx, Int.toNat_natCast, hs])
        have bl : ¬ len P ≤ m := by omega
        have bk : ¬ len L ≤ x := by omega
        have HLT := Lib.hid hlt
        clear cp1 cl1 hk hu hx hs hpl
        go_wp2_with (at_builtin; refine wpList_append_own_at _ rfl _ _ 26 rfl w6.heap.size 9 i0 (.string ⟨#[]⟩) 1 16 Try.underlying26 hi HZ.out hz1 hz2 rfl (by decide) _ _ _ rfl (HE.out.alloc _) ⟨wr.heap.size, 0, none⟩ 1 1 [.string s] rfl rfl (cell_one_new _ _ _) (by simp [Value.oneCell']) (by unfold maxLen; omega) (by omega) (by have := HS.out; simp; omega) ?_)
        intro v' x2 hown' hgrow _ hat
        have hlo : ∀ k, Value.ownBlock _ = some k → w6.heap.size ≤ k := fun k hk => (HE.out.lt k hk).1
        have HW2 : Hid (Below w5.heap.size w5 x2) := Lib.hid (grownBy_below (balloc HW.out _) hgrow (fun k hk => Nat.le_trans (Nat.le_of_lt (Nat.lt_of_le_of_lt HGB.out.1 HGB.out.2)) (hlo k hk)))
        have HE2 : Hid (x2.ownsRow w6.heap.size 9 1 v' (m + 1) ((elP L P (m + 1)).map Value.string)) := Lib.hid (by
          rw [HSN.out, List.map_append]; exact hown')
        have HT2 := Lib.hid (HA.out.symm.keep (HT.out.alloc (.cells #[.string s] 9)) hgrow)
        have HA2 := Lib.hid (Apart.grow (v' := v') HA.out.symm (HT.out.alloc (.cells #[.string s] 9)) (by simpa using hat))
        have HO2 := Lib.hid ((HO.out.alloc (.cells #[.string s] 9)).kept hgrow (.inr (fun e9 => by
          have h1 := hlo gb e9.symm
          have h2 := HGB.out.2
          omega)))
        have HS2 : Hid (w6.heap.size ≤ x2.heap.size) := Lib.hid (by have h1 := HS.out; have h2 := hgrow.size; simp at h2; omega)
        have cp3 : x2.cell? ⟨pb, po + m, none⟩ = some (.int .u64 (x : Nat)) := by
          have h9 := HP5.out m HLT.out
          obtain ⟨b9, o9, e9, h8⟩ := h9
          cases e9
          rw [HW2.out.cell (p := ⟨pb, po + m, none⟩) (lt_of_cell h8), ← HW.out.cell (p := ⟨pb, po + m, none⟩) (lt_of_cell h8)]
          exact cp2
        clear hown' hgrow hat HE HT HO HA HW HS hlo cl2 cp2
        by_cases hmr : m < len R
        · have b2 : (m : Int) < len R := by omega
          obtain ⟨rb, ro, rfl, cr1⟩ := HRX5.out m hmr
          have cr2 : x2.cell? ⟨rb, ro + m, none⟩ = some (.string (tth R m)) := by rw [HW2.out.cell (p := ⟨rb, ro + m, none⟩) (lt_of_cell cr1)]; exact cr1
          obtain ⟨y, hy⟩ : ∃ y, tth R m = y := ⟨_, rfl⟩
          rw [hy] at cr2
          have HTY : Hid (turnE L R P m = y) := Lib.hid (by rw [HTE.out, if_pos hmr, hy])
          have br : ¬ len R ≤ m := by omega
          clear cr1 hmr hy
          go_wp2_with (at_builtin; refine wpList_append_own_at _ rfl _ _ 26 rfl w6.heap.size 9 i0 (.string ⟨#[]⟩) 1 16 Try.underlying26 hi HZ.out hz1 hz2 rfl (by decide) _ _ _ rfl (HT2.out.alloc _) ⟨x2.heap.size, 0, none⟩ 1 1 [.string y] rfl rfl (cell_one_new _ _ _) (by simp [Value.oneCell']) (by unfold maxLen; omega) (by omega) (by have := HS2.out; simp; omega) ?_)
          intro t' x3 hown' hgrow _ hat
          have hlo : ∀ k, Value.ownBlock _ = some k → w6.heap.size ≤ k := fun k hk => (HT2.out.lt k hk).1
          have HW3 : Hid (Below w5.heap.size w5 x3) := Lib.hid (grownBy_below (balloc HW2.out _) hgrow (fun k hk => Nat.le_trans (Nat.le_of_lt (Nat.lt_of_le_of_lt HGB.out.1 HGB.out.2)) (hlo k hk)))
          have HT3 : Hid (x3.ownsRow w6.heap.size 9 1 t' (m + 1) ((tuL L R P (m + 1)).map Value.string)) := Lib.hid (by
            rw [HTN.out, List.map_append, HTY.out]; exact hown')
          have HE3 := Lib.hid (HA2.out.symm.keep (HE2.out.alloc (.cells #[.string y] 9)) hgrow)
          have HA3 := Lib.hid (Apart.grow (v' := t') HA2.out.symm (HE2.out.alloc (.cells #[.string y] 9)) (by simpa using hat))
          have HO3 := Lib.hid ((HO2.out.alloc (.cells #[.string y] 9)).kept hgrow (.inr (fun e9 => by
            have h1 := hlo gb e9.symm
            have h2 := HGB.out.2
            omega)))
          have HS3 : Hid (w6.heap.size ≤ x3.heap.size) := Lib.hid (by have h1 := HS2.out; have h2 := hgrow.size; simp at h2; omega)
          have cp4 : x3.cell? ⟨pb, po + m, none⟩ = some (.int .u64 (x : Nat)) := by
            have h9 := HP5.out m HLT.out
            obtain ⟨b9, o9, e9, h8⟩ := h9
            cases e9
            rw [HW3.out.cell (p := ⟨pb, po + m, none⟩) (lt_of_cell h8), ← HW2.out.cell (p := ⟨pb, po + m, none⟩) (lt_of_cell h8)]
            exact cp3
          obtain ⟨g9, e9, _, cx, cfz, cgl⟩ := own_at HO3.out x hxl
          cases e9
          clear hown' hgrow hat HT2 HE2 HA2 HO2 HW2 HS2 hlo cp3
          go_upto_region 18 with fail
          obtain ⟨V, hV⟩ : ∃ V, x3.setCell ⟨gb, x, none⟩ (.string y) = V := ⟨_, rfl⟩
          have h6 := HGB.out
          have HEV : Hid (V.ownsRow w6.heap.size 9 1 v' (m + 1) ((elP L P (m + 1)).map Value.string)) := Lib.hid (by
            rw [← hV]
            exact own_setO HE3.out (fun e8 => by have := (HE3.out.lt gb e8).1; omega))
          have HTV : Hid (V.ownsRow w6.heap.size 9 1 t' (m + 1) ((tuL L R P (m + 1)).map Value.string)) := Lib.hid (by
            rw [← hV]
            exact own_setO HT3.out (fun e8 => by have := (HT3.out.lt gb e8).1; omega))
          have HOV : Hid (V.ownsRow w5.heap.size 9 1 (.slice (some ⟨gb, 0, none⟩) (len L) gcap) (len L) ((ownL L R P (m + 1)).map Value.string)) := Lib.hid (by
            rw [← hV, HON.out, List.map_set, HTY.out]
            exact own_set HO3.out)
          have HWV : Hid (Below w5.heap.size w5 V) := Lib.hid (by rw [← hV]; exact bset HW3.out h6.1 _)
          have HSV : Hid (w6.heap.size ≤ V.heap.size) := Lib.hid (by rw [← hV]; simp; exact HS3.out)
          rw [hV]
          clear hV cx cfz cgl HT3 HE3 HO3 HW3 HS3 cp4 h6
          go_wp2
          go_roundg (len P - (m + 1))
          case rel => exact ⟨m + 1, by omega, by go_num, HEV, HTV, HOV, HA3, HWV, HSV⟩
          case measure => omega
        · have b2 : ¬ (m : Int) < len R := by omega
          obtain ⟨y, rfl⟩ : ∃ y, y = s := ⟨_, rfl⟩
          have HTY : Hid (turnE L R P m = y) := Lib.hid (by rw [HTE.out, if_neg hmr])
          clear hmr
          go_wp2_with (at_builtin; refine wpList_append_own_at _ rfl _ _ 26 rfl w6.heap.size 9 i0 (.string ⟨#[]⟩) 1 16 Try.underlying26 hi HZ.out hz1 hz2 rfl (by decide) _ _ _ rfl (HT2.out.alloc _) ⟨x2.heap.size, 0, none⟩ 1 1 [.string y] rfl rfl (cell_one_new _ _ _) (by simp [Value.oneCell']) (by unfold maxLen; omega) (by omega) (by have := HS2.out; simp; omega) ?_)
          intro t' x3 hown' hgrow _ hat
          have hlo : ∀ k, Value.ownBlock _ = some k → w6.heap.size ≤ k := fun k hk => (HT2.out.lt k hk).1
          have HW3 : Hid (Below w5.heap.size w5 x3) := Lib.hid (grownBy_below (balloc HW2.out _) hgrow (fun k hk => Nat.le_trans (Nat.le_of_lt (Nat.lt_of_le_of_lt HGB.out.1 HGB.out.2)) (hlo k hk)))
          have HT3 : Hid (x3.ownsRow w6.heap.size 9 1 t' (m + 1) ((tuL L R P (m + 1)).map Value.string)) := Lib.hid (by
            rw [HTN.out, List.map_append, HTY.out]; exact hown')
          have HE3 := Lib.hid (HA2.out.symm.keep (HE2.out.alloc (.cells #[.string y] 9)) hgrow)
          have HA3 := Lib.hid (Apart.grow (v' := t') HA2.out.symm (HE2.out.alloc (.cells #[.string y] 9)) (by simpa using hat))
          have HO3 := Lib.hid ((HO2.out.alloc (.cells #[.string y] 9)).kept hgrow (.inr (fun e9 => by
            have h1 := hlo gb e9.symm
            have h2 := HGB.out.2
            omega)))
          have HS3 : Hid (w6.heap.size ≤ x3.heap.size) := Lib.hid (by have h1 := HS2.out; have h2 := hgrow.size; simp at h2; omega)
          have cp4 : x3.cell? ⟨pb, po + m, none⟩ = some (.int .u64 (x : Nat)) := by
            have h9 := HP5.out m HLT.out
            obtain ⟨b9, o9, e9, h8⟩ := h9
            cases e9
            rw [HW3.out.cell (p := ⟨pb, po + m, none⟩) (lt_of_cell h8), ← HW2.out.cell (p := ⟨pb, po + m, none⟩) (lt_of_cell h8)]
            exact cp3
          obtain ⟨g9, e9, _, cx, cfz, cgl⟩ := own_at HO3.out x hxl
          cases e9
          clear hown' hgrow hat HT2 HE2 HA2 HO2 HW2 HS2 hlo cp3
          go_upto_region 18 with fail
          obtain ⟨V, hV⟩ : ∃ V, x3.setCell ⟨gb, x, none⟩ (.string y) = V := ⟨_, rfl⟩
          have h6 := HGB.out
          have HEV : Hid (V.ownsRow w6.heap.size 9 1 v' (m + 1) ((elP L P (m + 1)).map Value.string)) := Lib.hid (by
            rw [← hV]
            exact own_setO HE3.out (fun e8 => by have := (HE3.out.lt gb e8).1; omega))
          have HTV : Hid (V.ownsRow w6.heap.size 9 1 t' (m + 1) ((tuL L R P (m + 1)).map Value.string)) := Lib.hid (by
            rw [← hV]
            exact own_setO HT3.out (fun e8 => by have := (HT3.out.lt gb e8).1; omega))
          have HOV : Hid (V.ownsRow w5.heap.size 9 1 (.slice (some ⟨gb, 0, none⟩) (len L) gcap) (len L) ((ownL L R P (m + 1)).map Value.string)) := Lib.hid (by
            rw [← hV, HON.out, List.map_set, HTY.out]
            exact own_set HO3.out)
          have HWV : Hid (Below w5.heap.size w5 V) := Lib.hid (by rw [← hV]; exact bset HW3.out h6.1 _)
          have HSV : Hid (w6.heap.size ≤ V.heap.size) := Lib.hid (by rw [← hV]; simp; exact HS3.out)
          rw [hV]
          clear hV cx cfz cgl HT3 HE3 HO3 HW3 HS3 cp4 h6
          go_wp2
          go_roundg (len P - (m + 1))
          case rel => exact ⟨m + 1, by omega, by go_num, HEV, HTV, HOV, HA3, HWV, HSV⟩
          case measure => omega
      · obtain rfl : m = len P := by omega
        have b0 : ¬ ((len P : Nat) : Int) < len P := by omega
        obtain ⟨E, hE9⟩ : ∃ E, elP L P (len P) = E := ⟨_, rfl⟩
        obtain ⟨T, hT9⟩ : ∃ T, tuL L R P (len P) = T := ⟨_, rfl⟩
        obtain ⟨O, hO9⟩ : ∃ O, ownL L R P (len P) = O := ⟨_, rfl⟩
        have hposb : ∀ j, j < len P → (nth P j).toNat < len L := fun j hj => by
          have h1 := (HMY.out.2 j hj).1
          have h2 := HU.out _ (mem_nth hj)
          unfold U64 at h2
          omega
        have HEF : Hid (len E = len P ∧ ∀ i, i < len E → (tth E i).size ≤ 1000000) := Lib.hid (by
          rw [← hE9]
          exact ⟨elP_len L P _ (Nat.le_refl _), elP_size L P _ (Nat.le_refl _) (tth_small HSZ.out)⟩)
        have HTF : Hid (len T = len P ∧ ∀ i, i < len T → (tth T i).size ≤ 1000000) := Lib.hid (by
          rw [← hT9]
          exact ⟨tuL_len L R P _, tuL_size (tth_small HSZ.out) (tth_small HRSZ.out)⟩)
        have HOF : Hid (len O = len L ∧ ∀ i, (tth O i).size ≤ 1000000) := Lib.hid (by
          rw [← hO9]
          exact ⟨ownL_len L R P _, ownL_size (tth_small HSZ.out) (tth_small HRSZ.out) _ hposb⟩)
        have HBK1 : Hid (rootE (len L : Nat) P E D = 0 ∧ rootS (len L : Nat) P E D = plD L (depN L) (depN L) 0) := Lib.hid (by
          rw [← HDE.out]
          exact back_root (by have := H80.out; omega) HU.out HMY.out (Agree.refl L P) HEF.out.1 (fun m hm => by rw [← hE9]; exact elP_at L P _ m (Nat.le_refl _) hm))
        have HBK2 : Hid (rootE (len L : Nat) P T D = 0 ∧ rootS (len L : Nat) P T D = plD O (depN O) (depN O) 0) := Lib.hid (by
          rw [← HDE.out]
          refine back_root (by have := H80.out; omega) HU.out HMY.out (by rw [← hO9]; exact ownL_agree HU.out HMY.out) HTF.out.1 (fun m hm => ?_)
          rw [← hT9, ← hO9, tuL_at _ _ _ _ _ hm, ownL_on HU.out HMY.out m _ (Nat.le_refl _) hm])
        rw [hE9] at HE
        rw [hT9] at HT
        rw [hO9] at HO
        obtain ⟨ae, ce, hev, hte⟩ := own_txts HE.out
        subst hev
        obtain ⟨at9, ct, htv, htt⟩ := own_txts HT.out
        subst htv
        obtain ⟨ao, co, hov, hto⟩ := own_txts HO.out
        injection hov with ho1 ho2 ho3
        subst ho1 ho3
        have HD7 := Lib.hid (HD5.out.below HW.out)
        have HP7 := Lib.hid (HP5.out.below HW.out)
        have HT7 := Lib.hid (HT5.out.below HW.out)
        have HB7 : Hid (Below w.heap.size w wr) := Lib.hid (bnext HB5.out HW.out)
        have HBO := Lib.hid (build_any O (some ⟨gb, 0, none⟩) gcap wr hto (by rw [HOF.out.1]; have := H80.out; omega) (fun j hj => Nat.le_trans (HOF.out.2 j) (by decide)))
        rw [HOF.out.1] at HBO
        have HPI1 : Hid (PrIn P E D ap ae a5 c5 wr) := Lib.hid ⟨HP7.out, hte, HD7.out, by have := HLP.out; omega, HU.out, by have := HEF.out.1; have := HLP.out; omega, by have := HPL.out; omega, HC5.out.1, HEF.out.2⟩
        have HPI2 : Hid (PrIn P T D ap at9 a5 c5 wr) := Lib.hid ⟨HP7.out, htt, HD7.out, by have := HLP.out; omega, HU.out, by have := HTF.out.1; have := HLP.out; omega, by have := HPL.out; omega, HC5.out.1, HTF.out.2⟩
        have hl80 := H80.out
        have HI1 := Lib.hid (fun w9 hb9 => is_any _ (len L : Nat) P E D ap ae a5 cp ce c5 w9 (HPI1.out.below hb9) (by omega) (by omega) HBK1.out.1 HBK1.out.2)
        have HI2 := Lib.hid (fun w9 hb9 => is_any _ (len L : Nat) P T D ap at9 a5 cp ct c5 w9 (HPI2.out.below hb9) (by omega) (by omega) HBK2.out.1 HBK2.out.2)
        have HC1 := Lib.hid (fun r9 w9 hb9 => pcheck_any r9 (len L : Nat) P E D ap ae a5 cp ce c5 w9 (HPI1.out.below hb9) (by omega) (by omega))
        have HC2 := Lib.hid (fun r9 w9 hb9 => pcheck_any r9 (len L : Nat) P T D ap at9 a5 cp ct c5 w9 (HPI2.out.below hb9) (by omega) (by omega))
        have HR1 := Lib.hid (fun w9 hb9 => root_any L b w9 (HT7.out.below hb9))
        obtain ⟨X1, hX1⟩ : ∃ X1, plD L (depN L) (depN L) 0 = X1 := ⟨_, rfl⟩
        obtain ⟨X2, hX2⟩ : ∃ X2, plD O (depN O) (depN O) 0 = X2 := ⟨_, rfl⟩
        have HX2 := Lib.hid hX2
        rw [hX1] at HI1 HBK1 HR1
        rw [hX2] at HI2 HBK2
        have HCE1 : Hid (checkE X1 (len L : Nat) P E D = 0) := Lib.hid (by
          unfold checkE
          rw [if_neg (fun h9 => h9.2 HBK1.out.2)]; exact HBK1.out.1)
        have HCE2 : Hid (checkE X1 (len L : Nat) P T D = if X1 = X2 then 0 else 20) := Lib.hid (by
          unfold checkE
          by_cases e9 : X1 = X2
          · rw [if_neg (fun h9 => h9.2 (HBK2.out.2.trans e9.symm)), if_pos e9]; exact HBK2.out.1
          · rw [if_pos ⟨HBK2.out.1, fun h9 => e9 (h9.symm.trans HBK2.out.2)⟩, if_neg e9])
        clear hE9 hT9 hO9 hposb hte htt hto hX1 hX2 HE HT HO HA HW HS HPI1 HPI2 HBK1 HBK2 hlt hm ho2 HD5 HP5 HT5 HTX5 HRX5 HB5
        try clear hov
        go_wp2_with fail
        refine HBO.out.mono ?_
        rintro e w8 ⟨b2, rfl, hbs2, htr2, hb8⟩
        have HW8 := Lib.hid hb8
        have HT8 := Lib.hid htr2
        have HR2 := Lib.hid (fun w9 hb9 => root_any O b2 w9 (HT8.out.below hb9))
        rw [HX2.out] at HR2
        clear hbs2 htr2 hb8 HBO
        go_wp2_with fail
        refine (HR1.out w8 HW8.out).mono ?_
        rintro e wq ⟨rfl, rfl⟩
        go_wp2_with fail
        refine (HI1.out w8 HW8.out).mono ?_
        rintro e w9 ⟨rfl, hb9⟩
        have HW9 : Hid (Below wr.heap.size wr w9) := Lib.hid (bnext HW8.out hb9)
        have HY9 := Lib.hid hb9
        clear hb9 HI1
        go_wp2_with fail
        refine (HR2.out w9 HY9.out).mono ?_
        rintro e wq ⟨rfl, rfl⟩
        go_wp2_with fail
        refine (HI2.out w9 HW9.out).mono ?_
        rintro e w10 ⟨rfl, hb10⟩
        have HW10 : Hid (Below wr.heap.size wr w10) := Lib.hid (bnext HW9.out hb10)
        have HY10 : Hid (Below w8.heap.size w8 w10) := Lib.hid (bnext HY9.out hb10)
        clear hb10 HI2 HW9 HY9
        go_wp2_with fail
        refine (HR1.out w10 HW10.out).mono ?_
        rintro e wq ⟨rfl, rfl⟩
        go_wp2_with fail
        refine (HR2.out w10 HY10.out).mono ?_
        rintro e wq ⟨rfl, rfl⟩
        by_cases hx : X1 = X2
        · have e1 : (X1.toList == X2.toList) = true := by rw [str_beq]; exact decide_eq_true hx
          have HCE3 : Hid (checkE X1 (len L : Nat) P T D = 0) := Lib.hid (by rw [HCE2.out, if_pos hx])
          clear hx
          go_wp2_with fail
          refine (HR1.out w10 HW10.out).mono ?_
          rintro e wq ⟨rfl, rfl⟩
          go_wp2_with fail
          refine (HC1.out X1 w10 HW10.out).mono ?_
          rintro e w11 ⟨rfl, hb11⟩
          rw [HCE1.out]
          have HW11 : Hid (Below wr.heap.size wr w11) := Lib.hid (bnext HW10.out hb11)
          clear hb11
          go_wp2_with fail
          refine (HR1.out w11 HW11.out).mono ?_
          rintro e wq ⟨rfl, rfl⟩
          go_wp2_with fail
          refine (HC2.out X1 w11 HW11.out).mono ?_
          rintro e w12 ⟨rfl, hb12⟩
          rw [HCE3.out]
          have HW12 : Hid (Below w.heap.size w w12) := Lib.hid (bnext HB7.out (bnext HW11.out hb12))
          clear hb12
          go_wp2
          go_ret
          exact ⟨by first | rfl | simp, HW12.out⟩
        · have e1 : (X1.toList == X2.toList) = false := by rw [str_beq]; exact decide_eq_false hx
          have HCE3 : Hid (checkE X1 (len L : Nat) P T D = 20) := Lib.hid (by rw [HCE2.out, if_neg hx])
          clear hx
          go_wp2_with fail
          refine (HR1.out w10 HW10.out).mono ?_
          rintro e wq ⟨rfl, rfl⟩
          go_wp2_with fail
          refine (HC1.out X1 w10 HW10.out).mono ?_
          rintro e w11 ⟨rfl, hb11⟩
          rw [HCE1.out]
          have HW11 : Hid (Below wr.heap.size wr w11) := Lib.hid (bnext HW10.out hb11)
          clear hb11
          go_wp2_with fail
          refine (HR1.out w11 HW11.out).mono ?_
          rintro e wq ⟨rfl, rfl⟩
          go_wp2_with fail
          refine (HC2.out X1 w11 HW11.out).mono ?_
          rintro e w12 ⟨rfl, hb12⟩
          rw [HCE3.out]
          have HW12 : Hid (Below w.heap.size w w12) := Lib.hid (bnext HB7.out (bnext HW11.out hb12))
          clear hb12
          go_wp2
          go_ret
          exact ⟨by first | rfl | simp, HW12.out⟩
end Go.Proofs.Ytmikkhfklmmkaaa
namespace Go.Proofs.Ytmikkhfklmmkaaa
set_option linter.unusedSimpArgs false
set_option linter.unusedVariables false
open Go.RowKit Go.ChangeShapes Go.WideShapes Go.ChangeAt Go.Deep
section
variable {H : Type} {enc : TypeId × Value → H} {P : Program} {w : World}
theorem below_trodAll (hl : laidOutB P = true) {W W' : World} (hb : Below W.heap.size W W') : ∀ {ts : List TypeId} {vs : List Value} {ds : List (DataW H)} {ps : List MemPlace},
    (∀ t ∈ ts, P.readableRec t = true ∧ t < P.types.size) → DataW.TrodAll enc P W 0 (fun _ => true) true ts vs ds ps → DataW.TrodAll enc P W' 0 (fun b => decide (b < W.heap.size)) true ts vs ds ps
  | [], vs, ds, ps, _, h => by
    obtain ⟨rfl, rfl, rfl⟩ := trodAll_nil h
    exact trodAll_mk0
  | t :: ts, vs, ds, ps, ht, h => by
    obtain ⟨v, vs', d, ds', p, q, rfl, rfl, rfl, h0, r0⟩ := trodAll_cons h
    have lt0 : ∀ x ∈ p, x.block < W.heap.size := by obtain ⟨m, hm⟩ := h0; exact DataW.trod_lt m _ _ _ hm
    exact trodAll_cons_mk (Below.trod hl (ht t (List.mem_cons_self ..)).1 (ht t (List.mem_cons_self ..)).2 h0 hb lt0) (below_trodAll hl hb (fun t' h' => ht t' (List.mem_cons_of_mem _ h')) r0)
theorem list_of {α : Type} {n : Nat} {p : Nat → α → Prop} (h : ∀ i, i < n → ∃ x, p i x) : ∃ l : List α, l.length = n ∧ ∀ i (hi : i < l.length), p i l[i] := by
  induction n with
  | zero => exact ⟨[], rfl, fun i hi => by simp at hi⟩
  | succ n ih =>
    obtain ⟨l, hl, hp⟩ := ih (fun i hi => h i (by omega))
    obtain ⟨x, hx⟩ := h n (by omega)
    refine ⟨l ++ [x], by simp [hl], fun i hi => ?_⟩
    rcases Nat.lt_or_ge i l.length with h' | h'
    · rw [List.getElem_append_left h']; exact hp i h'
    · have e : i = l.length := by simp at hi; omega
      subst e
      simp only [List.getElem_append_right (Nat.le_refl _), Nat.sub_self, List.getElem_cons_zero]
      rw [hl]; exact hx
theorem open_elems {α : Type} {t e : TypeId} (k : Nat) (cells : α → List Value) (ok : α → Prop) (ht : P.underlying t = some (.slice e)) (hC : P.cellsOf e = k) (hk : 0 < k)
    (hel : ∀ n cs' y, cs'.length = k → DataW.trod enc P w 0 (fun _ => true) true n e cs' = some y → ∃ x, cs' = cells x ∧ ok x)
    {v : Value} {d : DataW H} {p : List MemPlace} {r : Reach} {base : Nat} (hv : Value.okWide P w r base t v) (h : DataW.Trod enc P w 0 (fun _ => true) true t v d p) :
    ∃ a c, ∃ l : List α, v = .slice a (len l) c ∧ len l ≤ c ∧ c ≤ maxLen ∧ ∀ i (hi : i < l.length), ok l[i] ∧ ∃ b off, a = some ⟨b, off, none⟩ ∧ ∀ j, j < k → w.cell? ⟨b, off + i * k + j, none⟩ = (cells l[i])[j]? := by
  obtain ⟨a0, n0, c0, rfl⟩ := okWide_slice ht hv
  obtain ⟨fuel, hf⟩ := h
  rcases open_slice ht hf with ⟨hcs, _⟩ | ⟨a, n, c, m, q, D, Pl, hcs, _, hl, hm, hmm, _, hi⟩
  · simp [Value.cells] at hcs
    obtain ⟨rfl, rfl, rfl⟩ := hcs
    exact ⟨none, 0, [], rfl, Nat.le_refl _, Nat.zero_le _, fun i hi => by simp at hi⟩
  · simp [Value.cells] at hcs
    obtain ⟨rfl, rfl, rfl⟩ := hcs
    have hnm : n0 ≤ m := by rw [hmm]; simp; exact hl
    have each : ∀ i, i < n0 → ∃ x, ok x ∧ ∃ b off, some a = some ⟨b, off, none⟩ ∧ ∀ j, j < k → w.cell? ⟨b, off + i * k + j, none⟩ = (cells x)[j]? := by
      intro i hin
      obtain ⟨cs', hc, htr⟩ := hi i (by omega)
      rw [hC] at hc
      obtain ⟨_, hcl, hat⟩ := World.cells?_some hc
      obtain ⟨x, rfl, hx⟩ := hel q cs' _ hcl htr
      obtain ⟨b, off, spot⟩ := a
      have hspot : spot = none := by
        obtain ⟨cs0, hc0, htr0⟩ := hi 0 (by omega)
        rw [hC] at hc0
        obtain ⟨_, hcl0, hat0⟩ := World.cells?_some hc0
        have h1 := hat0 0 hk
        have h2 : cs0[0]? = some (cs0[0]'(by omega)) := List.getElem?_eq_getElem (by omega)
        rw [h2] at h1
        simpa [Addr.add] using World.cell?_spot h1
      subst hspot
      refine ⟨x, hx, b, off, rfl, fun j hj => ?_⟩
      have h1 := hat j hj
      rw [Go.Deep.add_add] at h1
      have e : (⟨b, off, none⟩ : Addr).add (i * k + j) = ⟨b, off + i * k + j, none⟩ := by
        unfold Addr.add; split
        · rename_i h0; simp <;> omega
        · simp [Nat.add_assoc]
      rw [e] at h1; exact h1
    obtain ⟨l, hll, hp⟩ := list_of each
    subst hll
    exact ⟨some a, c0, l, rfl, hl, hm, hp⟩
theorem wf_u64 {x : Int} (h : (Lit.int .u64 x).wf = true) : 0 ≤ x ∧ x < 18446744073709551616 := by
  simp [Lit.wf, IntKind.min, IntKind.max, IntKind.bits, IntKind.signed] at h; omega
end
end Go.Proofs.Ytmikkhfklmmkaaa
namespace Go.Proofs.Ytmikkhfklmmkaaa
set_option linter.unusedSimpArgs false
set_option linter.unusedVariables false
open Go.RowKit Go.ChangeShapes Go.WideShapes Go.ChangeAt
theorem own : ownKnob Try.prog.godebug = none := by kernel_rfl
theorem laidOut : laidOutB Try.prog = true := by kernel_rfl
end Go.Proofs.Ytmikkhfklmmkaaa
namespace Go.Proofs.Ytmikkhfklmmkaaa
set_option linter.unusedSimpArgs false
set_option linter.unusedVariables false
open Go.RowKit Go.ChangeShapes Go.WideShapes Go.ChangeAt Go.ChangeMaps
section
variable {P : Program} {H : Type} {enc : TypeId × Value → H} {w : World}
theorem str_readx {n : Nat} {e : TypeId} {v : Value} {y : DataW H × List MemPlace} (he : P.underlying e = some .string) (h : DataW.trod enc P w 0 (fun _ => true) true n e [v] = some y) : ∃ s : ByteArray, v = .string s ∧ s.size ≤ maxLen := by
  obtain ⟨s, hx, _, hw⟩ := DataW.trod_string he h
  exact ⟨s, by simpa using hx, hw⟩
theorem open_txts {t e : TypeId} (ht : P.underlying t = some (.slice e)) (he : P.underlying e = some .string) (hC : P.cellsOf e = 1)
    {v : Value} {d : DataW H} {p : List MemPlace} {r : Reach} {base : Nat} (hv : Value.okWide P w r base t v) (h : DataW.Trod enc P w 0 (fun _ => true) true t v d p) :
    ∃ a c, ∃ l : List ByteArray, v = .slice a (len l) c ∧ len l ≤ c ∧ c ≤ maxLen ∧ Txts w a l := by
  obtain ⟨a, c, l, rfl, h1, h2, h3⟩ := open_elems 1 (fun x => [Value.string x]) (fun _ => True) ht hC (by decide) (fun n cs' y hl hy => by
    match cs', hl with
    | [v0], _ =>
      obtain ⟨s, rfl, _⟩ := str_readx he hy
      exact ⟨s, rfl, trivial⟩) hv h
  refine ⟨a, c, l, rfl, h1, h2, fun i hi => ?_⟩
  obtain ⟨_, b, off, e1, e2⟩ := h3 i hi
  refine ⟨b, off, e1, ?_⟩
  have := e2 0 (by decide)
  rw [Nat.mul_one, Nat.add_zero] at this
  rw [this, tth_eq l i hi]; rfl
end
end Go.Proofs.Ytmikkhfklmmkaaa
